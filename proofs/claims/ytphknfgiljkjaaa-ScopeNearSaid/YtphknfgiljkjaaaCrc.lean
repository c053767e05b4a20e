import Derived.Test.YtphknfgiljkjaaaAMA
set_option linter.unusedVariables false
set_option linter.unusedSimpArgs false

