import Derived.Test.YtphknfgiljkjaaaAMA
import Derived.Test.YtphknfgiljkjaaaCrc
set_option linter.unusedVariables false
set_option linter.unusedSimpArgs false

