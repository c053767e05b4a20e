import Derived.Test.YtdcnjckkcfoppaaLeafA
set_option linter.unusedVariables false
set_option linter.unusedSimpArgs false

