import Derived.Test.YtlcbfbopnegmnaaLeafA
set_option linter.unusedVariables false
set_option linter.unusedSimpArgs false

