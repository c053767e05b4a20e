import Derived.Test.YtlcbfbopnegmnaaPackA
set_option linter.unusedVariables false
set_option linter.unusedSimpArgs false

