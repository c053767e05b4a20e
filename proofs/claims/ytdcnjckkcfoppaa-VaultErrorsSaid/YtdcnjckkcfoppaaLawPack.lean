import Derived.Test.YtdcnjckkcfoppaaPackA
set_option linter.unusedVariables false
set_option linter.unusedSimpArgs false

