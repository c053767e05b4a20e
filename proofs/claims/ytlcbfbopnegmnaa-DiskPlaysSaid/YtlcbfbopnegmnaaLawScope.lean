import Derived.Test.YtlcbfbopnegmnaaScopeB
set_option linter.unusedVariables false
set_option linter.unusedSimpArgs false

