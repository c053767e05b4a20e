import Derived.Test.YtdcnjckkcfoppaaScopeB
set_option linter.unusedVariables false
set_option linter.unusedSimpArgs false

