import Derived.Test.YtikbagggffehkaaPackA
set_option linter.unusedVariables false
set_option linter.unusedSimpArgs false

