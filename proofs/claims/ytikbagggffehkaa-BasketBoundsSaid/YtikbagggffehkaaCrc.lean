import Derived.Test.YtikbagggffehkaaAMA
set_option linter.unusedVariables false
set_option linter.unusedSimpArgs false

