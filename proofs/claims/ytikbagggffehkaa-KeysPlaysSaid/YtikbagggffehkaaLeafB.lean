import Derived.Test.YtikbagggffehkaaLeafA
set_option linter.unusedVariables false
set_option linter.unusedSimpArgs false

