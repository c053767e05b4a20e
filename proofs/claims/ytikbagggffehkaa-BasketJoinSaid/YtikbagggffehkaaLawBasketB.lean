import Derived.Test.YtikbagggffehkaaBasketD
set_option linter.unusedVariables false
set_option linter.unusedSimpArgs false

