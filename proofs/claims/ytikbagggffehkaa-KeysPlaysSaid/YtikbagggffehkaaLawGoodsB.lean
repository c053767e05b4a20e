import Derived.Test.YtikbagggffehkaaLawGoods
set_option linter.unusedVariables false
set_option linter.unusedSimpArgs false

