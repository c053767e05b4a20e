import Derived.Test.YtlcbfbopnegmnaaLawGoods
set_option linter.unusedVariables false
set_option linter.unusedSimpArgs false

