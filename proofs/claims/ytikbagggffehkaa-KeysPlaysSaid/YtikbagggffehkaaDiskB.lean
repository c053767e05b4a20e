import Derived.Test.YtikbagggffehkaaDiskA
set_option linter.unusedVariables false
set_option linter.unusedSimpArgs false

