import Derived.Test.YtikbagggffehkaaLawScopeB
import Derived.Test.YtikbagggffehkaaAME
set_option linter.unusedVariables false
set_option linter.unusedSimpArgs false

