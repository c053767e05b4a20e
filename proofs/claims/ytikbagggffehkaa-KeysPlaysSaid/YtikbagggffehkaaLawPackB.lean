import Derived.Test.YtikbagggffehkaaPackB
import Derived.Test.YtikbagggffehkaaLawPack
set_option linter.unusedVariables false
set_option linter.unusedSimpArgs false

