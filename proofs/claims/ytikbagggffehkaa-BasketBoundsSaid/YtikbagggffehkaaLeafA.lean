import Derived.Test.YtikbagggffehkaaAMA
import Derived.Test.YtikbagggffehkaaCrc
set_option linter.unusedVariables false
set_option linter.unusedSimpArgs false

