import Derived.Test.YtdcnjckkcfoppaaLeafC
import Derived.Test.YtdcnjckkcfoppaaAMD
set_option linter.unusedVariables false
set_option linter.unusedSimpArgs false

