import Derived.Test.YtdcnjckkcfoppaaLawLeaf
import Derived.Test.YtdcnjckkcfoppaaHelp
import Derived.Test.YtdcnjckkcfoppaaLawCrc
set_option linter.unusedVariables false
set_option linter.unusedSimpArgs false

