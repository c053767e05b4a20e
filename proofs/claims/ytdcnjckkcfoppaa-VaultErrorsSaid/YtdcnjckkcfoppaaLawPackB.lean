import Derived.Test.YtdcnjckkcfoppaaPackB
import Derived.Test.YtdcnjckkcfoppaaLawPack
set_option linter.unusedVariables false
set_option linter.unusedSimpArgs false

