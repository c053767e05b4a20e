import Derived.Test.YtdcnjckkcfoppaaAMA
import Derived.Test.YtdcnjckkcfoppaaScopeA
import Derived.Test.YtdcnjckkcfoppaaScopeB
import Derived.Test.YtdcnjckkcfoppaaAME
set_option linter.unusedVariables false
set_option linter.unusedSimpArgs false

