import Derived.Test.YtdcnjckkcfoppaaJourF
import Derived.Test.YtdcnjckkcfoppaaLawLeafB
import Derived.Test.YtdcnjckkcfoppaaJourD
set_option linter.unusedVariables false
set_option linter.unusedSimpArgs false
namespace Go.AM
def b3 (s : Sec) : Nat := (s.1.getD 3 0).toNat
end Go.AM
