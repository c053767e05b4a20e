import Derived.Test.YtdcnjckkcfoppaaCrc
import Derived.Test.YtdcnjckkcfoppaaAMD
set_option linter.unusedVariables false
set_option linter.unusedSimpArgs false
namespace Go.AM
variable {prog : String → Option IFn}
def pos (n : Nat) (cs : List Int) : Nat := cs.foldl (fun p c => p + umod c (n - p + 1)) 0
end Go.AM
