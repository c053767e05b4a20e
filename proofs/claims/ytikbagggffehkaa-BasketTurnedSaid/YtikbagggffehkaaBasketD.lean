import Derived.Test.YtikbagggffehkaaBasketC
import Derived.Test.YtikbagggffehkaaLawGoods
set_option linter.unusedVariables false
set_option linter.unusedSimpArgs false
namespace Go.AM
variable {prog : String → Option IFn}
theorem own_n {α : Type} {T : Enc α} {G L} {j n : Nat} {xs : List α} {o v : Bool} (hL : L[j]? = some (some (dBlk (T.row xs) o v))) (hn : xs.length = n) : TView T ⟨G, L⟩ (.own (.l j) (n * T.esz) 0 n T.esz none) xs := by
  subst hn; exact own_T hL (by simp)
end Go.AM
