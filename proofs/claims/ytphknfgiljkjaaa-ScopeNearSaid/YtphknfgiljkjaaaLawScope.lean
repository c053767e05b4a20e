import Derived.Test.YtphknfgiljkjaaaScopeB
set_option linter.unusedVariables false
set_option linter.unusedSimpArgs false
namespace Go.AM
variable {prog : String → Option IFn}
theorem own_viewC {G L} {j len esz n : Nat} {cells : List AV} {o v : Bool} {cap} (hL : L[j]? = some (some (dBlk cells o v))) (hn : cells.length = n) (hl : n = len * esz) (he : 0 < esz) (hc : ∀ c, cap = some c → len ≤ c) :
    View ⟨G, L⟩ (.own (.l j) n 0 len esz cap) esz len cells := by
  refine ⟨rfl, ?_, hn.trans hl, rfl, ?_, he⟩
  · simp only [Hp.sees, Hp.get, hL, Option.join_some, dBlk_cells, hn, if_true, List.drop_zero]
    rw [List.take_of_length_le (by omega)]
  · cases cap with
    | none => exact trivial
    | some c => exact hc c rfl
end Go.AM
