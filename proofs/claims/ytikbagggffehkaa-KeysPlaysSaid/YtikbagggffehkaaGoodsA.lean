import Derived.Test.YtikbagggffehkaaSortA
import Derived.Test.YtikbagggffehkaaPlayA
import Derived.Test.YtikbagggffehkaaScopeB
import Derived.KernelRfl
set_option linter.unusedVariables false
set_option linter.unusedSimpArgs false
namespace Go.AM
variable {prog : String → Option IFn}
theorem findIdx_map' {α β : Type} {f : α → β} {p : β → Bool} : ∀ (xs : List α), (xs.map f).findIdx p = xs.findIdx (fun x => p (f x))
  | [] => rfl
  | x :: xs => by simp only [List.map_cons, List.findIdx_cons, findIdx_map' xs]
theorem into_nil {G : List (Option Blk)} : (⟨G, []⟩ : Hp).into = G := by simp [Hp.into]
end Go.AM
namespace Go.AM
variable {prog : String → Option IFn}
section
variable {α : Type} {T : Enc α}
theorem own_T {G L} {j : Nat} {xs : List α} {o v : Bool} {cap} (hL : L[j]? = some (some (dBlk (T.row xs) o v))) (hc : ∀ c, cap = some c → xs.length ≤ c) : TView T ⟨G, L⟩ (.own (.l j) (xs.length * T.esz) 0 xs.length T.esz cap) xs :=
  own_viewC hL (T.row_len xs) rfl T.pos hc
end
end Go.AM
namespace Go.AM
variable {prog : String → Option IFn}
instance instDecItemD : DecidableEq ItemD := fun a b =>
  if h : a.sku = b.sku ∧ (a.cat = b.cat ∧ (a.price = b.price ∧ a.used = b.used)) then isTrue (by cases a; cases b; simp only at h; obtain ⟨rfl, rfl, rfl, rfl⟩ := h; rfl)
  else isFalse (by rintro rfl; exact h ⟨rfl, rfl, rfl, rfl⟩)
end Go.AM
