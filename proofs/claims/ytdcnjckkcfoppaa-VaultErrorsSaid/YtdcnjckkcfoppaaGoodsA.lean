import Derived.Test.YtdcnjckkcfoppaaSortA
import Derived.Test.YtdcnjckkcfoppaaPlayA
import Derived.Test.YtdcnjckkcfoppaaScopeB
import Derived.KernelRfl
set_option linter.unusedVariables false
set_option linter.unusedSimpArgs false
namespace Go.AM
variable {prog : String → Option IFn}
theorem into_nil {G : List (Option Blk)} : (⟨G, []⟩ : Hp).into = G := by simp [Hp.into]
end Go.AM
namespace Go.AM
variable {prog : String → Option IFn}
instance instDecItemD : DecidableEq ItemD := fun a b =>
  if h : a.sku = b.sku ∧ (a.cat = b.cat ∧ (a.price = b.price ∧ a.used = b.used)) then isTrue (by cases a; cases b; simp only at h; obtain ⟨rfl, rfl, rfl, rfl⟩ := h; rfl)
  else isFalse (by rintro rfl; exact h ⟨rfl, rfl, rfl, rfl⟩)
end Go.AM
