import Derived.Test.YtikbagggffehkaaBasketA
set_option linter.unusedVariables false
set_option linter.unusedSimpArgs false
namespace Go.AM
variable {prog : String → Option IFn}
structure UnitD where
  line : Int
  net : Int
  opn : Bool
instance instDecUnitD : DecidableEq UnitD := fun a b =>
  if h : a.line = b.line ∧ (a.net = b.net ∧ a.opn = b.opn) then isTrue (by cases a; cases b; simp only at h; obtain ⟨rfl, rfl, rfl⟩ := h; rfl)
  else isFalse (by rintro rfl; exact h ⟨rfl, rfl, rfl⟩)
def UnitD.cells (x : UnitD) : List AV := [.v (.int .i64 x.line), .v (.int .i64 x.net), .v (.bool x.opn)]
end Go.AM
namespace Go.AM
variable {prog : String → Option IFn}
def lnZ : List Value := [.string ⟨#[]⟩, .int .i64 0, .int .i64 0]
end Go.AM
