import Derived.Test.YtdcnjckkcfoppaaScopeA
import Derived.Test.YtdcnjckkcfoppaaAMD
set_option linter.unusedVariables false
set_option linter.unusedSimpArgs false
namespace Go.AM
variable {prog : String → Option IFn}
structure ItemD where
  sku : Txt
  cat : Txt
  price : Int
  used : Bool
def ItemD.cells (x : ItemD) : List AV := [.v (str x.sku), .v (str x.cat), .v (.int .i64 x.price), .v (.bool x.used)]
end Go.AM
namespace Go.AM
variable {prog : String → Option IFn}
def fldPtr (a : AV) (esz i f : Nat) : AV := match a with
  | .own ℓ n off _ _ _ => .ptr ℓ n (off + i * esz + f)
  | .ro _ _ _ cells => .rop ((cells.drop (i * esz)).drop f)
  | _ => .dead
theorem View.field {h : Hp} {a : AV} {esz len : Nat} {cells : List AV} (v : View h a esz len cells) {i f : Nat} (hi : i < len) : prim h (.fieldAddr f) [elemPtr a esz i] = some (fldPtr a esz i f, h) := by
  rcases v.cases with ⟨rfl, rfl, rfl⟩ | ⟨nl, rfl⟩ | ⟨ℓ, n, off, cap, B, rfl, hB, hn, hc, hl⟩
  · omega
  · rfl
  · rfl
end Go.AM
