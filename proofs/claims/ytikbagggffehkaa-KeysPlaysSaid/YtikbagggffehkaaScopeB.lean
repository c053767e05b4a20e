import Derived.Test.YtikbagggffehkaaScopeA
import Derived.Test.YtikbagggffehkaaAMD
set_option linter.unusedVariables false
set_option linter.unusedSimpArgs false
namespace Go.AM
variable {prog : String → Option IFn}
structure ItemD where
  sku : Txt
  cat : Txt
  price : Int
  used : Bool
def ItemD.cells (x : ItemD) : List AV := [.v (str x.sku), .v (str x.cat), .v (.int .i64 x.price), .v (.bool x.used)]
end Go.AM
namespace Go.AM
variable {prog : String → Option IFn}
def fldPtr (a : AV) (esz i f : Nat) : AV := match a with
  | .own ℓ n off _ _ _ => .ptr ℓ n (off + i * esz + f)
  | .ro _ _ _ cells => .rop ((cells.drop (i * esz)).drop f)
  | _ => .dead
theorem View.field {h : Hp} {a : AV} {esz len : Nat} {cells : List AV} (v : View h a esz len cells) {i f : Nat} (hi : i < len) : prim h (.fieldAddr f) [elemPtr a esz i] = some (fldPtr a esz i f, h) := by
  rcases v.cases with ⟨rfl, rfl, rfl⟩ | ⟨nl, rfl⟩ | ⟨ℓ, n, off, cap, B, rfl, hB, hn, hc, hl⟩
  · omega
  · rfl
  · rfl
theorem View.loadF {h : Hp} {a : AV} {esz len : Nat} {cells : List AV} (v : View h a esz len cells) {i f : Nat} {x : AV} (hi : i < len) (hf : f < esz) (hx : cells[i * esz + f]? = some x) : prim h (.load 1 false) [fldPtr a esz i f] = some (x, h) := by
  have hm : (i + 1) * esz ≤ len * esz := Nat.mul_le_mul_right _ hi
  rw [Nat.add_mul, Nat.one_mul] at hm
  have hcl := v.hclen
  have hlt := lt_of_get hx
  have e : cells.drop (i * esz + f) = x :: cells.drop (i * esz + f + 1) := by
    rw [List.drop_eq_getElem_cons hlt]
    rw [List.getElem?_eq_getElem hlt] at hx
    cases hx; rfl
  rcases v.cases with ⟨rfl, rfl, rfl⟩ | ⟨nl, rfl⟩ | ⟨ℓ, n, off, cap, B, rfl, hB, hn, hc, hl⟩
  · omega
  · simp only [fldPtr]
    rw [px_load_rop, List.drop_drop, e]; rfl
  · simp only [fldPtr]
    rw [px_load_ptr, hB]
    simp only
    rw [if_pos ⟨hn, by omega⟩]
    have e2 : (B.cells.drop (off + i * esz + f)).take 1 = [x] := by
      have h2 : (B.cells.drop off)[i * esz + f]? = some x := by
        rw [hc, List.getElem?_take] at hx
        split at hx
        · exact hx
        · cases hx
      rw [List.getElem?_drop] at h2
      have h3 := lt_of_get h2
      rw [show off + i * esz + f = off + (i * esz + f) by omega, List.drop_eq_getElem_cons h3]
      rw [List.getElem?_eq_getElem h3] at h2
      cases h2; rfl
    rw [e2]; rfl
end Go.AM
namespace Go.AM
variable {prog : String → Option IFn}
theorem sView_own {G L} {j : Nat} {xs : List Txt} {n : Nat} {o v : Bool} {cap} (hL : L[j]? = some (some (dBlk (sEnc.row xs) o v))) (hn : xs.length = n) (hc : ∀ c, cap = some c → n ≤ c) : TView sEnc ⟨G, L⟩ (.own (.l j) n 0 n 1 cap) xs := by
  subst hn
  exact own_view1 hL (by rw [sEnc.row_len, show sEnc.esz = 1 from rfl, Nat.mul_one]) hc
end Go.AM
