import Derived.Test.YtikbagggffehkaaBasketC
import Derived.Test.YtikbagggffehkaaLawGoods
set_option linter.unusedVariables false
set_option linter.unusedSimpArgs false
namespace Go.AM
variable {prog : String → Option IFn}
theorem lineP_ok {x : LineD} : okL (lineP x) = true ∧ (lineP x).qty ≤ 9 ∧ (lineP x).price ≤ 3999 := by
  have h1 : umod x.qty 10 < 10 := umod_lt (by omega)
  have h2 : umod x.price 4000 < 4000 := umod_lt (by omega)
  unfold lineP
  exact ⟨okL_iff.2 ⟨by dsimp only; omega, by dsimp only; omega, by dsimp only; omega, by dsimp only; omega⟩, by dsimp only; omega, by dsimp only; omega⟩
theorem linesP_mem {xs : List LineD} {y} (h : y ∈ linesP xs) : ∃ x, y = lineP x := by
  unfold linesP at h
  obtain ⟨x, _, rfl⟩ := List.mem_map.1 h
  exact ⟨x, rfl⟩
theorem small_sums : ∀ {ys : List LineD}, (∀ y ∈ ys, okL y = true ∧ y.qty ≤ 9 ∧ y.price ≤ 3999) → 0 ≤ qs ys ∧ qs ys ≤ 9 * (ys.length : Int) ∧ 0 ≤ gs ys ∧ gs ys ≤ 35991 * (ys.length : Int)
  | [], _ => ⟨Int.le_refl _, Int.le_refl _, Int.le_refl _, Int.le_refl _⟩
  | y :: ys, h => by
    obtain ⟨a, b, c, d⟩ := small_sums (ys := ys) fun z hz => h z (List.mem_cons_of_mem _ hz)
    obtain ⟨e, f, g⟩ := h y (List.mem_cons_self ..)
    obtain ⟨i, _, k, _⟩ := okL_iff.1 e
    have m0 := Int.mul_nonneg i k
    have m1 : y.qty * y.price ≤ 9 * 3999 := Int.mul_le_mul f g k (by omega)
    rw [qs_cons, gs_cons, List.length_cons]
    omega
theorem linesP_sums {xs : List LineD} : 0 ≤ qs (linesP xs) ∧ qs (linesP xs) ≤ 72 ∧ 0 ≤ gs (linesP xs) ∧ gs (linesP xs) ≤ 287928 := by
  obtain ⟨a, b, c, d⟩ := small_sums (ys := linesP xs) fun y hy => by
    obtain ⟨x, rfl⟩ := linesP_mem hy
    exact lineP_ok
  have := linesP_len (xs := xs)
  omega
theorem linesP_may {xs : List LineD} : mayL (linesP xs) = true := by
  obtain ⟨a, b, c, d⟩ := linesP_sums (xs := xs)
  have := linesP_len (xs := xs)
  refine mayL_iff.2 ⟨by omega, fun y hy => ?_, by omega, by omega⟩
  obtain ⟨x, rfl⟩ := linesP_mem hy
  exact lineP_ok.1
theorem units_mem : ∀ {ys : List LineD} {i : Nat} {u}, u ∈ unitsT i ys → u.opn = true ∧ ∃ (j : Nat) (x : LineD), ys[j]? = some x ∧ u.line = ((i + j : Nat) : Int) ∧ u.net = x.price
  | [], i, u, h => by cases h
  | y :: ys, i, u, h => by
    rcases List.mem_append.1 (show u ∈ List.replicate y.qty.toNat (⟨i, y.price, true⟩ : UnitD) ++ unitsT (i + 1) ys from h) with h | h
    · rw [(List.mem_replicate.1 h).2]
      exact ⟨rfl, 0, y, rfl, rfl, rfl⟩
    · obtain ⟨a, j, x, b, c, d⟩ := units_mem h
      exact ⟨a, j + 1, x, by simpa using b, by rw [c]; congr 1; omega, d⟩
theorem unitsL_may {ys : List LineD} (h : mayL ys = true) : unitsL ys = unitsT 0 ys := by unfold unitsL; rw [h]; rfl
theorem units_count {ys : List LineD} (h : mayL ys = true) : ((unitsL ys).length : Int) = qs ys := by
  obtain ⟨_, ho, _, _⟩ := mayL_iff.1 h
  rw [unitsL_may h, ← uTo_all, uTo_len ho (Nat.le_refl _), List.take_length]
structure UnAt (h : Hp) (a : AV) (i : Nat) (x : UnitD) : Prop where
  ix : prim h (.indexAddr 3) [a, .v (.int .i64 (i : Int))] = some (elemPtr a 3 i, h)
  ld : prim h (.load 3 true) [elemPtr a 3 i] = some (.agg x.cells, h)
  f0 : prim h (.fieldAddr 0) [elemPtr a 3 i] = some (fldPtr a 3 i 0, h)
  f1 : prim h (.fieldAddr 1) [elemPtr a 3 i] = some (fldPtr a 3 i 1, h)
  f2 : prim h (.fieldAddr 2) [elemPtr a 3 i] = some (fldPtr a 3 i 2, h)
  l0 : prim h (.load 1 false) [fldPtr a 3 i 0] = some (.v (.int .i64 x.line), h)
  l1 : prim h (.load 1 false) [fldPtr a 3 i 1] = some (.v (.int .i64 x.net), h)
  l2 : prim h (.load 1 false) [fldPtr a 3 i 2] = some (.v (.bool x.opn), h)
theorem un_at {h : Hp} {a} {xs : List UnitD} (v : TView uE h a xs) {i : Nat} {x : UnitD} (hx : xs[i]? = some x) : UnAt h a i x := by
  have hi := lt_of_get hx
  have vv : View h a 3 xs.length (uE.row xs) := v
  have ch : ((uE.row xs).drop (i * 3)).take 3 = x.cells := uE.row_chunk hx
  have hc : ∀ (f : Nat) (y : AV), f < 3 → x.cells[f]? = some y → (uE.row xs)[i * 3 + f]? = some y := fun f y hf hy => by
    rw [← ch, List.getElem?_take, if_pos hf, List.getElem?_drop] at hy
    exact hy
  exact ⟨v.index hi, v.load hx, vv.field hi, vv.field hi, vv.field hi, vv.loadF hi (by omega) (hc 0 _ (by omega) rfl), vv.loadF hi (by omega) (hc 1 _ (by omega) rfl),
    vv.loadF hi (by omega) (hc 2 _ (by omega) rfl)⟩
theorem own_n {α : Type} {T : Enc α} {G L} {j n : Nat} {xs : List α} {o v : Bool} (hL : L[j]? = some (some (dBlk (T.row xs) o v))) (hn : xs.length = n) : TView T ⟨G, L⟩ (.own (.l j) (n * T.esz) 0 n T.esz none) xs := by
  subst hn; exact own_T hL (by simp)
end Go.AM
