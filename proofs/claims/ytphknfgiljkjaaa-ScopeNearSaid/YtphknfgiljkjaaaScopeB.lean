import Derived.Test.YtphknfgiljkjaaaScopeA
import Derived.Test.YtphknfgiljkjaaaAMD
set_option linter.unusedVariables false
set_option linter.unusedSimpArgs false
namespace Go.AM
variable {prog : String → Option IFn}
theorem pair_labs {a b : AV} {g k : Nat} (ha : Outer g a) (hb : Outer g b) : (AV.labs.labss [a, b]).all (refLt g k) = true := by
  simp only [AV.labs.labss, List.append_nil, List.all_append, Bool.and_eq_true]
  exact ⟨ha.lt, hb.lt⟩
theorem ld20 {G L} {j : Nat} {a b : AV} {d : Bool} (hL : L[j]? = some (some (sBlk [a, b] d))) : prim ⟨G, L⟩ (.load 1 false) [.ptr (.l j) 2 0] = some (a, ⟨G, L⟩) := by
  rw [px_load_l, hL]; rfl
theorem ld21 {G L} {j : Nat} {a b : AV} {d : Bool} (hL : L[j]? = some (some (sBlk [a, b] d))) : prim ⟨G, L⟩ (.load 1 false) [.ptr (.l j) 2 1] = some (b, ⟨G, L⟩) := by
  rw [px_load_l, hL]; rfl
def scopeOK (n c : List Txt) : Bool := namesOK n && namesOK c
theorem Right_spec (H : ScopeLib prog) {G a b} {n c : List Txt} (v : ∀ L, TView sEnc ⟨G, L⟩ a n) (w : ∀ L, TView sEnc ⟨G, L⟩ b c) (hn : n.length ≤ maxLen) (hc : c.length ≤ maxLen) :
    Ev prog (.call "haberdash/scope.Right" [.agg [a, b]] G) (.ret (.v (.bool (scopeOK n c))) G) := by
  refine call_of_fin H.right ?_
  have gd : ∀ d, Good ⟨G, [some (sBlk [a, b] d)]⟩ := fun d => ⟨sBlk_good (pair_labs (View.out (v [])) (View.out (w []))), trivial⟩
  simp only [f_scope_Right_B, enter, List.length_cons, List.length_nil, List.replicate, Nat.reduceAdd, Nat.reduceSub, List.cons_append, List.nil_append]
  simp (disch := first | (simp only [DS, reduceCtorEq]; done) | omega) only [WS, St.guard, St.put, evalO, reduceCtorEq, reduceIte, Nat.reduceAdd, Nat.reduceEqDiff]
  rw [box_s rfl]
  simp (disch := first | (simp only [DS, reduceCtorEq]; done) | omega) only [WS, St.guard, St.put, evalO, reduceCtorEq, reduceIte, Nat.reduceAdd, Nat.reduceEqDiff]
  rw [ld20 rfl]
  simp (disch := first | (simp only [DS, reduceCtorEq]; done) | omega) only [WS, St.guard, St.put, evalO, reduceCtorEq, reduceIte, Nat.reduceAdd, Nat.reduceEqDiff]
  rw [WP_p (x := .bool (namesOK n)) (by exact nright_spec H ((v _).into) hn) (gd _)]
  cases h1 : namesOK n
  · simp (disch := first | (simp only [DS, reduceCtorEq]; done) | omega) only [WS, St.guard, St.put, evalO, reduceCtorEq, reduceIte, Nat.reduceAdd, Nat.reduceEqDiff, fin_tmp, leave_v, scopeOK, h1]
    simp
  · simp (disch := first | (simp only [DS, reduceCtorEq]; done) | omega) only [WS, St.guard, St.put, evalO, reduceCtorEq, reduceIte, Nat.reduceAdd, Nat.reduceEqDiff]
    rw [ld21 rfl]
    simp (disch := first | (simp only [DS, reduceCtorEq]; done) | omega) only [WS, St.guard, St.put, evalO, reduceCtorEq, reduceIte, Nat.reduceAdd, Nat.reduceEqDiff]
    rw [WP_p (x := .bool (namesOK c)) (by exact nright_spec H ((w _).into) hc) (gd _)]
    simp (disch := first | (simp only [DS, reduceCtorEq]; done) | omega) only [WS, St.guard, St.put, evalO, reduceCtorEq, reduceIte, Nat.reduceAdd, Nat.reduceEqDiff, fin_tmp, leave_v, scopeOK, h1]
    simp
structure ItemD where
  sku : Txt
  cat : Txt
  price : Int
  used : Bool
def ItemD.cells (x : ItemD) : List AV := [.v (str x.sku), .v (str x.cat), .v (.int .i64 x.price), .v (.bool x.used)]
def hasI (n c : List Txt) (x : ItemD) : Bool := decide (n.length + c.length = 0) || (decide (x.sku ∈ n) || decide (x.cat ∈ c))
theorem ldi0 {G L} {j : Nat} {x : ItemD} {d : Bool} (hL : L[j]? = some (some (sBlk x.cells d))) : prim ⟨G, L⟩ (.load 1 false) [.ptr (.l j) 4 0] = some (.v (str x.sku), ⟨G, L⟩) := by
  rw [px_load_l, hL]; rfl
theorem ldi1 {G L} {j : Nat} {x : ItemD} {d : Bool} (hL : L[j]? = some (some (sBlk x.cells d))) : prim ⟨G, L⟩ (.load 1 false) [.ptr (.l j) 4 1] = some (.v (str x.cat), ⟨G, L⟩) := by
  rw [px_load_l, hL]; rfl
theorem item_box {G L} {j : Nat} {x : ItemD} (hL : L[j]? = some none) : prim ⟨G, L⟩ (.box j) [.agg x.cells] = some (.ptr (.l j) 4 0, ⟨G, L.set j (some (sBlk x.cells true))⟩) := box_s hL
theorem Has_spec (H : ScopeLib prog) {G a b} {n c : List Txt} {x : ItemD} (v : ∀ L, TView sEnc ⟨G, L⟩ a n) (w : ∀ L, TView sEnc ⟨G, L⟩ b c) (hn : n.length ≤ 2 ^ 62 - 1) (hc : c.length ≤ 2 ^ 62 - 1) :
    Ev prog (.call "haberdash/scope.Has" [.agg [a, b], .agg x.cells] G) (.ret (.v (.bool (hasI n c x))) G) := by
  have hnm : n.length ≤ maxLen := Nat.le_trans hn (by decide)
  have hcm : c.length ≤ maxLen := Nat.le_trans hc (by decide)
  refine call_of_fin H.has ?_
  have gd : ∀ d e, Good ⟨G, [some (sBlk [a, b] d), some (sBlk x.cells e)]⟩ := fun d e => ⟨sBlk_good (pair_labs (View.out (v [])) (View.out (w []))), sBlk_good rfl, trivial⟩
  have lv : ∀ L, prim ⟨G, L⟩ .lenSlice [a] = some (.v (.int .i64 n.length), ⟨G, L⟩) := fun L => (v L).lenSlice
  have lw : ∀ L, prim ⟨G, L⟩ .lenSlice [b] = some (.v (.int .i64 c.length), ⟨G, L⟩) := fun L => (w L).lenSlice
  simp only [f_scope_Has_B, enter, List.length_cons, List.length_nil, List.replicate, Nat.reduceAdd, Nat.reduceSub, List.cons_append, List.nil_append]
  simp (disch := first | (simp only [DS, reduceCtorEq]; done) | omega) only [WS, St.guard, St.put, evalO, reduceCtorEq, reduceIte, Nat.reduceAdd, Nat.reduceEqDiff]
  rw [box_s rfl]
  simp (disch := first | (simp only [DS, reduceCtorEq]; done) | omega) only [WS, St.guard, St.put, evalO, reduceCtorEq, reduceIte, Nat.reduceAdd, Nat.reduceEqDiff]
  rw [item_box rfl]
  simp (disch := first | (simp only [DS, reduceCtorEq]; done) | omega) only [WS, St.guard, St.put, evalO, reduceCtorEq, reduceIte, Nat.reduceAdd, Nat.reduceEqDiff]
  rw [ld20 rfl]
  simp (disch := first | (simp only [DS, reduceCtorEq]; done) | omega) only [WS, St.guard, St.put, evalO, reduceCtorEq, reduceIte, Nat.reduceAdd, Nat.reduceEqDiff, lv]
  rw [ld21 rfl]
  simp (disch := first | (simp only [DS, reduceCtorEq]; done) | omega) only [WS, St.guard, St.put, evalO, reduceCtorEq, reduceIte, Nat.reduceAdd, Nat.reduceEqDiff, lw, vBin_add_i64]
  by_cases h0 : n.length + c.length = 0
  · have e : ((n.length : Int) + (c.length : Int) == 0) = true := by rw [beq_iff_eq]; omega
    simp (disch := first | (simp only [DS, reduceCtorEq]; done) | omega) only [WS, St.guard, St.put, evalO, reduceCtorEq, reduceIte, Nat.reduceAdd, Nat.reduceEqDiff, e, fin_tmp, leave_v, hasI, decide_eq_true h0]
    simp
  have e : ((n.length : Int) + (c.length : Int) == 0) = false := by rw [beq_eq_false_iff_ne]; omega
  simp (disch := first | (simp only [DS, reduceCtorEq]; done) | omega) only [WS, St.guard, St.put, evalO, reduceCtorEq, reduceIte, Nat.reduceAdd, Nat.reduceEqDiff, e]
  rw [ld20 rfl]
  simp (disch := first | (simp only [DS, reduceCtorEq]; done) | omega) only [WS, St.guard, St.put, evalO, reduceCtorEq, reduceIte, Nat.reduceAdd, Nat.reduceEqDiff]
  rw [ldi0 rfl]
  simp (disch := first | (simp only [DS, reduceCtorEq]; done) | omega) only [WS, St.guard, St.put, evalO, reduceCtorEq, reduceIte, Nat.reduceAdd, Nat.reduceEqDiff]
  rw [WP_p (x := .bool (decide (x.sku ∈ n))) (by exact nhas_spec H ((v _).into) hnm) (gd _ _)]
  cases h1 : decide (x.sku ∈ n)
  · simp (disch := first | (simp only [DS, reduceCtorEq]; done) | omega) only [WS, St.guard, St.put, evalO, reduceCtorEq, reduceIte, Nat.reduceAdd, Nat.reduceEqDiff]
    rw [ld21 rfl]
    simp (disch := first | (simp only [DS, reduceCtorEq]; done) | omega) only [WS, St.guard, St.put, evalO, reduceCtorEq, reduceIte, Nat.reduceAdd, Nat.reduceEqDiff]
    rw [ldi1 rfl]
    simp (disch := first | (simp only [DS, reduceCtorEq]; done) | omega) only [WS, St.guard, St.put, evalO, reduceCtorEq, reduceIte, Nat.reduceAdd, Nat.reduceEqDiff]
    rw [WP_p (x := .bool (decide (x.cat ∈ c))) (by exact nhas_spec H ((w _).into) hcm) (gd _ _)]
    simp (disch := first | (simp only [DS, reduceCtorEq]; done) | omega) only [WS, St.guard, St.put, evalO, reduceCtorEq, reduceIte, Nat.reduceAdd, Nat.reduceEqDiff, fin_tmp, leave_v, hasI, decide_eq_false h0, h1]
    simp
  · simp (disch := first | (simp only [DS, reduceCtorEq]; done) | omega) only [WS, St.guard, St.put, evalO, reduceCtorEq, reduceIte, Nat.reduceAdd, Nat.reduceEqDiff, fin_tmp, leave_v, hasI, decide_eq_false h0, h1]
    simp
theorem refHas_spec (H : ScopeLib prog) {G a b} {n c : List Txt} {x : ItemD} (v : ∀ L, TView sEnc ⟨G, L⟩ a n) (w : ∀ L, TView sEnc ⟨G, L⟩ b c) (hnm : n.length ≤ maxLen) (hcm : c.length ≤ maxLen) :
    Ev prog (.call "haberdash/haberdashref10.Has" [.agg [a, b], .agg x.cells] G) (.ret (.v (.bool (hasI n c x))) G) := by
  refine call_of_fin H.rHas ?_
  have gd : ∀ d e, Good ⟨G, [some (sBlk [a, b] d), some (sBlk x.cells e)]⟩ := fun d e => ⟨sBlk_good (pair_labs (View.out (v [])) (View.out (w []))), sBlk_good rfl, trivial⟩
  have lv : ∀ L, prim ⟨G, L⟩ .lenSlice [a] = some (.v (.int .i64 n.length), ⟨G, L⟩) := fun L => (v L).lenSlice
  have lw : ∀ L, prim ⟨G, L⟩ .lenSlice [b] = some (.v (.int .i64 c.length), ⟨G, L⟩) := fun L => (w L).lenSlice
  simp only [f_ref10_Has_B, enter, List.length_cons, List.length_nil, List.replicate, Nat.reduceAdd, Nat.reduceSub, List.cons_append, List.nil_append]
  simp (disch := first | (simp only [DS, reduceCtorEq]; done) | omega) only [WS, St.guard, St.put, evalO, reduceCtorEq, reduceIte, Nat.reduceAdd, Nat.reduceEqDiff]
  rw [box_s rfl]
  simp (disch := first | (simp only [DS, reduceCtorEq]; done) | omega) only [WS, St.guard, St.put, evalO, reduceCtorEq, reduceIte, Nat.reduceAdd, Nat.reduceEqDiff]
  rw [item_box rfl]
  simp (disch := first | (simp only [DS, reduceCtorEq]; done) | omega) only [WS, St.guard, St.put, evalO, reduceCtorEq, reduceIte, Nat.reduceAdd, Nat.reduceEqDiff]
  have rest : ∀ Q : Prop, (n.length + c.length ≠ 0 → Q) → (n.length + c.length = 0 → Q) → Q := fun Q h1 h2 => by
    by_cases h : n.length + c.length = 0
    · exact h2 h
    · exact h1 h
  rw [ld20 rfl]
  simp (disch := first | (simp only [DS, reduceCtorEq]; done) | omega) only [WS, St.guard, St.put, evalO, reduceCtorEq, reduceIte, Nat.reduceAdd, Nat.reduceEqDiff, lv]
  by_cases hn0 : n.length = 0
  · have e1 : ((n.length : Int) == 0) = true := by rw [beq_iff_eq]; omega
    simp (disch := first | (simp only [DS, reduceCtorEq]; done) | omega) only [WS, St.guard, St.put, evalO, reduceCtorEq, reduceIte, Nat.reduceAdd, Nat.reduceEqDiff, e1]
    rw [ld21 rfl]
    simp (disch := first | (simp only [DS, reduceCtorEq]; done) | omega) only [WS, St.guard, St.put, evalO, reduceCtorEq, reduceIte, Nat.reduceAdd, Nat.reduceEqDiff, lw]
    by_cases hc0 : c.length = 0
    · have e2 : ((c.length : Int) == 0) = true := by rw [beq_iff_eq]; omega
      simp (disch := first | (simp only [DS, reduceCtorEq]; done) | omega) only [WS, St.guard, St.put, evalO, reduceCtorEq, reduceIte, Nat.reduceAdd, Nat.reduceEqDiff, e2, fin_tmp, leave_v, hasI, show n.length + c.length = 0 from by omega, decide_true]
      simp
    · have e2 : ((c.length : Int) == 0) = false := by rw [beq_eq_false_iff_ne]; omega
      have h0 : ¬ (n.length + c.length = 0) := by omega
      simp (disch := first | (simp only [DS, reduceCtorEq]; done) | omega) only [WS, St.guard, St.put, evalO, reduceCtorEq, reduceIte, Nat.reduceAdd, Nat.reduceEqDiff, e2]
      rw [ld20 rfl]
      simp (disch := first | (simp only [DS, reduceCtorEq]; done) | omega) only [WS, St.guard, St.put, evalO, reduceCtorEq, reduceIte, Nat.reduceAdd, Nat.reduceEqDiff]
      rw [ldi0 rfl]
      simp (disch := first | (simp only [DS, reduceCtorEq]; done) | omega) only [WS, St.guard, St.put, evalO, reduceCtorEq, reduceIte, Nat.reduceAdd, Nat.reduceEqDiff]
      rw [WP_p (x := .bool (decide (x.sku ∈ n))) (by exact refhas_spec H.rhas ((v _).into) hnm) (gd _ _)]
      cases h1 : decide (x.sku ∈ n)
      · simp (disch := first | (simp only [DS, reduceCtorEq]; done) | omega) only [WS, St.guard, St.put, evalO, reduceCtorEq, reduceIte, Nat.reduceAdd, Nat.reduceEqDiff]
        rw [ld21 rfl]
        simp (disch := first | (simp only [DS, reduceCtorEq]; done) | omega) only [WS, St.guard, St.put, evalO, reduceCtorEq, reduceIte, Nat.reduceAdd, Nat.reduceEqDiff]
        rw [ldi1 rfl]
        simp (disch := first | (simp only [DS, reduceCtorEq]; done) | omega) only [WS, St.guard, St.put, evalO, reduceCtorEq, reduceIte, Nat.reduceAdd, Nat.reduceEqDiff]
        rw [WP_p (x := .bool (decide (x.cat ∈ c))) (by exact refhas_spec H.rhas ((w _).into) hcm) (gd _ _)]
        simp (disch := first | (simp only [DS, reduceCtorEq]; done) | omega) only [WS, St.guard, St.put, evalO, reduceCtorEq, reduceIte, Nat.reduceAdd, Nat.reduceEqDiff, fin_tmp, leave_v, hasI, decide_eq_false h0, h1]
        simp
      · simp (disch := first | (simp only [DS, reduceCtorEq]; done) | omega) only [WS, St.guard, St.put, evalO, reduceCtorEq, reduceIte, Nat.reduceAdd, Nat.reduceEqDiff, fin_tmp, leave_v, hasI, decide_eq_false h0, h1]
        simp
  · have e1 : ((n.length : Int) == 0) = false := by rw [beq_eq_false_iff_ne]; omega
    have h0 : ¬ (n.length + c.length = 0) := by omega
    simp (disch := first | (simp only [DS, reduceCtorEq]; done) | omega) only [WS, St.guard, St.put, evalO, reduceCtorEq, reduceIte, Nat.reduceAdd, Nat.reduceEqDiff, e1]
    rw [ld20 rfl]
    simp (disch := first | (simp only [DS, reduceCtorEq]; done) | omega) only [WS, St.guard, St.put, evalO, reduceCtorEq, reduceIte, Nat.reduceAdd, Nat.reduceEqDiff]
    rw [ldi0 rfl]
    simp (disch := first | (simp only [DS, reduceCtorEq]; done) | omega) only [WS, St.guard, St.put, evalO, reduceCtorEq, reduceIte, Nat.reduceAdd, Nat.reduceEqDiff]
    rw [WP_p (x := .bool (decide (x.sku ∈ n))) (by exact refhas_spec H.rhas ((v _).into) hnm) (gd _ _)]
    cases h1 : decide (x.sku ∈ n)
    · simp (disch := first | (simp only [DS, reduceCtorEq]; done) | omega) only [WS, St.guard, St.put, evalO, reduceCtorEq, reduceIte, Nat.reduceAdd, Nat.reduceEqDiff]
      rw [ld21 rfl]
      simp (disch := first | (simp only [DS, reduceCtorEq]; done) | omega) only [WS, St.guard, St.put, evalO, reduceCtorEq, reduceIte, Nat.reduceAdd, Nat.reduceEqDiff]
      rw [ldi1 rfl]
      simp (disch := first | (simp only [DS, reduceCtorEq]; done) | omega) only [WS, St.guard, St.put, evalO, reduceCtorEq, reduceIte, Nat.reduceAdd, Nat.reduceEqDiff]
      rw [WP_p (x := .bool (decide (x.cat ∈ c))) (by exact refhas_spec H.rhas ((w _).into) hcm) (gd _ _)]
      simp (disch := first | (simp only [DS, reduceCtorEq]; done) | omega) only [WS, St.guard, St.put, evalO, reduceCtorEq, reduceIte, Nat.reduceAdd, Nat.reduceEqDiff, fin_tmp, leave_v, hasI, decide_eq_false h0, h1]
      simp
    · simp (disch := first | (simp only [DS, reduceCtorEq]; done) | omega) only [WS, St.guard, St.put, evalO, reduceCtorEq, reduceIte, Nat.reduceAdd, Nat.reduceEqDiff, fin_tmp, leave_v, hasI, decide_eq_false h0, h1]
      simp
end Go.AM
namespace Go.AM
variable {prog : String → Option IFn}
def fldPtr (a : AV) (esz i f : Nat) : AV := match a with
  | .own ℓ n off _ _ _ => .ptr ℓ n (off + i * esz + f)
  | .ro _ _ _ cells => .rop ((cells.drop (i * esz)).drop f)
  | _ => .dead
theorem View.field {h : Hp} {a : AV} {esz len : Nat} {cells : List AV} (v : View h a esz len cells) {i f : Nat} (hi : i < len) : prim h (.fieldAddr f) [elemPtr a esz i] = some (fldPtr a esz i f, h) := by
  rcases v.cases with ⟨rfl, rfl, rfl⟩ | ⟨nl, rfl⟩ | ⟨ℓ, n, off, cap, B, rfl, hB, hn, hc, hl⟩
  · omega
  · rfl
  · rfl
theorem View.loadF {h : Hp} {a : AV} {esz len : Nat} {cells : List AV} (v : View h a esz len cells) {i f : Nat} {x : AV} (hi : i < len) (hf : f < esz) (hx : cells[i * esz + f]? = some x) : prim h (.load 1 false) [fldPtr a esz i f] = some (x, h) := by
  have hm : (i + 1) * esz ≤ len * esz := Nat.mul_le_mul_right _ hi
  rw [Nat.add_mul, Nat.one_mul] at hm
  have hcl := v.hclen
  have hlt := lt_of_get hx
  have e : cells.drop (i * esz + f) = x :: cells.drop (i * esz + f + 1) := by
    rw [List.drop_eq_getElem_cons hlt]
    rw [List.getElem?_eq_getElem hlt] at hx
    cases hx; rfl
  rcases v.cases with ⟨rfl, rfl, rfl⟩ | ⟨nl, rfl⟩ | ⟨ℓ, n, off, cap, B, rfl, hB, hn, hc, hl⟩
  · omega
  · simp only [fldPtr]
    rw [px_load_rop, List.drop_drop, e]; rfl
  · simp only [fldPtr]
    rw [px_load_ptr, hB]
    simp only
    rw [if_pos ⟨hn, by omega⟩]
    have e2 : (B.cells.drop (off + i * esz + f)).take 1 = [x] := by
      have h2 : (B.cells.drop off)[i * esz + f]? = some x := by
        rw [hc, List.getElem?_take] at hx
        split at hx
        · exact hx
        · cases hx
      rw [List.getElem?_drop] at h2
      have h3 := lt_of_get h2
      rw [show off + i * esz + f = off + (i * esz + f) by omega, List.drop_eq_getElem_cons h3]
      rw [List.getElem?_eq_getElem h3] at h2
      cases h2; rfl
    rw [e2]; rfl
structure ScopeV where
  a : AV
  b : AV
  n : List Txt
  c : List Txt
  va : ∀ h, TView sEnc h a n
  vb : ∀ h, TView sEnc h b c
  ln : n.length ≤ maxLen
  lc : c.length ≤ maxLen
  tn : ∀ x ∈ n, x.length ≤ maxLen
  tc : ∀ x ∈ c, x.length ≤ maxLen
theorem val_lf {a esz len cells} (v : ∀ h, View h a esz len cells) : a.lf = true ∧ a.cellsOf = some [a] := by
  refine ⟨?_, (v ⟨[], []⟩).cellsOf⟩
  rcases (v ⟨[], []⟩).cases with ⟨rfl, _, _⟩ | ⟨nl, rfl⟩ | ⟨ℓ', n, off, cap, b, rfl, hB, _⟩
  · rfl
  · rfl
  · cases ℓ' <;> simp [Hp.get] at hB
def scEnc : Enc ScopeV := ⟨fun s => [s.a, s.b], 2, true, fun _ => rfl, by omega, .inl rfl, fun s => by simp [AV.lf.lfs, (val_lf s.va).1, (val_lf s.vb).1], fun h => by cases h⟩
def fewOK (ss : List ScopeV) : Bool := decide (ss.length ≤ 20) && ss.all fun s => decide (s.n.length ≤ 40) && decide (s.c.length ≤ 40)
theorem few_spec (hf : prog "haberdash/haberdashlaw11.few" = some f_law11_few) {G a} {ss : List ScopeV} (v : ∀ L, TView scEnc ⟨G, L⟩ a ss) (hl : ss.length ≤ maxLen) :
    Ev prog (.call "haberdash/haberdashlaw11.few" [a] G) (.ret (.v (.bool (fewOK ss))) G) := by
  have hml : ss.length ≤ 9223372036854775807 := hl
  refine call_of_fin hf ?_
  simp only [f_law11_few_B, enter, List.length_cons, List.length_nil, List.replicate, Nat.reduceAdd, Nat.reduceSub, List.cons_append, List.nil_append]
  simp (disch := first | (simp only [DS, reduceCtorEq]; done) | omega) only [WS, St.guard, St.put, evalO, reduceCtorEq, reduceIte, Nat.reduceAdd, Nat.reduceEqDiff]
  refine WC_countP (fun i => ∀ (j : Nat) s, j < i → ss[j]? = some s → (decide (s.n.length ≤ 40) && decide (s.c.length ≤ 40)) = true) (fun i => ⟨f_law11_few_H0 a (.v (.int .i64 (i : Nat))), ⟨G, []⟩⟩) ss.length ?_ (fun j x h => by omega) (fun i hi hp => ?_) (fun hp => ?_)
  · simp only [clear_nil, List.foldl_cons, List.foldl_nil, Option.some.injEq, LS, reduceCtorEq, reduceIte, Nat.reduceAdd]; rfl
  · have hlt' : (i : Int) < (ss.length : Int) := by omega
    have hx : ss[i]? = some ss[i] := List.getElem?_eq_getElem hi
    obtain ⟨s, hs⟩ : ∃ s, s = ss[i] := ⟨_, rfl⟩
    rw [← hs] at hx
    have vv : View ⟨G, []⟩ a 2 ss.length (scEnc.row ss) := v []
    have ch : ((scEnc.row ss).drop (i * 2)).take 2 = [s.a, s.b] := scEnc.row_chunk hx
    have h0 : (scEnc.row ss)[i * 2 + 0]? = some s.a := by
      have := congrArg (fun l : List AV => l[0]?) ch
      simpa [List.getElem?_take, List.getElem?_drop] using this
    have h1 : (scEnc.row ss)[i * 2 + 1]? = some s.b := by
      have := congrArg (fun l : List AV => l[1]?) ch
      simpa [List.getElem?_take, List.getElem?_drop] using this
    have la : ∀ h : Hp, prim h .lenSlice [s.a] = some (.v (.int .i64 s.n.length), h) := fun h => (s.va h).lenSlice
    have lb : ∀ h : Hp, prim h .lenSlice [s.b] = some (.v (.int .i64 s.c.length), h) := fun h => (s.vb h).lenSlice
    have f0 := vv.field (f := 0) hi
    have f1 := vv.field (f := 1) hi
    have l0 := vv.loadF hi (by omega) h0
    have l1 := vv.loadF hi (by omega) h1
    have ix := vv.index (k := .i64) hi
    have hbad : (decide (s.n.length ≤ 40) && decide (s.c.length ≤ 40)) = false → fewOK ss = false := fun h => by unfold fewOK; rw [all_bad hx h, Bool.and_false]
    simp (disch := first | (simp only [DS, reduceCtorEq]; done) | omega) only [f_law11_few_L0, f_law11_few_H0, WS, St.guard, St.put, evalO, reduceCtorEq, reduceIte, Nat.reduceAdd, Nat.reduceEqDiff, (v _).lenSlice, hlt', decide_true, ix, f0, l0, la]
    by_cases c0 : (s.n.length : Int) > 40
    · simp (disch := first | (simp only [DS, reduceCtorEq]; done) | omega) only [WS, St.guard, St.put, evalO, reduceCtorEq, reduceIte, Nat.reduceAdd, Nat.reduceEqDiff, c0, decide_true, fin_tmp, leave_v, hbad (by rw [decide_eq_false (by omega)]; rfl)]
      simp
    simp (disch := first | (simp only [DS, reduceCtorEq]; done) | omega) only [WS, St.guard, St.put, evalO, reduceCtorEq, reduceIte, Nat.reduceAdd, Nat.reduceEqDiff, c0, decide_false, ix, f1, l1, lb]
    by_cases c1 : (s.c.length : Int) > 40
    · simp (disch := first | (simp only [DS, reduceCtorEq]; done) | omega) only [WS, St.guard, St.put, evalO, reduceCtorEq, reduceIte, Nat.reduceAdd, Nat.reduceEqDiff, c1, decide_true, fin_tmp, leave_v, hbad (by rw [decide_eq_false (p := s.c.length ≤ 40) (by omega), Bool.and_false])]
      simp
    simp (disch := first | (simp only [DS, reduceCtorEq]; done) | omega) only [WS, St.guard, St.put, evalO, reduceCtorEq, reduceIte, Nat.reduceAdd, Nat.reduceEqDiff, c1, decide_false, vBin_add_i64, clear_nil, List.foldl_cons, List.foldl_nil, Option.some.injEq]
    refine ⟨rfl, fun j t hj h2 => ?_⟩
    by_cases hji : j < i
    · exact hp j t hji h2
    · obtain rfl : j = i := by omega
      rw [hx] at h2; cases h2
      rw [decide_eq_true (by omega), decide_eq_true (by omega)]; rfl
  · have e : fewOK ss = decide ((ss.length : Int) ≤ 20) := by
      unfold fewOK
      rw [all_of fun j x h => hp j x (lt_of_get h) h, Bool.and_true, decide_eq_decide]; omega
    simp (disch := first | (simp only [DS, reduceCtorEq]; done) | omega) only [f_law11_few_L0, f_law11_few_H0, WS, St.guard, St.put, evalO, reduceCtorEq, reduceIte, Nat.reduceAdd, Nat.reduceEqDiff, (v _).lenSlice, decide_false, fin_tmp, leave_v, e]
    simp
end Go.AM
namespace Go.AM
variable {prog : String → Option IFn}
structure Scope11 (prog : String → Option IFn) : Prop extends ScopeLib prog where
  few : prog "haberdash/haberdashlaw11.few" = some f_law11_few
  awake : prog "haberdash/haberdashlaw11.awake" = some f_law11_awake
  own : prog "haberdash/haberdashhelp.Own[string]" = some f_help_Own_string_
  kept : prog "haberdash/haberdashhelp.Kept[string]" = some f_help_Kept_string_
  same : prog "haberdash/haberdashhelp.Same[string]" = some f_help_Same_string_
  plain : prog "haberdash/haberdashhelp.Plain[string]" = some f_help_Plain_string_
  plain1 : prog "haberdash/haberdashhelp.Plain[string]$1" = some f_help_Plain_string__1
end Go.AM
namespace Go.AM
variable {prog : String → Option IFn}
theorem sView_own {G L} {j : Nat} {xs : List Txt} {n : Nat} {o v : Bool} {cap} (hL : L[j]? = some (some (dBlk (sEnc.row xs) o v))) (hn : xs.length = n) (hc : ∀ c, cap = some c → n ≤ c) : TView sEnc ⟨G, L⟩ (.own (.l j) n 0 n 1 cap) xs := by
  subst hn
  exact own_view1 hL (by rw [sEnc.row_len, show sEnc.esz = 1 from rfl, Nat.mul_one]) hc
theorem pair_store {G L} {j : Nat} {p q a b : AV} {d : Bool} (hL : L[j]? = some (some (sBlk [p, q] d))) :
    prim ⟨G, L⟩ (.store 2 false) [.ptr (.l j) 2 0, .agg [a, b]] = some (.v undef, ⟨G, L.set j (some (sBlk [a, b] (d && AV.lf.lfs [a, b])))⟩) :=
  store_s (cells := [p, q]) (n := 2) (off := 0) (sz := 2) (xs := [a, b]) hL rfl rfl rfl (by omega)
theorem pair_load {G L} {j : Nat} {a b : AV} {d : Bool} (hL : L[j]? = some (some (sBlk [a, b] d))) :
    prim ⟨G, L⟩ (.load 2 true) [.ptr (.l j) 2 0] = some (.agg [a, b], ⟨G, L⟩) := by
  rw [px_load_l, hL]; rfl
theorem awake11_spec (H : Scope11 prog) {G} : Ev prog (.call "haberdash/haberdashlaw11.awake" [] G) (.ret (.v (.bool true)) G) := by
  refine call_of_fin H.awake ?_
  simp only [f_law11_awake_B, enter, List.length_cons, List.length_nil, List.replicate, Nat.reduceAdd, Nat.reduceSub, List.cons_append, List.nil_append]
  simp (disch := first | (simp only [DS, reduceCtorEq]; done) | omega) only [WS, St.guard, St.put, evalO, reduceCtorEq, reduceIte, Nat.reduceAdd, Nat.reduceEqDiff]
  refine (WR_eq (build1 (n := 1) (xs := [.v (str [97])]) (by rfl) (by rfl) (by rfl) (by intro x hx; simp at hx; subst hx; rfl) (by rfl))).2 ?_
  simp (disch := first | (simp only [DS, reduceCtorEq]; done) | omega) only [WS, St.guard, St.put, evalO, reduceCtorEq, reduceIte, Nat.reduceAdd, Nat.reduceEqDiff]
  refine (WR_eq (build1 (n := 1) (xs := [.v (str [120])]) (by rfl) (by rfl) (by rfl) (by intro x hx; simp at hx; subst hx; rfl) (by rfl))).2 ?_
  simp (disch := first | (simp only [DS, reduceCtorEq]; done) | omega) only [WS, St.guard, St.put, evalO, reduceCtorEq, reduceIte, Nat.reduceAdd, Nat.reduceEqDiff]
  obtain ⟨p, hp⟩ : ∃ p, p = AV.own (.l 0) 1 0 1 1 (some 1) := ⟨_, rfl⟩
  obtain ⟨q, hq⟩ : ∃ q, q = AV.own (.l 1) 1 0 1 1 (some 1) := ⟨_, rfl⟩
  refine (WR_same (.agg [.own (.l 0) 1 0 1 1 (some 1), .own (.l 1) 1 0 1 1 (some 1)]) (by rfl)).2 ?_
  rw [← hp, ← hq]
  simp (disch := first | (simp only [DS, reduceCtorEq]; done) | omega) only [WS, St.guard, St.put, evalO, reduceCtorEq, reduceIte, Nat.reduceAdd, Nat.reduceEqDiff]
  rw [alloc_s rfl]
  simp (disch := first | (simp only [DS, reduceCtorEq]; done) | omega) only [WS, St.guard, St.put, evalO, reduceCtorEq, reduceIte, Nat.reduceAdd, Nat.reduceEqDiff]
  rw [pair_store rfl]
  simp (disch := first | (simp only [DS, reduceCtorEq]; done) | omega) only [WS, St.guard, St.put, evalO, reduceCtorEq, reduceIte, Nat.reduceAdd, Nat.reduceEqDiff]
  generalize (true && AV.lf.lfs [p, q]) = d
  have vp : ∀ L, TView sEnc ⟨G, some (dBlk [.v (str [97])] false false) :: L⟩ p [[97]] := fun L => by rw [hp]; exact sView_own (j := 0) rfl rfl (by simp)
  have vq : ∀ b0 L, TView sEnc ⟨G, b0 :: some (dBlk [.v (str [120])] false false) :: L⟩ q [[120]] := fun b0 L => by rw [hq]; exact sView_own (j := 1) rfl rfl (by simp)
  have gd : ∀ d, Good ⟨G, [some (dBlk [.v (str [97])] false false), some (dBlk [.v (str [120])] false false), some (sBlk [p, q] d)]⟩ := fun d => ⟨dBlk_good, dBlk_good, sBlk_good (by rw [hp, hq]; rfl), trivial⟩
  rw [pair_load rfl]
  simp (disch := first | (simp only [DS, reduceCtorEq]; done) | omega) only [WS, St.guard, St.put, evalO, reduceCtorEq, reduceIte, Nat.reduceAdd, Nat.reduceEqDiff]
  rw [WP_p (x := .bool (scopeOK [[97]] [[120]])) (by exact Right_spec H.toScopeLib ((vp _).into) ((vq _ _).into) (by decide) (by decide)) (gd _), show scopeOK [[97]] [[120]] = true from by decide]
  simp (disch := first | (simp only [DS, reduceCtorEq]; done) | omega) only [WS, St.guard, St.put, evalO, reduceCtorEq, reduceIte, Nat.reduceAdd, Nat.reduceEqDiff]
  rw [pair_load rfl]
  simp (disch := first | (simp only [DS, reduceCtorEq]; done) | omega) only [WS, St.guard, St.put, evalO, reduceCtorEq, reduceIte, Nat.reduceAdd, Nat.reduceEqDiff]
  refine (WR_same (.agg (ItemD.cells ⟨[98], [120], 0, false⟩)) (by rfl)).2 ?_
  simp (disch := first | (simp only [DS, reduceCtorEq]; done) | omega) only [WS, St.guard, St.put, evalO, reduceCtorEq, reduceIte, Nat.reduceAdd, Nat.reduceEqDiff]
  rw [WP_p (x := .bool (hasI [[97]] [[120]] ⟨[98], [120], 0, false⟩)) (by exact Has_spec H.toScopeLib ((vp _).into) ((vq _ _).into) (by decide) (by decide)) (gd _), show hasI [[97]] [[120]] ⟨[98], [120], 0, false⟩ = true from by decide]
  simp (disch := first | (simp only [DS, reduceCtorEq]; done) | omega) only [WS, St.guard, St.put, evalO, reduceCtorEq, reduceIte, Nat.reduceAdd, Nat.reduceEqDiff]
  rw [pair_load rfl]
  simp (disch := first | (simp only [DS, reduceCtorEq]; done) | omega) only [WS, St.guard, St.put, evalO, reduceCtorEq, reduceIte, Nat.reduceAdd, Nat.reduceEqDiff]
  refine (WR_same (.agg (ItemD.cells ⟨[98], [121], 0, false⟩)) (by rfl)).2 ?_
  simp (disch := first | (simp only [DS, reduceCtorEq]; done) | omega) only [WS, St.guard, St.put, evalO, reduceCtorEq, reduceIte, Nat.reduceAdd, Nat.reduceEqDiff]
  rw [WP_p (x := .bool (hasI [[97]] [[120]] ⟨[98], [121], 0, false⟩)) (by exact Has_spec H.toScopeLib ((vp _).into) ((vq _ _).into) (by decide) (by decide)) (gd _), show hasI [[97]] [[120]] ⟨[98], [121], 0, false⟩ = false from by decide]
  simp (disch := first | (simp only [DS, reduceCtorEq]; done) | omega) only [WS, St.guard, St.put, evalO, reduceCtorEq, reduceIte, Nat.reduceAdd, Nat.reduceEqDiff]
  refine (WR_same (.agg [.v (.slice none 0 0), .v (.slice none 0 0)]) (by rfl)).2 ?_
  simp (disch := first | (simp only [DS, reduceCtorEq]; done) | omega) only [WS, St.guard, St.put, evalO, reduceCtorEq, reduceIte, Nat.reduceAdd, Nat.reduceEqDiff]
  refine (WR_same (.agg (ItemD.cells ⟨[], [], 0, false⟩)) (by rfl)).2 ?_
  simp (disch := first | (simp only [DS, reduceCtorEq]; done) | omega) only [WS, St.guard, St.put, evalO, reduceCtorEq, reduceIte, Nat.reduceAdd, Nat.reduceEqDiff]
  have vn : ∀ h, TView sEnc h (.v (.slice none 0 0)) [] := fun h => view_nil' (by decide)
  rw [WP_p (x := .bool (hasI [] [] ⟨[], [], 0, false⟩)) (by exact Has_spec H.toScopeLib (fun L => vn _) (fun L => vn _) (by decide) (by decide)) (gd _), show hasI [] [] ⟨[], [], 0, false⟩ = true from by decide]
  simp (disch := first | (simp only [DS, reduceCtorEq]; done) | omega) only [WS, St.guard, St.put, evalO, reduceCtorEq, reduceIte, Nat.reduceAdd, Nat.reduceEqDiff, fin_tmp, leave_v]
  simp
abbrev scopeTy : Ty := .fcons (.slice .str) (.fcons (.slice .str) .fnil)
abbrev itemTy : Ty := .fcons .str (.fcons .str (.fcons (.int .i64) (.fcons .bool .fnil)))
theorem is_str {cs : List AV} (h : Ty.str.Is cs) : ∃ s : Txt, cs = [.v (str s)] ∧ s.length ≤ maxLen := by
  obtain ⟨s, hs, rfl⟩ := h
  exact ⟨s.data.toList, by rw [str_of], by rw [Array.length_toList]; exact hs⟩
theorem is_strs {cs : List AV} (h : (Ty.slice .str).Is cs) : ∃ a, ∃ xs : List Txt, cs = [a] ∧ (∀ h, TView sEnc h a xs) ∧ xs.length ≤ maxLen ∧ ∀ x ∈ xs, x.length ≤ maxLen := by
  rcases h with rfl | ⟨es, rfl, h, hl⟩
  · exact ⟨_, [], rfl, fun h => view_nil' (by decide), by simp, by simp⟩
  · obtain ⟨xs, hb, hx⟩ : ∃ xs : List Txt, es = xs.map sEnc.E ∧ ∀ x ∈ xs, x.length ≤ maxLen := by
      clear hl
      induction es with
      | nil => exact ⟨[], rfl, by simp⟩
      | cons e es ih =>
        obtain ⟨xs, hb, hx⟩ := ih fun x hx => h x (by simp [hx])
        obtain ⟨s, rfl, hs⟩ := is_str (h e (by simp))
        exact ⟨s :: xs, by rw [hb]; rfl, by simpa using ⟨hs, hx⟩⟩
    subst hb
    have e : (xs.map sEnc.E).flatten = sEnc.row xs := by rw [Enc.row, List.flatMap_def]
    refine ⟨_, xs, rfl, fun h => ?_, by simpa using hl, hx⟩
    rw [e, List.length_map]
    exact view_ro (by decide) (sEnc.row_len xs)
theorem is_scope {cs : List AV} (h : scopeTy.Is cs) : ∃ s : ScopeV, cs = [s.a, s.b] := by
  obtain ⟨c1, r1, rfl, h1, c2, r2, rfl, h2, h3⟩ := h
  obtain ⟨a, n, rfl, va, la, ta⟩ := is_strs h1
  obtain ⟨b, c, rfl, vb, lb, tb⟩ := is_strs h2
  exact ⟨⟨a, b, n, c, va, vb, la, lb, ta, tb⟩, by rw [show r2 = [] from h3]; rfl⟩
def itEnc : Enc ItemD := ⟨ItemD.cells, 4, true, fun _ => rfl, by omega, .inl rfl, fun _ => rfl, fun h => by cases h⟩
theorem is_item {cs : List AV} (h : itemTy.Is cs) : ∃ x : ItemD, cs = x.cells ∧ x.sku.length ≤ maxLen ∧ x.cat.length ≤ maxLen ∧ I64 x.price := by
  obtain ⟨c1, r1, rfl, h1, c2, r2, rfl, h2, c3, r3, rfl, h3, c4, r4, rfl, h4, h5⟩ := h
  obtain ⟨s, rfl, hs⟩ := is_str h1
  obtain ⟨t, rfl, ht⟩ := is_str h2
  obtain ⟨n, rfl, hn⟩ := is_i64 h3
  obtain ⟨b, rfl⟩ := h4
  exact ⟨⟨s, t, n, b⟩, by rw [show r4 = [] from h5]; rfl, hs, ht, hn⟩
theorem is_items {cs : List AV} (h : (Ty.slice itemTy).Is cs) : ∃ a, ∃ xs : List ItemD, cs = [a] ∧ (∀ h, TView itEnc h a xs) ∧ xs.length ≤ maxLen := by
  rcases h with rfl | ⟨es, rfl, h, hl⟩
  · exact ⟨_, [], rfl, fun h => view_nil' (by decide), by simp⟩
  · obtain ⟨xs, hb⟩ : ∃ xs : List ItemD, es = xs.map itEnc.E := by
      clear hl
      induction es with
      | nil => exact ⟨[], rfl⟩
      | cons e es ih =>
        obtain ⟨xs, hb⟩ := ih fun x hx => h x (by simp [hx])
        obtain ⟨x, rfl, _⟩ := is_item (h e (by simp))
        exact ⟨x :: xs, by rw [hb]; rfl⟩
    subst hb
    have e : (xs.map itEnc.E).flatten = itEnc.row xs := by rw [Enc.row, List.flatMap_def]
    refine ⟨_, xs, rfl, fun h => ?_, by simpa using hl⟩
    rw [e, List.length_map]
    exact view_ro (by decide) (itEnc.row_len xs)
end Go.AM
