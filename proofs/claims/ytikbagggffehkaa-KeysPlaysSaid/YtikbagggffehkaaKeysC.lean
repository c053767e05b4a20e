import Derived.Test.YtikbagggffehkaaKeysB
import Derived.Test.YtikbagggffehkaaPlayA
import Derived.KernelRfl
set_option linter.unusedVariables false
set_option linter.unusedSimpArgs false
namespace Go.AM
variable {prog : String → Option IFn}
theorem append_any {G L} {site j esz bytes len k : Nat} {x : AV} {cells new : List AV} (hL : L[j]? = some (some (dBlk cells true false))) (hl : cells.length = len * esz) (hv : View ⟨G, L⟩ x esz k new) (hd : AV.lf.lfs new = true)
    (hr : (len + k) * bytes ≤ room) :
    prim ⟨G, L⟩ (.append site false esz bytes) [.own (.l j) (len * esz) 0 len esz none, x] = some (.own (.l j) ((len + k) * esz) 0 (len + k) esz none, ⟨G, L.set j (some (dBlk (cells ++ new) true false))⟩) := by
  by_cases h0 : 0 < k
  · exact append_own hL hl hv hd h0 hr
  obtain rfl : k = 0 := by omega
  have hn : new = [] := List.eq_nil_of_length_eq_zero (by have := hv.hclen; omega)
  subst hn
  simp only [prim, hv.source, Option.bind_some, Hp.mayFreeze, Bool.false_eq_true, if_false, Hp.append, List.length_nil, Nat.zero_mul, if_true, Hp.get, hL, Option.join_some, dBlk_cells]
  refine (if_pos ⟨hl, trivial, hr, rfl⟩).trans ?_
  rw [Nat.add_zero, List.append_nil, set_same hL]
theorem put_chain {G a} {xs : List SeenD} {x : SeenD} {m : Nat} {bx : Blk} (v : ∀ L, TView seenE ⟨G, L⟩ a xs) (hm : m ≤ xs.length) (hl : xs.length ≤ 1000000) :
    ∃ t52 B1 t55 B1' B3 t59 C1 C3, prim ⟨G, [some bx, none, none, none, none]⟩ (.append 1 false 3 64) [.v (.slice none 0 0), AM.sub a 3 0 m] = some (t52, ⟨G, [some bx, B1, none, none, none]⟩) ∧
      prim ⟨G, [some bx, B1, some (dBlk x.cells false false), none, none]⟩ (.append 3 false 3 64) [t52, .own (.l 2) 3 0 1 3 (some 1)] = some (t55, ⟨G, [some bx, B1', some (dBlk x.cells false false), B3, none]⟩) ∧
      prim ⟨G, [some bx, B1', some (dBlk x.cells false false), B3, none]⟩ (.append 4 false 3 64) [t55, AM.sub a 3 m xs.length] = some (t59, ⟨G, [some bx, C1, some (dBlk x.cells false false), C3, none]⟩) ∧
      (⟨G, [some bx, C1, some (dBlk x.cells false false), C3, none]⟩ : Hp).leave (.tup [t59, .v (.int .i64 0)]) = some (.tup [.own (.o G.length) ((xs.length + 1) * 3) 0 (xs.length + 1) 3 none, .v (.int .i64 0)], G ++ [some (dBlk (seenE.row (insAt xs m x)) true false)]) ∧
      (∀ c, B1 = some c → c.labs = []) ∧ (∀ c, B1' = some c → c.labs = []) ∧ (∀ c, B3 = some c → c.labs = []) ∧ (∀ c, C1 = some c → c.labs = []) ∧ ∀ c, C3 = some c → c.labs = [] := by
  have hroom : room = 140737488355328 := rfl
  have dn : ∀ c, (none : Option Blk) = some c → c.labs = [] := fun c h => by cases h
  have eP : ((seenE.row xs).drop (0 * 3)).take ((m - 0) * 3) = seenE.row (xs.take m) := by
    rw [Nat.zero_mul, List.drop_zero, Nat.sub_zero]
    have e : seenE.row xs = seenE.row (xs.take m) ++ seenE.row (xs.drop m) := by rw [← seenE.row_append, List.take_append_drop]
    have hl : (seenE.row (xs.take m)).length = m * 3 := by rw [seenE.row_len, List.length_take, Nat.min_eq_left hm]; rfl
    rw [e, List.take_left' hl]
  have eS : ((seenE.row xs).drop (m * 3)).take ((xs.length - m) * 3) = seenE.row (xs.drop m) := by
    have e : seenE.row xs = seenE.row (xs.take m) ++ seenE.row (xs.drop m) := by rw [← seenE.row_append, List.take_append_drop]
    have hl : (seenE.row (xs.take m)).length = m * 3 := by rw [seenE.row_len, List.length_take, Nat.min_eq_left hm]; rfl
    rw [e, List.drop_left' hl, List.take_of_length_le (by rw [seenE.row_len, List.length_drop]; exact Nat.le_refl _)]
  have vP : ∀ L, View ⟨G, L⟩ (AM.sub a 3 0 m) 3 m (seenE.row (xs.take m)) := fun L => by
    have := View.sub (h := ⟨G, L⟩) (esz := 3) (v L) (Nat.zero_le m) hm
    rw [eP, Nat.sub_zero] at this; exact this
  have vS : ∀ L, View ⟨G, L⟩ (AM.sub a 3 m xs.length) 3 (xs.length - m) (seenE.row (xs.drop m)) := fun L => by
    have := View.sub (h := ⟨G, L⟩) (esz := 3) (v L) hm (Nat.le_refl _)
    rw [eS] at this; exact this
  have vX : ∀ A B C D, View ⟨G, [A, B, some (dBlk x.cells false false), C, D]⟩ (.own (.l 2) 3 0 1 3 (some 1)) 3 1 x.cells := fun A B C D => own_viewC (j := 2) rfl rfl rfl (by decide) (fun c h => by cases h; exact Nat.le_refl _)
  have hPl : (seenE.row (xs.take m)).length = m * 3 := by rw [seenE.row_len, List.length_take, Nat.min_eq_left hm]; rfl
  have hrow : seenE.row (xs.take m) ++ x.cells ++ seenE.row (xs.drop m) = seenE.row (insAt xs m x) := by
    rw [insAt, seenE.row_append, List.append_assoc]; rfl
  by_cases h0 : m = 0
  · subst h0
    have e0 : seenE.row (xs.take 0) = [] := rfl
    refine ⟨.v (.slice none 0 0), none, .own (.l 3) (1 * 3) 0 1 3 none, none, some (dBlk x.cells true false), .own (.l 3) ((1 + (xs.length - 0)) * 3) 0 (1 + (xs.length - 0)) 3 none, none, some (dBlk (x.cells ++ seenE.row (xs.drop 0)) true false), ?_, ?_, ?_, ?_, dn, dn, dBlk_l, dn, dBlk_l⟩
    · have := append_nil0 (site := 1) (bytes := 64) (vP [some bx, none, none, none, none])
      exact this
    · exact append_nil (vX _ _ _ _) x.lf rfl (by omega) (by omega)
    · exact append_any (j := 3) rfl rfl (vS _) (seenE.row_lf _) (by omega)
    · have h1 : 1 + (xs.length - 0) = xs.length + 1 := by omega
      have e1 : x.cells ++ seenE.row (xs.drop 0) = seenE.row (insAt xs 0 x) := by rw [← hrow, e0, List.nil_append]
      rw [h1, e1]
      exact leave_l2 (j := 3) rfl rfl
  · have e2 : seenE.row (xs.take m) ++ x.cells ++ seenE.row (xs.drop m) = seenE.row (insAt xs m x) := hrow
    refine ⟨.own (.l 1) (m * 3) 0 m 3 none, some (dBlk (seenE.row (xs.take m)) true false), .own (.l 1) ((m + 1) * 3) 0 (m + 1) 3 none, some (dBlk (seenE.row (xs.take m) ++ x.cells) true false), none,
      .own (.l 1) ((m + 1 + (xs.length - m)) * 3) 0 (m + 1 + (xs.length - m)) 3 none, some (dBlk (seenE.row (xs.take m) ++ x.cells ++ seenE.row (xs.drop m)) true false), none, ?_, ?_, ?_, ?_, dBlk_l, dBlk_l, dn, dBlk_l, dn⟩
    · exact append_nil (vP _) (seenE.row_lf _) rfl (by omega) (by omega)
    · exact append_any (j := 1) rfl hPl (vX _ _ _ _) x.lf (by omega)
    · exact append_any (j := 1) rfl (by rw [List.length_append, hPl]; show m * 3 + 3 = _; omega) (vS _) (seenE.row_lf _) (by omega)
    · have h1 : m + 1 + (xs.length - m) = xs.length + 1 := by omega
      rw [h1, e2]
      exact leave_l2 (j := 1) rfl rfl
theorem refPut_spec (H : KeysLib2 prog) {G a} {xs : List SeenD} {x : SeenD} (v : ∀ L, TView seenE ⟨G, L⟩ a xs) (hl : xs.length ≤ maxLen) (hsm : smallK (x :: xs)) :
    ∃ r G2, Ev prog (.call "haberdash/haberdashref25.Put" [a, .agg x.cells] G) (.ret (.tup [r, .v (.int .i64 (kputE xs x))]) G2) ∧ KAns (kputR xs x) G r G2 := by
  have hroom : room = 140737488355328 := rfl
  have hml : xs.length ≤ 9223372036854775807 := hl
  have hkl : (ksOf xs).length = xs.length := by simp [ksOf]
  have na : ∀ ks, noRef ks a = true := fun ks => noRef_out (View.out (v []))
  have hx1 := hsm x (by simp)
  have hxs : smallK xs := fun y hy => hsm y (by simp [hy])
  have bx : ∀ L (j : Nat), L[j]? = some none → prim ⟨G, L⟩ (.box j) [.agg x.cells] = some (.ptr (.l j) 3 0, ⟨G, L.set j (some (sBlk x.cells true))⟩) := fun L j hL => box_T (T := seenE) hL
  have ld0 : ∀ R, prim ⟨G, some (sBlk x.cells true) :: R⟩ (.load 1 false) [.ptr (.l 0) 3 0] = some (.v (str x.k), ⟨G, some (sBlk x.cells true) :: R⟩) := fun R => rfl
  have hbl : (sBlk x.cells true).labs = [] := rfl
  have g0 : Good ⟨G, [some (sBlk x.cells true), none, none, none, none]⟩ := ⟨by rw [hbl]; rfl, trivial⟩
  have lenA : ∀ L, prim ⟨G, L⟩ .lenSlice [a] = some (.v (.int .i64 (xs.length : Nat)), ⟨G, L⟩) := fun L => (v L).lenSlice
  have no : ∀ {e : Int}, kputE xs x = e → e ≠ 0 → Ev prog (.call "haberdash/haberdashref25.Put" [a, .agg x.cells] G) (.ret (.tup [.v (.slice none 0 0), .v (.int .i64 e)]) G) →
      ∃ r G2, Ev prog (.call "haberdash/haberdashref25.Put" [a, .agg x.cells] G) (.ret (.tup [r, .v (.int .i64 (kputE xs x))]) G2) ∧ KAns (kputR xs x) G r G2 := fun {e} he h0 hev => by
    refine ⟨_, _, by rw [he]; exact hev, .inl ⟨?_, rfl, rfl⟩⟩
    unfold kputR; rw [he, if_neg h0]
  cases hr : rightK xs
  · refine no (e := 2) (by unfold kputE; rw [hr]; rfl) (by decide) ?_
    refine call_of_fin H.rput ?_
    simp only [f_ref25_Put_B, enter, List.length_cons, List.length_nil, List.replicate, Nat.reduceAdd, Nat.reduceSub, List.cons_append, List.nil_append]
    simp (disch := first | (simp only [DS, reduceCtorEq]; done) | omega) only [WS, St.guard, St.put, evalO, reduceCtorEq, reduceIte, Nat.reduceAdd, Nat.reduceEqDiff, bx, new_s, virtBlk_eq, box_s, box_vs, box_vi, box_vb, px_load_l, px_load_o, loadB_s, storeX, storeB_s, alloc_s, lay, whole, Option.join_some, List.drop_zero, List.drop_succ_cons, List.take_succ_cons, List.take_zero, List.drop_nil, List.nil_append, List.cons_append, Nat.reduceLeDiff, Nat.zero_add, and_self, and_true, cells_int, cells_bool, cells_str, cells_string, cells_agg, cells_own, cells_ro, cells_ptr, cells_nil, AV.lf.lfs, AV.lf, px_build, fills, build_string, build_str, build_int, WDR_some, Nat.reduceLeDiff, Nat.le_refl, Bool.and_self]
    refine (WP_p (x := .bool (rightK xs)) (by exact refKeys_spec H.toKeysLib ((v _).into) hl hxs) (by exact g0)).2 ?_
    simp (disch := first | (simp only [DS, reduceCtorEq]; done) | omega) only [WS, St.guard, St.put, evalO, reduceCtorEq, reduceIte, Nat.reduceAdd, Nat.reduceEqDiff, hr, fin_tmp2]
    exact ⟨by simp, leave_lf rfl⟩
  cases hnm : nameOK x.k
  · refine no (e := 2) (by unfold kputE; rw [hr, hnm]; rfl) (by decide) ?_
    refine call_of_fin H.rput ?_
    simp only [f_ref25_Put_B, enter, List.length_cons, List.length_nil, List.replicate, Nat.reduceAdd, Nat.reduceSub, List.cons_append, List.nil_append]
    simp (disch := first | (simp only [DS, reduceCtorEq]; done) | omega) only [WS, St.guard, St.put, evalO, reduceCtorEq, reduceIte, Nat.reduceAdd, Nat.reduceEqDiff, bx, new_s, virtBlk_eq, box_s, box_vs, box_vi, box_vb, px_load_l, px_load_o, loadB_s, storeX, storeB_s, alloc_s, lay, whole, Option.join_some, List.drop_zero, List.drop_succ_cons, List.take_succ_cons, List.take_zero, List.drop_nil, List.nil_append, List.cons_append, Nat.reduceLeDiff, Nat.zero_add, and_self, and_true, cells_int, cells_bool, cells_str, cells_string, cells_agg, cells_own, cells_ro, cells_ptr, cells_nil, AV.lf.lfs, AV.lf, px_build, fills, build_string, build_str, build_int, WDR_some, Nat.reduceLeDiff, Nat.le_refl, Bool.and_self]
    refine (WP_p (x := .bool (rightK xs)) (by exact refKeys_spec H.toKeysLib ((v _).into) hl hxs) (by exact g0)).2 ?_
    simp (disch := first | (simp only [DS, reduceCtorEq]; done) | omega) only [WS, St.guard, St.put, evalO, reduceCtorEq, reduceIte, Nat.reduceAdd, Nat.reduceEqDiff, hr, new_s, virtBlk_eq, box_s, box_vs, box_vi, box_vb, px_load_l, px_load_o, loadB_s, storeX, storeB_s, alloc_s, lay, whole, Option.join_some, List.drop_zero, List.drop_succ_cons, List.take_succ_cons, List.take_zero, List.drop_nil, List.nil_append, List.cons_append, Nat.reduceLeDiff, Nat.zero_add, and_self, and_true, cells_int, cells_bool, cells_str, cells_string, cells_agg, cells_own, cells_ro, cells_ptr, cells_nil, AV.lf.lfs, AV.lf, px_build, fills, build_string, build_str, build_int, WDR_some, Nat.reduceLeDiff, Nat.le_refl, Bool.and_self, ld0]
    refine (WP_p (x := .bool (nameOK x.k)) (by exact refName_spec H.rname hx1) (by exact g0)).2 ?_
    simp (disch := first | (simp only [DS, reduceCtorEq]; done) | omega) only [WS, St.guard, St.put, evalO, reduceCtorEq, reduceIte, Nat.reduceAdd, Nat.reduceEqDiff, hnm, fin_tmp2]
    exact ⟨by simp, leave_lf rfl⟩
  have h4 := rightK_len hr
  have hS := sortedB_iff.1 (rightK_sorted hr)
  obtain ⟨m, hm⟩ : ∃ m, m = lowB (ksOf xs) x.k := ⟨_, rfl⟩
  have hml2 : m ≤ xs.length := by rw [hm]; exact low_le xs x.k
  have hlt0 : ∀ (j : Nat) y, j < m → xs[j]? = some y → lessT y.k x.k = true := fun j y hj hy => by
    have := findIdx_before (p := fun k => !(lessT k x.k)) (xs := ksOf xs) (j := j) (x := y.k) (by rw [hm] at hj; exact hj) (by unfold ksOf; rw [List.getElem?_map, hy]; rfl)
    simpa using this
  have hge : ∀ y, xs[m]? = some y → lessT y.k x.k = false := fun y hy => by
    have := findIdx_at (p := fun k => !(lessT k x.k)) (xs := ksOf xs) (x := y.k) (by
      show (ksOf xs)[lowB (ksOf xs) x.k]? = some y.k
      rw [← hm]; unfold ksOf; rw [List.getElem?_map, hy]; rfl)
    simpa using this
  have hfin : ∀ {r G2} {e : Int}, kputE xs x = e → e ≠ 0 → ∀ {R : List (Option Blk)}, (⟨G, R⟩ : Hp).leave (.tup [.v (.slice none 0 0), .v (.int .i64 e)]) = some (r, G2) → ∃ r0, r = .tup [r0, .v (.int .i64 (kputE xs x))] ∧ KAns (kputR xs x) G r0 G2 := fun {r G2 e} he h0 {R} hlv => by
    rw [leave_lf rfl] at hlv
    cases hlv
    exact ⟨_, by rw [he], .inl ⟨by unfold kputR; rw [he, if_neg h0], rfl, rfl⟩⟩
  suffices hh : ∃ r G2, Ev prog (.call "haberdash/haberdashref25.Put" [a, .agg x.cells] G) (.ret r G2) ∧ ∃ r0, r = .tup [r0, .v (.int .i64 (kputE xs x))] ∧ KAns (kputR xs x) G r0 G2 by
    obtain ⟨r, G2, he, r0, rfl, h3⟩ := hh
    exact ⟨r0, G2, he, h3⟩
  refine call_ex H.rput ?_
  simp only [f_ref25_Put_B, enter, List.length_cons, List.length_nil, List.replicate, Nat.reduceAdd, Nat.reduceSub, List.cons_append, List.nil_append]
  simp (disch := first | (simp only [DS, reduceCtorEq]; done) | omega) only [WS, St.guard, St.put, evalO, reduceCtorEq, reduceIte, Nat.reduceAdd, Nat.reduceEqDiff, bx, new_s, virtBlk_eq, box_s, box_vs, box_vi, box_vb, px_load_l, px_load_o, loadB_s, storeX, storeB_s, alloc_s, lay, whole, Option.join_some, List.drop_zero, List.drop_succ_cons, List.take_succ_cons, List.take_zero, List.drop_nil, List.nil_append, List.cons_append, Nat.reduceLeDiff, Nat.zero_add, and_self, and_true, cells_int, cells_bool, cells_str, cells_string, cells_agg, cells_own, cells_ro, cells_ptr, cells_nil, AV.lf.lfs, AV.lf, px_build, fills, build_string, build_str, build_int, WDR_some, Nat.reduceLeDiff, Nat.le_refl, Bool.and_self]
  refine (WP_p (x := .bool (rightK xs)) (by exact refKeys_spec H.toKeysLib ((v _).into) hl hxs) (by exact g0)).2 ?_
  simp (disch := first | (simp only [DS, reduceCtorEq]; done) | omega) only [WS, St.guard, St.put, evalO, reduceCtorEq, reduceIte, Nat.reduceAdd, Nat.reduceEqDiff, hr, new_s, virtBlk_eq, box_s, box_vs, box_vi, box_vb, px_load_l, px_load_o, loadB_s, storeX, storeB_s, alloc_s, lay, whole, Option.join_some, List.drop_zero, List.drop_succ_cons, List.take_succ_cons, List.take_zero, List.drop_nil, List.nil_append, List.cons_append, Nat.reduceLeDiff, Nat.zero_add, and_self, and_true, cells_int, cells_bool, cells_str, cells_string, cells_agg, cells_own, cells_ro, cells_ptr, cells_nil, AV.lf.lfs, AV.lf, px_build, fills, build_string, build_str, build_int, WDR_some, Nat.reduceLeDiff, Nat.le_refl, Bool.and_self, ld0]
  refine (WP_p (x := .bool (nameOK x.k)) (by exact refName_spec H.rname hx1) (by exact g0)).2 ?_
  simp (disch := first | (simp only [DS, reduceCtorEq]; done) | omega) only [WS, St.guard, St.put, evalO, reduceCtorEq, reduceIte, Nat.reduceAdd, Nat.reduceEqDiff, hnm]
  refine WC_countP (fun _ => True) (fun i => ⟨f_ref25_Put_H0 a (.ptr (.l 0) 3 0) (.v (.int .i64 (i : Int))), ⟨G, [some (sBlk x.cells true), none, none, none, none]⟩⟩) m ?_ trivial (fun i hi _ => ?_) (fun _ => ?_)
  · simp only [clear_nil, List.foldl_cons, List.foldl_nil, Option.some.injEq, LS, reduceCtorEq, reduceIte, Nat.reduceAdd]; rfl
  · have hlt' : (i : Int) < (xs.length : Int) := by omega
    have hx : xs[i]? = some xs[i] := List.getElem?_eq_getElem (by omega)
    have hless := hlt0 i xs[i] hi hx
    generalize xs[i] = y at *
    have q := fun L => sn_at (v L) hx
    simp (disch := first | (simp only [DS, reduceCtorEq]; done) | omega) only [f_ref25_Put_L0, f_ref25_Put_H0, WS, St.guard, St.put, evalO, reduceCtorEq, reduceIte, Nat.reduceAdd, Nat.reduceEqDiff, lenA, hlt', decide_true, (q _).ix, (q _).f0, (q _).l0, new_s, virtBlk_eq, box_s, box_vs, box_vi, box_vb, px_load_l, px_load_o, loadB_s, storeX, storeB_s, alloc_s, lay, whole, Option.join_some, List.drop_zero, List.drop_succ_cons, List.take_succ_cons, List.take_zero, List.drop_nil, List.nil_append, List.cons_append, Nat.reduceLeDiff, Nat.zero_add, and_self, and_true, cells_int, cells_bool, cells_str, cells_string, cells_agg, cells_own, cells_ro, cells_ptr, cells_nil, AV.lf.lfs, AV.lf, px_build, fills, build_string, build_str, build_int, WDR_some, Nat.reduceLeDiff, Nat.le_refl, Bool.and_self, ld0, vBin_lss_str]
    rw [show Op.bytesLess y.k x.k = true from hless]
    simp (disch := first | (simp only [DS, reduceCtorEq]; done) | omega) only [WS, St.guard, St.put, evalO, reduceCtorEq, reduceIte, Nat.reduceAdd, Nat.reduceEqDiff, vBin_add_i64, clear_nil, List.foldl_cons, List.foldl_nil, Option.some.injEq]
    rfl
  have hl6 : xs.length ≤ 1000000 := by omega
  obtain ⟨t52, B1, t55, B1', B3, t59, C1, C3, a1, a2, a3, a4, d1, d1', d3, e1, e3⟩ := put_chain (x := x) (bx := sBlk x.cells true) v hml2 hl6
  have s1 : ∀ L, prim ⟨G, L⟩ (.slice 3 false true false) [a, .v (.int .i64 (m : Int))] = some (AM.sub a 3 0 m, ⟨G, L⟩) := fun L => View.sliceHi (v L) hml2
  have s2 : ∀ L, prim ⟨G, L⟩ (.slice 3 true false false) [a, .v (.int .i64 (m : Int))] = some (AM.sub a 3 m xs.length, ⟨G, L⟩) := fun L => View.sliceLo (v L) hml2
  have gd : ∀ A B C : Option Blk, (∀ c, A = some c → c.labs = []) → (∀ c, B = some c → c.labs = []) → (∀ c, C = some c → c.labs = []) → Good ⟨G, [some (sBlk x.cells true), A, B, C, none]⟩ := fun A B C hA hB hC => ⟨by rw [hbl]; rfl, goodD hA (goodD hB (goodD hC trivial))⟩
  have dn : ∀ c, (none : Option Blk) = some c → c.labs = [] := fun c h => by cases h
  have ld3 : ∀ R, prim ⟨G, some (sBlk x.cells true) :: R⟩ (.load 3 true) [.ptr (.l 0) 3 0] = some (.agg x.cells, ⟨G, some (sBlk x.cells true) :: R⟩) := fun R => rfl
  have bs : prim ⟨G, [some (sBlk x.cells true), none, none, none, none]⟩ (.buildSlice 2 false 3 1 [.string ⟨#[]⟩, .slice none 0 0, .slice none 0 0] [(0, 3)]) [.agg x.cells] = some (.own (.l 2) 3 0 1 3 (some 1), ⟨G, [some (sBlk x.cells true), none, some (dBlk x.cells false false), none, none]⟩) := by
    have : newBlk x.cells = dBlk x.cells false false := newBlk_data x.lf
    show some ((_ : AV), (⟨G, [some (sBlk x.cells true), none, some (newBlk x.cells), none, none]⟩ : Hp)) = _
    rw [this]
  have ok : kputE xs x = 0 → ∃ r0, (AV.tup [.own (.o G.length) ((xs.length + 1) * 3) 0 (xs.length + 1) 3 none, .v (.int .i64 0)]) = .tup [r0, .v (.int .i64 (kputE xs x))] ∧ KAns (kputR xs x) G r0 (G ++ [some (dBlk (seenE.row (insAt xs m x)) true false)]) := fun he => by
    refine ⟨_, by rw [he], .inr ⟨?_, ?_, ?_⟩⟩
    · unfold kputR; rw [if_pos he]; intro h; have := congrArg List.length h; rw [insK_len] at this; simp at this
    · unfold kputR; rw [if_pos he, insK_len]
    · unfold kputR; rw [if_pos he]; unfold insK; rw [← hm]
  by_cases hlm : m < xs.length
  · have hx : xs[m]? = some xs[m] := List.getElem?_eq_getElem hlm
    have hnl := hge xs[m] hx
    have hkm : (ksOf xs)[m]? = some xs[m].k := by unfold ksOf; rw [List.getElem?_map, hx]; rfl
    generalize xs[m] = y at *
    have q := fun L => sn_at (v L) hx
    have hlt' : (m : Int) < (xs.length : Int) := by omega
    simp (disch := first | (simp only [DS, reduceCtorEq]; done) | omega) only [f_ref25_Put_L0, f_ref25_Put_H0, WS, St.guard, St.put, evalO, reduceCtorEq, reduceIte, Nat.reduceAdd, Nat.reduceEqDiff, lenA, hlt', decide_true, (q _).ix, (q _).f0, (q _).l0, new_s, virtBlk_eq, box_s, box_vs, box_vi, box_vb, px_load_l, px_load_o, loadB_s, storeX, storeB_s, alloc_s, lay, whole, Option.join_some, List.drop_zero, List.drop_succ_cons, List.take_succ_cons, List.take_zero, List.drop_nil, List.nil_append, List.cons_append, Nat.reduceLeDiff, Nat.zero_add, and_self, and_true, cells_int, cells_bool, cells_str, cells_string, cells_agg, cells_own, cells_ro, cells_ptr, cells_nil, AV.lf.lfs, AV.lf, px_build, fills, build_string, build_str, build_int, WDR_some, Nat.reduceLeDiff, Nat.le_refl, Bool.and_self, ld0, vBin_lss_str]
    rw [show Op.bytesLess y.k x.k = false from hnl]
    simp (disch := first | (simp only [DS, reduceCtorEq]; done) | omega) only [WS, St.guard, St.put, evalO, reduceCtorEq, reduceIte, Nat.reduceAdd, Nat.reduceEqDiff, lenA, hlt', decide_true, (q _).ix, (q _).f0, (q _).l0, new_s, virtBlk_eq, box_s, box_vs, box_vi, box_vb, px_load_l, px_load_o, loadB_s, storeX, storeB_s, alloc_s, lay, whole, Option.join_some, List.drop_zero, List.drop_succ_cons, List.take_succ_cons, List.take_zero, List.drop_nil, List.nil_append, List.cons_append, Nat.reduceLeDiff, Nat.zero_add, and_self, and_true, cells_int, cells_bool, cells_str, cells_string, cells_agg, cells_own, cells_ro, cells_ptr, cells_nil, AV.lf.lfs, AV.lf, px_build, fills, build_string, build_str, build_int, WDR_some, Nat.reduceLeDiff, Nat.le_refl, Bool.and_self, ld0, vBin_eql_str]
    by_cases hyx : y.k = x.k
    · have he : kputE xs x = 8 := by
        unfold kputE
        have : fstB (ksOf xs) x.k < (ksOf xs).length := by rw [← low_fst hS, ← hm, hkm, hyx]
        rw [hr, hnm, if_pos this]; rfl
      simp (disch := first | (simp only [DS, reduceCtorEq]; done) | omega) only [WS, St.guard, St.put, evalO, reduceCtorEq, reduceIte, Nat.reduceAdd, Nat.reduceEqDiff, decide_eq_true hyx, fin_tmp2]
      exact ⟨by simp, _, _, leave_lf rfl, hfin he (by decide) (R := []) (leave_lf rfl)⟩
    have hnf : ¬ fstB (ksOf xs) x.k < (ksOf xs).length := by
      rw [← low_fst hS, ← hm, hkm]
      intro h; exact hyx (Option.some.inj h)
    by_cases h5 : 4000 ≤ xs.length
    · have he : kputE xs x = 6 := by unfold kputE; rw [hr, hnm, if_neg hnf, if_pos h5]; rfl
      simp (disch := first | (simp only [DS, reduceCtorEq]; done) | omega) only [WS, St.guard, St.put, evalO, reduceCtorEq, reduceIte, Nat.reduceAdd, Nat.reduceEqDiff, decide_eq_false hyx, lenA, show (xs.length : Int) ≥ 4000 from by omega, decide_true, fin_tmp2]
      exact ⟨by simp, _, _, leave_lf rfl, hfin he (by decide) (R := []) (leave_lf rfl)⟩
    have he : kputE xs x = 0 := by unfold kputE; rw [hr, hnm, if_neg hnf, if_neg h5]; rfl
    simp (disch := first | (simp only [DS, reduceCtorEq]; done) | omega) only [WS, St.guard, St.put, evalO, reduceCtorEq, reduceIte, Nat.reduceAdd, Nat.reduceEqDiff, decide_eq_false hyx, lenA, show ¬ ((xs.length : Int) ≥ 4000) from by omega, decide_false, s1]
    refine WDP_go (h1 := ⟨G, [some (sBlk x.cells true), B1, none, none, none]⟩) (.prim a1) (by rfl) g0 rfl (.inr ⟨rfl, gd _ _ _ d1 dn dn⟩) ?_
    simp (disch := first | (simp only [DS, reduceCtorEq]; done) | omega) only [WS, St.guard, St.put, evalO, reduceCtorEq, reduceIte, Nat.reduceAdd, Nat.reduceEqDiff, WDX_some, reduceIte, if_true, if_false, Bool.and_true, Bool.true_and, true_and, Bool.false_eq_true, false_or, true_or, Hp.over, AM.over, over_nil, List.foldl_cons, List.foldl_nil, List.set_cons_zero, List.set_cons_succ, List.getElem?_cons_zero, List.getElem?_cons_succ, Option.join_some, List.length_cons, List.length_nil, Prim.sites, List.cons_append, List.nil_append]
    refine WDP_er (by exact gd _ _ _ d1 dn dn) (by rfl) ?_
    refine ⟨_, _, ld3 _, rfl, .inr ⟨rfl, gd _ _ _ d1 dn dn⟩, ?_⟩
    simp (disch := first | (simp only [DS, reduceCtorEq]; done) | omega) only [WS, St.guard, St.put, evalO, reduceCtorEq, reduceIte, Nat.reduceAdd, Nat.reduceEqDiff, WDX_some, reduceIte, if_true, if_false, Bool.and_true, Bool.true_and, true_and, Bool.false_eq_true, false_or, true_or, Hp.over, AM.over, over_nil, List.foldl_cons, List.foldl_nil, List.set_cons_zero, List.set_cons_succ, List.getElem?_cons_zero, List.getElem?_cons_succ, Option.join_some, List.length_cons, List.length_nil, Prim.sites, List.cons_append, List.nil_append]
    refine WDP_er (by exact gd _ _ _ d1 dn dn) (by rfl) ?_
    refine ⟨_, _, bs, rfl, .inr ⟨rfl, gd _ _ _ d1 dBlk_l dn⟩, ?_⟩
    simp (disch := first | (simp only [DS, reduceCtorEq]; done) | omega) only [WS, St.guard, St.put, evalO, reduceCtorEq, reduceIte, Nat.reduceAdd, Nat.reduceEqDiff, WDX_some, reduceIte, if_true, if_false, Bool.and_true, Bool.true_and, true_and, Bool.false_eq_true, false_or, true_or, Hp.over, AM.over, over_nil, List.foldl_cons, List.foldl_nil, List.set_cons_zero, List.set_cons_succ, List.getElem?_cons_zero, List.getElem?_cons_succ, Option.join_some, List.length_cons, List.length_nil, Prim.sites, List.cons_append, List.nil_append]
    refine WDP_of (.prim a2) (by exact gd _ _ _ d1 dBlk_l dn) (by exact gd _ _ _ d1' dBlk_l d3) rfl rfl ?_
    simp (disch := first | (simp only [DS, reduceCtorEq]; done) | omega) only [WS, St.guard, St.put, evalO, reduceCtorEq, reduceIte, Nat.reduceAdd, Nat.reduceEqDiff, s2]
    refine WDP_of (.prim a3) (by exact gd _ _ _ d1' dBlk_l d3) (by exact gd _ _ _ e1 dBlk_l e3) rfl rfl ?_
    simp (disch := first | (simp only [DS, reduceCtorEq]; done) | omega) only [WS, St.guard, St.put, evalO, reduceCtorEq, reduceIte, Nat.reduceAdd, Nat.reduceEqDiff, fin_tmp2]
    exact ⟨by simp, _, _, a4, ok he⟩
  · have hme : m = xs.length := by omega
    have hlt' : ¬ (m : Int) < (xs.length : Int) := by omega
    have hnf : ¬ fstB (ksOf xs) x.k < (ksOf xs).length := by
      rw [← low_fst hS, ← hm]
      intro h
      have := lt_of_get h
      omega
    simp (disch := first | (simp only [DS, reduceCtorEq]; done) | omega) only [f_ref25_Put_L0, f_ref25_Put_H0, WS, St.guard, St.put, evalO, reduceCtorEq, reduceIte, Nat.reduceAdd, Nat.reduceEqDiff, lenA, hlt', decide_false]
    by_cases h5 : 4000 ≤ xs.length
    · have he : kputE xs x = 6 := by unfold kputE; rw [hr, hnm, if_neg hnf, if_pos h5]; rfl
      simp (disch := first | (simp only [DS, reduceCtorEq]; done) | omega) only [WS, St.guard, St.put, evalO, reduceCtorEq, reduceIte, Nat.reduceAdd, Nat.reduceEqDiff, lenA, hlt', decide_false, show (xs.length : Int) ≥ 4000 from by omega, decide_true, fin_tmp2]
      exact ⟨by simp, _, _, leave_lf rfl, hfin he (by decide) (R := []) (leave_lf rfl)⟩
    have he : kputE xs x = 0 := by unfold kputE; rw [hr, hnm, if_neg hnf, if_neg h5]; rfl
    simp (disch := first | (simp only [DS, reduceCtorEq]; done) | omega) only [WS, St.guard, St.put, evalO, reduceCtorEq, reduceIte, Nat.reduceAdd, Nat.reduceEqDiff, lenA, hlt', show ¬ ((xs.length : Int) ≥ 4000) from by omega, decide_false, s1]
    refine WDP_go (h1 := ⟨G, [some (sBlk x.cells true), B1, none, none, none]⟩) (.prim a1) (by rfl) g0 rfl (.inr ⟨rfl, gd _ _ _ d1 dn dn⟩) ?_
    simp (disch := first | (simp only [DS, reduceCtorEq]; done) | omega) only [WS, St.guard, St.put, evalO, reduceCtorEq, reduceIte, Nat.reduceAdd, Nat.reduceEqDiff, WDX_some, reduceIte, if_true, if_false, Bool.and_true, Bool.true_and, true_and, Bool.false_eq_true, false_or, true_or, Hp.over, AM.over, over_nil, List.foldl_cons, List.foldl_nil, List.set_cons_zero, List.set_cons_succ, List.getElem?_cons_zero, List.getElem?_cons_succ, Option.join_some, List.length_cons, List.length_nil, Prim.sites, List.cons_append, List.nil_append]
    refine WDP_er (by exact gd _ _ _ d1 dn dn) (by rfl) ?_
    refine ⟨_, _, ld3 _, rfl, .inr ⟨rfl, gd _ _ _ d1 dn dn⟩, ?_⟩
    simp (disch := first | (simp only [DS, reduceCtorEq]; done) | omega) only [WS, St.guard, St.put, evalO, reduceCtorEq, reduceIte, Nat.reduceAdd, Nat.reduceEqDiff, WDX_some, reduceIte, if_true, if_false, Bool.and_true, Bool.true_and, true_and, Bool.false_eq_true, false_or, true_or, Hp.over, AM.over, over_nil, List.foldl_cons, List.foldl_nil, List.set_cons_zero, List.set_cons_succ, List.getElem?_cons_zero, List.getElem?_cons_succ, Option.join_some, List.length_cons, List.length_nil, Prim.sites, List.cons_append, List.nil_append]
    refine WDP_er (by exact gd _ _ _ d1 dn dn) (by rfl) ?_
    refine ⟨_, _, bs, rfl, .inr ⟨rfl, gd _ _ _ d1 dBlk_l dn⟩, ?_⟩
    simp (disch := first | (simp only [DS, reduceCtorEq]; done) | omega) only [WS, St.guard, St.put, evalO, reduceCtorEq, reduceIte, Nat.reduceAdd, Nat.reduceEqDiff, WDX_some, reduceIte, if_true, if_false, Bool.and_true, Bool.true_and, true_and, Bool.false_eq_true, false_or, true_or, Hp.over, AM.over, over_nil, List.foldl_cons, List.foldl_nil, List.set_cons_zero, List.set_cons_succ, List.getElem?_cons_zero, List.getElem?_cons_succ, Option.join_some, List.length_cons, List.length_nil, Prim.sites, List.cons_append, List.nil_append]
    refine WDP_of (.prim a2) (by exact gd _ _ _ d1 dBlk_l dn) (by exact gd _ _ _ d1' dBlk_l d3) rfl rfl ?_
    simp (disch := first | (simp only [DS, reduceCtorEq]; done) | omega) only [WS, St.guard, St.put, evalO, reduceCtorEq, reduceIte, Nat.reduceAdd, Nat.reduceEqDiff, s2]
    refine WDP_of (.prim a3) (by exact gd _ _ _ d1' dBlk_l d3) (by exact gd _ _ _ e1 dBlk_l e3) rfl rfl ?_
    simp (disch := first | (simp only [DS, reduceCtorEq]; done) | omega) only [WS, St.guard, St.put, evalO, reduceCtorEq, reduceIte, Nat.reduceAdd, Nat.reduceEqDiff, fin_tmp2]
    exact ⟨by simp, _, _, a4, ok he⟩
end Go.AM
namespace Go.AM
variable {prog : String → Option IFn}
def KSite (site : Nat) (u : AV) (B : Option Blk) (us : List SeenD) : Prop :=
  (us = [] ∧ u = .v (.slice none 0 0) ∧ B = none) ∨ (us ≠ [] ∧ u = .own (.l site) (us.length * 3) 0 us.length 3 none ∧ B = some (dBlk (seenE.row us) true false))
theorem KSite.lab {site u B us} (h : KSite site u B us) : ∀ c, B = some c → c.labs = [] := by
  rcases h with ⟨_, _, rfl⟩ | ⟨_, _, rfl⟩ <;> intro c hc <;> cases hc; rfl
theorem KSite.view {site u B us} (h : KSite site u B us) {G L : List (Option Blk)} (hL : L[site]? = some B) : TView seenE ⟨G, L⟩ u us := by
  rcases h with ⟨rfl, rfl, _⟩ | ⟨_, rfl, rfl⟩
  · exact view_nil' (by decide)
  · exact own_T (T := seenE) hL (by simp)
theorem KSite.isNil {site u B us} (h : KSite site u B us) {G L : List (Option Blk)} (hL : L[site]? = some B) : ∃ nb : Bool, (⟨G, L⟩ : Hp).isNil .slice u = some nb ∧ (nb = true → us = []) := by
  rcases h with ⟨rfl, rfl, _⟩ | ⟨_, rfl, rfl⟩
  · exact ⟨true, rfl, fun _ => rfl⟩
  · refine ⟨false, ?_, fun h => by cases h⟩
    have hg : (⟨G, L⟩ : Hp).get (.l site) = some (dBlk (seenE.row us) true false) := by simp only [Hp.get, hL, Option.join_some]
    rw [isNil_own hg (by rw [dBlk_cells, seenE.row_len]; rfl)]; rfl
theorem KSite.noRef {site u B us} (h : KSite site u B us) {ks : List Nat} (hk : ks.contains site = false) : AM.noRef ks u = true := by
  rcases h with ⟨rfl, rfl, _⟩ | ⟨_, rfl, rfl⟩
  · rfl
  · rw [noRef_own, hk]; rfl
theorem KSite.into {site u B us} (h : KSite site u B us) {G L : List (Option Blk)} (hL : L[site]? = some B) :
    (∀ L', TView seenE ⟨(⟨G, L⟩ : Hp).into, L'⟩ (u.ren (up G.length)) us) ∧ ∃ nb : Bool, (∀ L', (⟨(⟨G, L⟩ : Hp).into, L'⟩ : Hp).isNil .slice (u.ren (up G.length)) = some nb) ∧ (nb = true → us = []) := by
  refine ⟨(h.view hL).into, ?_⟩
  rcases h with ⟨rfl, rfl, _⟩ | ⟨_, rfl, rfl⟩
  · exact ⟨true, fun L' => rfl, fun _ => rfl⟩
  · refine ⟨false, fun L' => ?_, fun h => by cases h⟩
    have hB : (⟨(⟨G, L⟩ : Hp).into, L'⟩ : Hp).get (.o (G.length + site)) = some (dBlk (seenE.row us) true false) := get_into_data (h := ⟨G, L⟩) (j := site) hL rfl
    exact isNil_own hB (by rw [dBlk_cells, seenE.row_len]; rfl)
theorem leave_tup2 {x : Value} {r : AV} {ρ} : (AV.tup [r, .v x]).ren ρ = .tup [r.ren ρ, .v x] := rfl
theorem op_put {f args} {site : Nat} {G L : List (Option Blk)} {us : List SeenD} {e : Int} (he : ∃ r G2, Ev prog (.call f (args.map (AV.ren (up G.length))) (⟨G, L⟩ : Hp).into) (.ret (.tup [r, .v (.int .i64 e)]) G2) ∧ KAns us (⟨G, L⟩ : Hp).into r G2)
    (hL : L[site]? = some none) (hg : Good ⟨G, L⟩) : ∃ u B, Ev prog (.op (.call f [site]) args ⟨G, L⟩) (.val (.tup [u, .v (.int .i64 e)]) ⟨G, L.set site B⟩) ∧ KSite site u B us := by
  obtain ⟨r, G2, he, ha⟩ := he
  have hfr : [site].all (free L) = true := by simp [free_of_get hL]
  rcases ha with ⟨rfl, rfl, rfl⟩ | ⟨hne, rfl, rfl⟩
  · refine ⟨.v (.slice none 0 0), none, ?_, .inl ⟨rfl, rfl, rfl⟩⟩
    rw [set_none hL]
    refine .opCall hg.okBlks he ?_
    rw [back_none (h' := ⟨G, L⟩) rfl rfl hg (by simp) hfr hfr]; rfl
  · refine ⟨.own (.l site) (us.length * 3) 0 us.length 3 none, some (dBlk (seenE.row us) true false), ?_, .inr ⟨hne, rfl, rfl⟩⟩
    exact op_news (h := ⟨G, L⟩) (Bs := [some (dBlk (seenE.row us) true false)]) he (data1 dBlk_l) rfl (by simp) hfr hg (by rw [leave_tup2, ren_own1])
def seenEq (x y : SeenD) : Bool := decide (x.k = y.k) && (decide (x.q.b = y.q.b) && decide (x.t.b = y.t.b))
theorem SeenEq_spec (hf : prog "haberdash/haberdashhelp.Seen" = some f_help_Seen) (hb : prog "haberdash/haberdashhelp.Bytes" = some f_help_Bytes) {G} (x y : SeenD) :
    Ev prog (.call "haberdash/haberdashhelp.Seen" [seenE.av x, seenE.av y] G) (.ret (.v (.bool (seenEq x y))) G) := by
  refine call_of_fin hf ?_
  have bx : ∀ L (j : Nat) (z : SeenD), L[j]? = some none → prim ⟨G, L⟩ (.box j) [.agg z.cells] = some (.ptr (.l j) 3 0, ⟨G, L.set j (some (sBlk z.cells true))⟩) := fun L j z hL => box_T (T := seenE) hL
  have g : Good ⟨G, [some (sBlk x.cells true), some (sBlk y.cells true)]⟩ := ⟨rfl, rfl, trivial⟩
  have lx : ∀ R (i : Nat) (a : AV), x.cells[i]? = some a → prim ⟨G, some (sBlk x.cells true) :: R⟩ (.load 1 false) [.ptr (.l 0) 3 i] = some (a, ⟨G, some (sBlk x.cells true) :: R⟩) := fun R i a h => by
    rcases i with _ | _ | _ | i <;> first | (cases h; rfl) | (simp [SeenD.cells] at h)
  have ly : ∀ A (i : Nat) (a : AV), y.cells[i]? = some a → prim ⟨G, [A, some (sBlk y.cells true)]⟩ (.load 1 false) [.ptr (.l 1) 3 i] = some (a, ⟨G, [A, some (sBlk y.cells true)]⟩) := fun A i a h => by
    rcases i with _ | _ | _ | i <;> first | (cases h; rfl) | (simp [SeenD.cells] at h)
  simp only [f_help_Seen_B, enter, List.length_cons, List.length_nil, List.replicate, Nat.reduceAdd, Nat.reduceSub, List.cons_append, List.nil_append, seenE_av]
  simp (disch := first | (simp only [DS, reduceCtorEq]; done) | omega) only [WS, St.guard, St.put, evalO, reduceCtorEq, reduceIte, Nat.reduceAdd, Nat.reduceEqDiff, bx, new_s, virtBlk_eq, box_s, box_vs, box_vi, box_vb, px_load_l, px_load_o, loadB_s, storeX, storeB_s, alloc_s, lay, whole, Option.join_some, List.drop_zero, List.drop_succ_cons, List.take_succ_cons, List.take_zero, List.drop_nil, List.nil_append, List.cons_append, Nat.reduceLeDiff, Nat.zero_add, and_self, and_true, cells_int, cells_bool, cells_str, cells_string, cells_agg, cells_own, cells_ro, cells_ptr, cells_nil, AV.lf.lfs, AV.lf, px_build, fills, build_string, build_str, build_int, WDR_some, Nat.reduceLeDiff, Nat.le_refl, Bool.and_self, lx _ 0 _ rfl, ly _ 0 _ rfl, vBin_eql_str]
  by_cases h1 : x.k = y.k
  · simp (disch := first | (simp only [DS, reduceCtorEq]; done) | omega) only [WS, St.guard, St.put, evalO, reduceCtorEq, reduceIte, Nat.reduceAdd, Nat.reduceEqDiff, decide_eq_true h1, lx _ 1 _ rfl, ly _ 1 _ rfl]
    refine (WP_p (x := .bool (decide (x.q.b = y.q.b))) (by rw [List.map_cons, List.map_cons, List.map_nil, x.q.ren, y.q.ren]; exact Bytes_spec hb (fun L => x.q.view _) (fun L => y.q.view _)) (by exact g)).2 ?_
    by_cases h2 : x.q.b = y.q.b
    · simp (disch := first | (simp only [DS, reduceCtorEq]; done) | omega) only [WS, St.guard, St.put, evalO, reduceCtorEq, reduceIte, Nat.reduceAdd, Nat.reduceEqDiff, decide_eq_true h2, lx _ 2 _ rfl, ly _ 2 _ rfl]
      refine (WP_p (x := .bool (decide (x.t.b = y.t.b))) (by rw [List.map_cons, List.map_cons, List.map_nil, x.t.ren, y.t.ren]; exact Bytes_spec hb (fun L => x.t.view _) (fun L => y.t.view _)) (by exact g)).2 ?_
      have e : seenEq x y = decide (x.t.b = y.t.b) := by unfold seenEq; rw [decide_eq_true h1, decide_eq_true h2]; rfl
      rw [e]
      simp (disch := first | (simp only [DS, reduceCtorEq]; done) | omega) only [WS, St.guard, St.put, evalO, reduceCtorEq, reduceIte, Nat.reduceAdd, Nat.reduceEqDiff, fin_tmp, leave_v]
      simp
    · have e : seenEq x y = false := by unfold seenEq; rw [decide_eq_false h2]; simp
      rw [e]
      simp (disch := first | (simp only [DS, reduceCtorEq]; done) | omega) only [WS, St.guard, St.put, evalO, reduceCtorEq, reduceIte, Nat.reduceAdd, Nat.reduceEqDiff, decide_eq_false h2, fin_tmp, leave_v]
      simp
  · have e : seenEq x y = false := by unfold seenEq; rw [decide_eq_false h1]; rfl
    rw [e]
    simp (disch := first | (simp only [DS, reduceCtorEq]; done) | omega) only [WS, St.guard, St.put, evalO, reduceCtorEq, reduceIte, Nat.reduceAdd, Nat.reduceEqDiff, decide_eq_false h1, fin_tmp, leave_v]
    simp
theorem sameSeen_spec (hs : prog "haberdash/haberdashhelp.Same[haberdash/api.Seen]" = some f_help_Same_api_Seen_) (hf : prog "haberdash/haberdashhelp.Seen" = some f_help_Seen) (hb : prog "haberdash/haberdashhelp.Bytes" = some f_help_Bytes) {G a b} {xs ys : List SeenD}
    (v : ∀ L, TView seenE ⟨G, L⟩ a xs) (w : ∀ L, TView seenE ⟨G, L⟩ b ys) (hl : xs.length < 2 ^ 62) (hl2 : ys.length < 2 ^ 62) :
    Ev prog (.call "haberdash/haberdashhelp.Same[haberdash/api.Seen]" [a, b, .fn "haberdash/haberdashhelp.Seen" [] []] G) (.ret (.v (.bool (same2 seenEq xs ys))) G) :=
  same_spec (T := seenE) (U := seenE) rfl rfl (hs.trans (congrArg some (by rfl))) v w seenEq (fun i x y _ _ => op_fn av_lf2 (by rw [into_nil]; exact SeenEq_spec hf hb x y) trivial) hl hl2
theorem is_byt {cs : List AV} (h : (Ty.slice (.int .u8)).Is cs) : ∃ x : Byt, cs = [x.a] ∧ x.b.length ≤ maxLen := by
  obtain ⟨a, bs, rfl, va, hl⟩ := is_bytes h
  rcases h with h | ⟨es, h, _, _⟩
  · cases h
    have hb : bs = [] := by
      have := (va ⟨[], []⟩).hlen
      simp [lenOf] at this
      exact List.eq_nil_of_length_eq_zero this.symm
    exact ⟨⟨bs, _, .inl ⟨rfl, hb⟩⟩, rfl, hl⟩
  · simp only [List.cons.injEq, and_true] at h
    have h1 := (va ⟨[], []⟩).hlen
    have h2 := (va ⟨[], []⟩).hsees
    rw [h] at h1 h2
    simp only [lenOf, Option.some.injEq] at h1
    simp only [Hp.sees, Option.some.injEq] at h2
    refine ⟨⟨bs, a, .inr ⟨false, ?_, fun h => by cases h⟩⟩, rfl, hl⟩
    rw [h, h1, h2]; rfl
structure Law26 (prog : String → Option IFn) : Prop extends KeysLib2 prog where
  awake : prog "haberdash/haberdashlaw26.awake" = some f_law26_awake
def fs26 : List (String × IFn) := [
  ("haberdash/haberdashlaw26.awake", f_law26_awake), ("haberdash/keys.Put", f_keys_Put), ("haberdash/keys.Ask", f_keys_Ask), ("haberdash/keys.Right", f_keys_Right), ("haberdash/keys.find", f_keys_find), ("haberdash/keys.find$1", f_keys_find_1),
  ("haberdash/keys.byKey", f_keys_byKey), ("haberdash/keys.Insert", f_keys_Insert), ("haberdash/keys.Clone", f_keys_Clone), (sclN, f_slices_Clone___api_Seen_api_Seen_), (insN, xFn), ("haberdash/goods.Name", f_goods_Name), ("haberdash/goods.Rise", f_goods_Rise),
  ("cmp.Compare[string]", f_cmp_Compare_string_), ("cmp.isNaN[string]", f_cmp_isNaN_string_),
  ("slices.IsSortedFunc[[]haberdash/api.Seen,haberdash/api.Seen]", f_slices_IsSortedFunc___api_Seen_api_Seen_),
  ("slices.BinarySearchFunc[[]haberdash/api.Seen,haberdash/api.Seen,haberdash/api.Seen]", f_slices_BinarySearchFunc___api_Seen_api_Seen_api_Seen_),
  ("slices.IndexFunc[[]haberdash/api.Seen,haberdash/api.Seen]", f_slices_IndexFunc___api_Seen_api_Seen_), ("bytes.Equal", f_bytes_Equal), ("bytes.Clone", f_bytes_Clone), ("haberdash/haberdashhelp.Bytes", f_help_Bytes)]
theorem aw26_3 : run (look fs26) 900 (.call "haberdash/haberdashlaw26.awake" [] (List.replicate 3 none)) = some (.ret (.v (.bool true)) (List.replicate 3 none)) := by kernel_rfl
theorem aw26_6 : run (look fs26) 900 (.call "haberdash/haberdashlaw26.awake" [] (List.replicate 6 none)) = some (.ret (.v (.bool true)) (List.replicate 6 none)) := by kernel_rfl
theorem aw26_8 : run (look fs26) 900 (.call "haberdash/haberdashlaw26.awake" [] (List.replicate 8 none)) = some (.ret (.v (.bool true)) (List.replicate 8 none)) := by kernel_rfl
theorem aw26_10 : run (look fs26) 900 (.call "haberdash/haberdashlaw26.awake" [] (List.replicate 10 none)) = some (.ret (.v (.bool true)) (List.replicate 10 none)) := by kernel_rfl
theorem Law26.fs (H : Law26 prog) : Holds prog fs26 := ⟨H.awake, H.put, H.ask, H.right, H.find, H.find1, H.byKey, H.insert, H.kclone, H.sclone, H.sins, H.name, H.riseF, H.cmp, H.nan, H.sorted, H.search, H.indexF, H.equal, H.bclone, H.bytes, trivial⟩
theorem awake26 (H : Law26 prog) {G} (hG : G.length = 3 ∨ G.length = 6 ∨ G.length = 8 ∨ G.length = 10) : Ev prog (.call "haberdash/haberdashlaw26.awake" [] G) (.ret (.v (.bool true)) G) := by
  rcases hG with h | h | h | h
  · exact ev_run H.fs h aw26_3
  · exact ev_run H.fs h aw26_6
  · exact ev_run H.fs h aw26_8
  · exact ev_run H.fs h aw26_10
end Go.AM
