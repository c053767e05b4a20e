import Derived.Test.YtikbagggffehkaaBasketD
set_option linter.unusedVariables false
set_option linter.unusedSimpArgs false
namespace Go.AM
variable {prog : String → Option IFn}
structure Law14B (prog : String → Option IFn) : Prop extends Law14 prog where
  play : PlayBase prog
  mod64 : prog "haberdash/haberdashplay.Mod64" = some f_play_Mod64
  items : prog "haberdash/haberdashplay.Items" = some f_play_Items
  lines : prog "haberdash/haberdashplay.Lines" = some f_play_Lines
  ritems : prog "haberdash/haberdashref10.Items" = some f_ref10_Items
  sameI : prog "haberdash/haberdashhelp.Same[haberdash/api.Item]" = some f_help_Same_api_Item_
  plainI : prog "haberdash/haberdashhelp.Plain[haberdash/api.Item]" = some f_help_Plain_api_Item_
  plainI1 : prog "haberdash/haberdashhelp.Plain[haberdash/api.Item]$1" = some f_help_Plain_api_Item__1
theorem itemsL_len' {is : List ItemD} {xs : List LineD} : (itemsL is xs).length ≤ xs.length := by
  unfold itemsL
  split
  · exact itTo_len
  · simp
set_option maxRecDepth 10000 in
theorem BasketNear_law (H : Law14B prog) (hp : prog "haberdash/haberdashlaw14.BasketNear" = some f_law14_BasketNear) {as} (h : IsAll [.slice itemTy, .slice lineTy] as) :
    ∃ G2, Ev prog (.call "haberdash/haberdashlaw14.BasketNear" as []) (.ret (.v (.bool true)) G2) := by
  rcases as with _ | ⟨a0, _ | ⟨a1, _ | _⟩⟩ <;> try (simp [IsAll] at h; done)
  obtain ⟨⟨c0', h0, rfl⟩, ⟨c1', h1, rfl⟩, _⟩ := h
  obtain ⟨a, is, rfl, va, hil, _⟩ := is_itemsS h0
  obtain ⟨b, xs, rfl, vb, hxl⟩ := is_lines h1
  refine ⟨[], call_of_fin hp ?_⟩
  have gn : Good ⟨[], [none, none, none, none, none]⟩ := trivial
  have aw : ∀ G, G.length = 5 → Ev prog (.call "haberdash/haberdashlaw14.awake" [] G) (.ret (.v (.bool true)) G) := fun G h => awake14 H.toLaw14 (.inr (.inl h))
  have hi : ∀ n : Int, (n == n) = true := fun n => by simp
  simp only [f_law14_BasketNear_B, enter, List.length_cons, List.length_nil, List.replicate, Nat.reduceAdd, Nat.reduceSub, List.cons_append, List.nil_append, Ty.arg, intAV]
  simp (disch := first | (simp only [DS, reduceCtorEq]; done) | omega) only [WS, St.guard, St.put, evalO, reduceCtorEq, reduceIte, Nat.reduceAdd, Nat.reduceEqDiff, new_s, virtBlk_eq, box_s, box_vs, box_vi, box_vb, px_load_l, px_load_o, loadB_s, storeX, storeB_s, alloc_s, lay, whole, Option.join_some, List.drop_zero, List.drop_succ_cons, List.take_succ_cons, List.take_zero, List.drop_nil, List.nil_append, List.cons_append, Nat.reduceLeDiff, Nat.zero_add, and_self, and_true, cells_int, cells_bool, cells_str, cells_string, cells_agg, cells_own, cells_ro, cells_ptr, cells_nil, AV.lf.lfs, AV.lf, px_build, fills, build_string, build_str, build_int, WDR_some, Nat.reduceLeDiff, Nat.le_refl, Bool.and_self, (va _).lenSlice, (vb _).lenSlice]
  by_cases h40 : (is.length : Int) > 40
  · simp (disch := first | (simp only [DS, reduceCtorEq]; done) | omega) only [WS, St.guard, St.put, evalO, reduceCtorEq, reduceIte, Nat.reduceAdd, Nat.reduceEqDiff, h40, decide_true]
    refine (WP_p (x := .bool true) (by exact aw _ rfl) gn).2 ?_
    simp (disch := first | (simp only [DS, reduceCtorEq]; done) | omega) only [WS, St.guard, St.put, evalO, reduceCtorEq, reduceIte, Nat.reduceAdd, Nat.reduceEqDiff, fin_tmp, leave_v]
    simp
  simp (disch := first | (simp only [DS, reduceCtorEq]; done) | omega) only [WS, St.guard, St.put, evalO, reduceCtorEq, reduceIte, Nat.reduceAdd, Nat.reduceEqDiff, new_s, virtBlk_eq, box_s, box_vs, box_vi, box_vb, px_load_l, px_load_o, loadB_s, storeX, storeB_s, alloc_s, lay, whole, Option.join_some, List.drop_zero, List.drop_succ_cons, List.take_succ_cons, List.take_zero, List.drop_nil, List.nil_append, List.cons_append, Nat.reduceLeDiff, Nat.zero_add, and_self, and_true, cells_int, cells_bool, cells_str, cells_string, cells_agg, cells_own, cells_ro, cells_ptr, cells_nil, AV.lf.lfs, AV.lf, px_build, fills, build_string, build_str, build_int, WDR_some, Nat.reduceLeDiff, Nat.le_refl, Bool.and_self, h40, decide_false, (vb _).lenSlice]
  by_cases h41 : (xs.length : Int) > 40
  · simp (disch := first | (simp only [DS, reduceCtorEq]; done) | omega) only [WS, St.guard, St.put, evalO, reduceCtorEq, reduceIte, Nat.reduceAdd, Nat.reduceEqDiff, h41, decide_true]
    refine (WP_p (x := .bool true) (by exact aw _ rfl) gn).2 ?_
    simp (disch := first | (simp only [DS, reduceCtorEq]; done) | omega) only [WS, St.guard, St.put, evalO, reduceCtorEq, reduceIte, Nat.reduceAdd, Nat.reduceEqDiff, fin_tmp, leave_v]
    simp
  simp (disch := first | (simp only [DS, reduceCtorEq]; done) | omega) only [WS, St.guard, St.put, evalO, reduceCtorEq, reduceIte, Nat.reduceAdd, Nat.reduceEqDiff, new_s, virtBlk_eq, box_s, box_vs, box_vi, box_vb, px_load_l, px_load_o, loadB_s, storeX, storeB_s, alloc_s, lay, whole, Option.join_some, List.drop_zero, List.drop_succ_cons, List.take_succ_cons, List.take_zero, List.drop_nil, List.nil_append, List.cons_append, Nat.reduceLeDiff, Nat.zero_add, and_self, and_true, cells_int, cells_bool, cells_str, cells_string, cells_agg, cells_own, cells_ro, cells_ptr, cells_nil, AV.lf.lfs, AV.lf, px_build, fills, build_string, build_str, build_int, WDR_some, Nat.reduceLeDiff, Nat.le_refl, Bool.and_self, h41, decide_false]
  refine WP_news (by exact Items_spec H.play H.items H.mod64 ((va _).into)) (data1 dBlk_l) rfl (by decide) rfl gn (by exact ren_own1) ?_
  simp (disch := first | (simp only [DS, reduceCtorEq]; done) | omega) only [WS, St.guard, St.put, evalO, reduceCtorEq, reduceIte, Nat.reduceAdd, Nat.reduceEqDiff, new_s, virtBlk_eq, box_s, box_vs, box_vi, box_vb, px_load_l, px_load_o, loadB_s, storeX, storeB_s, alloc_s, lay, whole, Option.join_some, List.drop_zero, List.drop_succ_cons, List.take_succ_cons, List.take_zero, List.drop_nil, List.nil_append, List.cons_append, Nat.reduceLeDiff, Nat.zero_add, and_self, and_true, cells_int, cells_bool, cells_str, cells_string, cells_agg, cells_own, cells_ro, cells_ptr, cells_nil, AV.lf.lfs, AV.lf, px_build, fills, build_string, build_str, build_int, WDR_some, Nat.reduceLeDiff, Nat.le_refl, Bool.and_self, putAll]
  refine WP_news (by exact Lines_spec H.play H.lines H.mod64 ((vb _).into) hxl) (data1 dBlk_l) rfl (by decide) rfl (by unfold Good; dsimp only; repeat (first | exact trivial | rw [goodN] | refine ⟨dBlk_good, ?_⟩ | refine goodD (by assumption) ?_ | refine ⟨sBlk_good (by first | rfl | assumption | (simp [AV.labs.labss, AV.labs, refLt]; done)), ?_⟩)) (by exact ren_own1) ?_
  simp (disch := first | (simp only [DS, reduceCtorEq]; done) | omega) only [WS, St.guard, St.put, evalO, reduceCtorEq, reduceIte, Nat.reduceAdd, Nat.reduceEqDiff, new_s, virtBlk_eq, box_s, box_vs, box_vi, box_vb, px_load_l, px_load_o, loadB_s, storeX, storeB_s, alloc_s, lay, whole, Option.join_some, List.drop_zero, List.drop_succ_cons, List.take_succ_cons, List.take_zero, List.drop_nil, List.nil_append, List.cons_append, Nat.reduceLeDiff, Nat.zero_add, and_self, and_true, cells_int, cells_bool, cells_str, cells_string, cells_agg, cells_own, cells_ro, cells_ptr, cells_nil, AV.lf.lfs, AV.lf, px_build, fills, build_string, build_str, build_int, WDR_some, Nat.reduceLeDiff, Nat.le_refl, Bool.and_self, putAll]
  have hcheck := linesP_check (is := is) (xs := xs)
  have hmay := linesP_may (xs := xs)
  have hsums := linesP_sums (xs := xs)
  have hnl := linesP_len (xs := xs)
  have hsmall : ∀ y ∈ linesP xs, okL y = true ∧ y.qty ≤ 9 ∧ y.price ≤ 3999 := fun y hy => by
    obtain ⟨x, rfl⟩ := linesP_mem hy
    exact lineP_ok
  have h8 : min xs.length 8 ≤ 8 := by omega
  generalize min xs.length 8 = n at *
  generalize decide (n = 0) = dn
  generalize linesP xs = ys at *
  have hB0 : ∀ B, some (dBlk (itEnc.row (itemsP is)) true false) = some B → B.labs = [] := dBlk_l
  have hB1 : ∀ B, some (dBlk (lnE.row ys) true dn) = some B → B.labs = [] := dBlk_l
  have nn : ∀ B : Blk, (none : Option Blk) = some B → B.labs = [] := fun B h => by cases h
  have wi : ∀ T, TView itEnc ⟨[], some (dBlk (itEnc.row (itemsP is)) true false) :: T⟩ (.own (.l 0) 32 0 8 4 none) (itemsP is) := fun T => own_n (T := itEnc) (j := 0) (n := 8) rfl (by simp [itemsP])
  have wl : ∀ b0 T, TView lnE ⟨[], b0 :: some (dBlk (lnE.row ys) true dn) :: T⟩ (.own (.l 1) (n * 3) 0 n 3 none) ys := fun b0 T => own_n (T := lnE) (j := 1) (n := n) rfl hnl
  have hil8 : (itemsP is).length = 8 := by simp [itemsP]
  generalize itemsP is = js at *
  generalize some (dBlk (itEnc.row js) true false) = B0 at *
  generalize some (dBlk (lnE.row ys) true dn) = B1 at *
  have gd : ∀ c d e : Option Blk, (∀ B, c = some B → B.labs = []) → (∀ B, d = some B → B.labs = []) → (∀ B, e = some B → B.labs = []) → Good ⟨[], [B0, B1, c, d, e]⟩ := fun c d e h1 h2 h3 => (by unfold Good; dsimp only; repeat (first | exact trivial | rw [goodN] | refine ⟨dBlk_good, ?_⟩ | refine goodD (by assumption) ?_ | refine ⟨sBlk_good (by first | rfl | assumption | (simp [AV.labs.labss, AV.labs, refLt]; done)), ?_⟩))
  obtain ⟨r2, G2, ev2, an2⟩ := Units_spec H.units ((wl B0 [none, none, none]).into) (by omega)
  obtain ⟨u, B2, e2, hB2, vu, _⟩ := op_list (args := [.own (.l 1) (n * 3) 0 n 3 none]) ev2 an2 (site := 2) rfl (gd _ _ _ nn nn nn)
  refine WP_of (by exact e2) ?_
  have huc := units_count hmay
  have hun : nets (unitsL ys) = gs ys := by rw [unitsL_may hmay]; exact nets_units fun y hy => (hsmall y hy).1
  have hmem : ∀ w ∈ unitsL ys, w.opn = true ∧ ∃ (j : Nat) (x : LineD), ys[j]? = some x ∧ w.line = ((j : Nat) : Int) ∧ w.net = x.price := fun w hw => by
    rw [unitsL_may hmay] at hw
    obtain ⟨h1, j, x, h2, h3, h4⟩ := units_mem hw
    exact ⟨h1, j, x, h2, by rw [h3, Nat.zero_add], h4⟩
  have hnext : ∀ k v w, (unitsL ys)[k]? = some v → (unitsL ys)[k + 1]? = some w → v.line ≤ w.line := fun k v w h1 h2 => by
    rw [unitsL_may hmay] at h1 h2
    exact units_next h1 h2
  generalize unitsL ys = us at *
  have hnb : ∀ k, k ≤ us.length → 0 ≤ nets (us.take k) ∧ nets (us.take k) ≤ 3999 * (k : Int) := fun k => by
    induction k with
    | zero => intro _; exact ⟨Int.le_refl _, Int.le_refl _⟩
    | succ k ih =>
      intro hk
      have hu : us[k]? = some us[k] := List.getElem?_eq_getElem (by omega)
      obtain ⟨_, j, x, hx, _, hnt⟩ := hmem _ (List.getElem_mem (show k < us.length by omega))
      obtain ⟨ho, _, hpr⟩ := hsmall x (List.mem_of_getElem? hx)
      have := okL_iff.1 ho
      rw [nets_take hu, hnt]
      have := ih (by omega)
      omega
  simp (disch := first | (simp only [DS, reduceCtorEq]; done) | omega) only [WS, St.guard, St.put, evalO, reduceCtorEq, reduceIte, Nat.reduceAdd, Nat.reduceEqDiff, new_s, virtBlk_eq, box_s, box_vs, box_vi, box_vb, px_load_l, px_load_o, loadB_s, storeX, storeB_s, alloc_s, lay, whole, Option.join_some, List.drop_zero, List.drop_succ_cons, List.take_succ_cons, List.take_zero, List.drop_nil, List.nil_append, List.cons_append, Nat.reduceLeDiff, Nat.zero_add, and_self, and_true, cells_int, cells_bool, cells_str, cells_string, cells_agg, cells_own, cells_ro, cells_ptr, cells_nil, AV.lf.lfs, AV.lf, px_build, fills, build_string, build_str, build_int, WDR_some, Nat.reduceLeDiff, Nat.le_refl, Bool.and_self]
  refine WC_count (fun k => ⟨f_law14_BasketNear_H0 (.own (.l 0) 32 0 8 4 none) (.own (.l 1) (n * 3) 0 n 3 none) u (.v (.int .i64 (nets (us.take k)))) (.v (.int .i64 0)) (.v (.int .i64 (k : Nat))), ⟨[], [B0, B1, B2, none, none]⟩⟩) us.length ?_ (fun k hk => ?_) ?_
  · simp only [clear_nil, List.foldl_cons, List.foldl_nil, Option.some.injEq, LS, reduceCtorEq, reduceIte, Nat.reduceAdd]; rfl
  · have hlt' : (k : Int) < (us.length : Int) := by omega
    have hu : us[k]? = some us[k] := List.getElem?_eq_getElem hk
    obtain ⟨hop, j, x, hx, hln, hnt⟩ := hmem _ (List.getElem_mem hk)
    have hjl := lt_of_get hx
    generalize us[k] = w at *
    have b1 := hnb k (by omega)
    have b2 := hnb (k + 1) (by omega)
    rw [nets_take hu] at b2
    have vu0 := vu [B0, B1, B2, none, none] rfl
    have q := un_at vu0 hu
    have qx := ln_at (wl B0 [B2, none, none]) hx
    have c1 : ¬ ((j : Int) < 0) := by omega
    have c2 : ¬ ((j : Int) ≥ (n : Int)) := by omega
    have c3 : (x.price != x.price) = false := by simp
    have lo0 := hln ▸ q.l0
    have ln1 := hnt ▸ q.l1
    have lop := hop ▸ q.l2
    rw [hnt] at b2
    simp (disch := first | (simp only [DS, reduceCtorEq]; done) | omega) only [f_law14_BasketNear_L0, f_law14_BasketNear_H0, WS, St.guard, St.put, evalO, reduceCtorEq, reduceIte, Nat.reduceAdd, Nat.reduceEqDiff, new_s, virtBlk_eq, box_s, box_vs, box_vi, box_vb, px_load_l, px_load_o, loadB_s, storeX, storeB_s, alloc_s, lay, whole, Option.join_some, List.drop_zero, List.drop_succ_cons, List.take_succ_cons, List.take_zero, List.drop_nil, List.nil_append, List.cons_append, Nat.reduceLeDiff, Nat.zero_add, and_self, and_true, cells_int, cells_bool, cells_str, cells_string, cells_agg, cells_own, cells_ro, cells_ptr, cells_nil, AV.lf.lfs, AV.lf, px_build, fills, build_string, build_str, build_int, WDR_some, Nat.reduceLeDiff, Nat.le_refl, Bool.and_self, vu0.lenSlice, hlt', decide_true, q.ix, q.f0, q.f1, q.f2, lo0, ln1, lop, vBin_add_i64, lenOf_own, goInt, c1, c2, decide_false, qx.ix, qx.f2, qx.l2, c3]
    cases k with
    | zero =>
      simp (disch := first | (simp only [DS, reduceCtorEq]; done) | omega) only [WS, St.guard, St.put, evalO, reduceCtorEq, reduceIte, Nat.reduceAdd, Nat.reduceEqDiff, new_s, virtBlk_eq, box_s, box_vs, box_vi, box_vb, px_load_l, px_load_o, loadB_s, storeX, storeB_s, alloc_s, lay, whole, Option.join_some, List.drop_zero, List.drop_succ_cons, List.take_succ_cons, List.take_zero, List.drop_nil, List.nil_append, List.cons_append, Nat.reduceLeDiff, Nat.zero_add, and_self, and_true, cells_int, cells_bool, cells_str, cells_string, cells_agg, cells_own, cells_ro, cells_ptr, cells_nil, AV.lf.lfs, AV.lf, px_build, fills, build_string, build_str, build_int, WDR_some, Nat.reduceLeDiff, Nat.le_refl, Bool.and_self, show ¬ (((0 : Nat) : Int) > 0) from by omega, decide_false, vBin_add_i64, nets_take hu, hnt, clear_nil, List.foldl_cons, List.foldl_nil, Option.some.injEq]
      rfl
    | succ m =>
      have hu' : us[m]? = some us[m] := List.getElem?_eq_getElem (by omega)
      have hle := hnext m _ _ hu' hu
      have q' := un_at vu0 hu'
      generalize us[m] = w' at *
      have es : ((m + 1 : Nat) : Int) - 1 = (m : Int) := by omega
      have c4 : ¬ ((j : Int) < w'.line) := by omega
      simp (disch := first | (simp only [DS, reduceCtorEq]; done) | omega) only [WS, St.guard, St.put, evalO, reduceCtorEq, reduceIte, Nat.reduceAdd, Nat.reduceEqDiff, new_s, virtBlk_eq, box_s, box_vs, box_vi, box_vb, px_load_l, px_load_o, loadB_s, storeX, storeB_s, alloc_s, lay, whole, Option.join_some, List.drop_zero, List.drop_succ_cons, List.take_succ_cons, List.take_zero, List.drop_nil, List.nil_append, List.cons_append, Nat.reduceLeDiff, Nat.zero_add, and_self, and_true, cells_int, cells_bool, cells_str, cells_string, cells_agg, cells_own, cells_ro, cells_ptr, cells_nil, AV.lf.lfs, AV.lf, px_build, fills, build_string, build_str, build_int, WDR_some, Nat.reduceLeDiff, Nat.le_refl, Bool.and_self, show ((m + 1 : Nat) : Int) > 0 from by omega, decide_true, vBin_add_i64, vBin_sub_i64, es, q.ix, q.f0, lo0, q'.ix, q'.f0, q'.l0, c4, decide_false, nets_take hu, hnt, clear_nil, List.foldl_cons, List.foldl_nil, Option.some.injEq]
      rfl
  · have vu0 := vu [B0, B1, B2, none, none] rfl
    simp (disch := first | (simp only [DS, reduceCtorEq]; done) | omega) only [f_law14_BasketNear_L0, f_law14_BasketNear_H0, WS, St.guard, St.put, evalO, reduceCtorEq, reduceIte, Nat.reduceAdd, Nat.reduceEqDiff, new_s, virtBlk_eq, box_s, box_vs, box_vi, box_vb, px_load_l, px_load_o, loadB_s, storeX, storeB_s, alloc_s, lay, whole, Option.join_some, List.drop_zero, List.drop_succ_cons, List.take_succ_cons, List.take_zero, List.drop_nil, List.nil_append, List.cons_append, Nat.reduceLeDiff, Nat.zero_add, and_self, and_true, cells_int, cells_bool, cells_str, cells_string, cells_agg, cells_own, cells_ro, cells_ptr, cells_nil, AV.lf.lfs, AV.lf, px_build, fills, build_string, build_str, build_int, WDR_some, Nat.reduceLeDiff, Nat.le_refl, Bool.and_self, vu0.lenSlice, decide_false, List.take_length, ne_eq, not_false_eq_true, true_and, not_true_eq_false]
    refine WC_count (fun k => ⟨f_law14_BasketNear_H1 (.own (.l 0) 32 0 8 4 none) (.own (.l 1) (n * 3) 0 n 3 none) u (.v (.int .i64 (nets us))) (.v (.int .i64 (qs (ys.take k)))) (.v (.int .i64 (k : Nat))), ⟨[], [B0, B1, B2, none, none]⟩⟩) ys.length ?_ (fun k hk => ?_) ?_
    · simp only [clear_nil, List.foldl_cons, List.foldl_nil, Option.some.injEq, LS, reduceCtorEq, reduceIte, Nat.reduceAdd]; rfl
    · have hlt' : (k : Int) < (n : Int) := by omega
      have hx : ys[k]? = some ys[k] := List.getElem?_eq_getElem hk
      have hy := hsmall _ (List.getElem_mem hk)
      have hb := small_sums (ys := ys.take k) fun y hy => hsmall y (List.mem_of_mem_take hy)
      rw [List.length_take] at hb
      generalize ys[k] = x at *
      have qx := ln_at (wl B0 [B2, none, none]) hx
      have := okL_iff.1 hy.1
      simp (disch := first | (simp only [DS, reduceCtorEq]; done) | omega) only [f_law14_BasketNear_L1, f_law14_BasketNear_H1, WS, St.guard, St.put, evalO, reduceCtorEq, reduceIte, Nat.reduceAdd, Nat.reduceEqDiff, new_s, virtBlk_eq, box_s, box_vs, box_vi, box_vb, px_load_l, px_load_o, loadB_s, storeX, storeB_s, alloc_s, lay, whole, Option.join_some, List.drop_zero, List.drop_succ_cons, List.take_succ_cons, List.take_zero, List.drop_nil, List.nil_append, List.cons_append, Nat.reduceLeDiff, Nat.zero_add, and_self, and_true, cells_int, cells_bool, cells_str, cells_string, cells_agg, cells_own, cells_ro, cells_ptr, cells_nil, AV.lf.lfs, AV.lf, px_build, fills, build_string, build_str, build_int, WDR_some, Nat.reduceLeDiff, Nat.le_refl, Bool.and_self, lenOf_own, goInt, hlt', decide_true, qx.ix, qx.f1, qx.l1, vBin_add_i64, qs_take hx, clear_nil, List.foldl_cons, List.foldl_nil, Option.some.injEq]
      rfl
    · have hlt' : ¬ ((ys.length : Int) < (n : Int)) := by omega
      simp (disch := first | (simp only [DS, reduceCtorEq]; done) | omega) only [f_law14_BasketNear_L1, f_law14_BasketNear_H1, WS, St.guard, St.put, evalO, reduceCtorEq, reduceIte, Nat.reduceAdd, Nat.reduceEqDiff, new_s, virtBlk_eq, box_s, box_vs, box_vi, box_vb, px_load_l, px_load_o, loadB_s, storeX, storeB_s, alloc_s, lay, whole, Option.join_some, List.drop_zero, List.drop_succ_cons, List.take_succ_cons, List.take_zero, List.drop_nil, List.nil_append, List.cons_append, Nat.reduceLeDiff, Nat.zero_add, and_self, and_true, cells_int, cells_bool, cells_str, cells_string, cells_agg, cells_own, cells_ro, cells_ptr, cells_nil, AV.lf.lfs, AV.lf, px_build, fills, build_string, build_str, build_int, WDR_some, Nat.reduceLeDiff, Nat.le_refl, Bool.and_self, lenOf_own, goInt, hlt', decide_false, List.take_length]
      have g2 := gd B2 none none hB2 nn nn
      refine (WP_p (x := .bool true) (by exact aw _ rfl) g2).2 ?_
      simp (disch := first | (simp only [DS, reduceCtorEq]; done) | omega) only [WS, St.guard, St.put, evalO, reduceCtorEq, reduceIte, Nat.reduceAdd, Nat.reduceEqDiff, new_s, virtBlk_eq, box_s, box_vs, box_vi, box_vb, px_load_l, px_load_o, loadB_s, storeX, storeB_s, alloc_s, lay, whole, Option.join_some, List.drop_zero, List.drop_succ_cons, List.take_succ_cons, List.take_zero, List.drop_nil, List.nil_append, List.cons_append, Nat.reduceLeDiff, Nat.zero_add, and_self, and_true, cells_int, cells_bool, cells_str, cells_string, cells_agg, cells_own, cells_ro, cells_ptr, cells_nil, AV.lf.lfs, AV.lf, px_build, fills, build_string, build_str, build_int, WDR_some, Nat.reduceLeDiff, Nat.le_refl, Bool.and_self]
      refine (WP_p (x := .int .i64 (checkI js ys)) (by exact Check_spec H.toFindLib H.toBasketLib H.checkF H.check1 ((wi _).into) ((wl _ _).into) (by omega) (by unfold maxLen; omega)) g2).2 ?_
      simp (disch := first | (simp only [DS, reduceCtorEq]; done) | omega) only [WS, St.guard, St.put, evalO, reduceCtorEq, reduceIte, Nat.reduceAdd, Nat.reduceEqDiff, new_s, virtBlk_eq, box_s, box_vs, box_vi, box_vb, px_load_l, px_load_o, loadB_s, storeX, storeB_s, alloc_s, lay, whole, Option.join_some, List.drop_zero, List.drop_succ_cons, List.take_succ_cons, List.take_zero, List.drop_nil, List.nil_append, List.cons_append, Nat.reduceLeDiff, Nat.zero_add, and_self, and_true, cells_int, cells_bool, cells_str, cells_string, cells_agg, cells_own, cells_ro, cells_ptr, cells_nil, AV.lf.lfs, AV.lf, px_build, fills, build_string, build_str, build_int, WDR_some, Nat.reduceLeDiff, Nat.le_refl, Bool.and_self, hcheck, hi]
      have hg : grossV ys = gs ys := by unfold grossV; rw [hmay]; rfl
      refine (WP_p (x := .int .i64 (grossV ys)) (by exact Gross_spec H.toBasketLib H.gross ((wl _ _).into) (by unfold maxLen; omega)) g2).2 ?_
      simp (disch := first | (simp only [DS, reduceCtorEq]; done) | omega) only [WS, St.guard, St.put, evalO, reduceCtorEq, reduceIte, Nat.reduceAdd, Nat.reduceEqDiff, new_s, virtBlk_eq, box_s, box_vs, box_vi, box_vb, px_load_l, px_load_o, loadB_s, storeX, storeB_s, alloc_s, lay, whole, Option.join_some, List.drop_zero, List.drop_succ_cons, List.take_succ_cons, List.take_zero, List.drop_nil, List.nil_append, List.cons_append, Nat.reduceLeDiff, Nat.zero_add, and_self, and_true, cells_int, cells_bool, cells_str, cells_string, cells_agg, cells_own, cells_ro, cells_ptr, cells_nil, AV.lf.lfs, AV.lf, px_build, fills, build_string, build_str, build_int, WDR_some, Nat.reduceLeDiff, Nat.le_refl, Bool.and_self, hg, hun, hi, vu0.lenSlice, huc]
      obtain ⟨r4, G4, ev4, an4⟩ := Items2_spec H.toFindLib H.itemsF ((wi [B1, B2, none, none]).into) ((wl B0 [B2, none, none]).into) (by omega) (by omega)
      obtain ⟨u4, B4, e4, hB4, vu4, _⟩ := op_list (args := [.own (.l 0) 32 0 8 4 none, .own (.l 1) (n * 3) 0 n 3 none]) ev4 an4 (site := 3) rfl g2
      refine WP_of (by exact e4) ?_
      simp (disch := first | (simp only [DS, reduceCtorEq]; done) | omega) only [WS, St.guard, St.put, evalO, reduceCtorEq, reduceIte, Nat.reduceAdd, Nat.reduceEqDiff, new_s, virtBlk_eq, box_s, box_vs, box_vi, box_vb, px_load_l, px_load_o, loadB_s, storeX, storeB_s, alloc_s, lay, whole, Option.join_some, List.drop_zero, List.drop_succ_cons, List.take_succ_cons, List.take_zero, List.drop_nil, List.nil_append, List.cons_append, Nat.reduceLeDiff, Nat.zero_add, and_self, and_true, cells_int, cells_bool, cells_str, cells_string, cells_agg, cells_own, cells_ro, cells_ptr, cells_nil, AV.lf.lfs, AV.lf, px_build, fills, build_string, build_str, build_int, WDR_some, Nat.reduceLeDiff, Nat.le_refl, Bool.and_self]
      obtain ⟨r5, G5, ev5, an5⟩ := rItems2_spec H.toFindLib H.ritems ((wi [B1, B2, B4, none]).into) ((wl B0 [B2, B4, none]).into) (by unfold maxLen; omega) (by omega)
      obtain ⟨u5, B5, e5, hB5, vu5, _⟩ := op_list (args := [.own (.l 0) 32 0 8 4 none, .own (.l 1) (n * 3) 0 n 3 none]) ev5 an5 (site := 4) rfl (gd B2 B4 none hB2 hB4 nn)
      refine WP_of (by exact e5) ?_
      simp (disch := first | (simp only [DS, reduceCtorEq]; done) | omega) only [WS, St.guard, St.put, evalO, reduceCtorEq, reduceIte, Nat.reduceAdd, Nat.reduceEqDiff, new_s, virtBlk_eq, box_s, box_vs, box_vi, box_vb, px_load_l, px_load_o, loadB_s, storeX, storeB_s, alloc_s, lay, whole, Option.join_some, List.drop_zero, List.drop_succ_cons, List.take_succ_cons, List.take_zero, List.drop_nil, List.nil_append, List.cons_append, Nat.reduceLeDiff, Nat.zero_add, and_self, and_true, cells_int, cells_bool, cells_str, cells_string, cells_agg, cells_own, cells_ro, cells_ptr, cells_nil, AV.lf.lfs, AV.lf, px_build, fills, build_string, build_str, build_int, WDR_some, Nat.reduceLeDiff, Nat.le_refl, Bool.and_self]
      have hitl := itemsL_len' (is := js) (xs := ys)
      have pI := Go.AM.plainI H.plainI H.sameI H.plainI1 (G := (⟨[], [B0, B1, B2, B4, B5]⟩ : Hp).into) ((vu4 _ rfl).into) ((vu5 _ rfl).into) (by omega) (by omega)
      rw [decide_eq_true rfl] at pI
      refine (WP_p (x := .bool true) (by exact pI) (gd B2 B4 B5 hB2 hB4 hB5)).2 ?_
      simp (disch := first | (simp only [DS, reduceCtorEq]; done) | omega) only [WS, St.guard, St.put, evalO, reduceCtorEq, reduceIte, Nat.reduceAdd, Nat.reduceEqDiff, new_s, virtBlk_eq, box_s, box_vs, box_vi, box_vb, px_load_l, px_load_o, loadB_s, storeX, storeB_s, alloc_s, lay, whole, Option.join_some, List.drop_zero, List.drop_succ_cons, List.take_succ_cons, List.take_zero, List.drop_nil, List.nil_append, List.cons_append, Nat.reduceLeDiff, Nat.zero_add, and_self, and_true, cells_int, cells_bool, cells_str, cells_string, cells_agg, cells_own, cells_ro, cells_ptr, cells_nil, AV.lf.lfs, AV.lf, px_build, fills, build_string, build_str, build_int, WDR_some, Nat.reduceLeDiff, Nat.le_refl, Bool.and_self, fin_tmp, leave_v]
      simp
end Go.AM
