import Derived.Test.YtikbagggffehkaaBasketD
import Derived.Test.YtikbagggffehkaaLawGoodsB
set_option linter.unusedVariables false
set_option linter.unusedSimpArgs false
namespace Go.AM
variable {prog : String → Option IFn}
theorem build_L2 {G L} {j : Nat} {x y : LineD} (hL : L[j]? = some none) :
    prim ⟨G, L⟩ (.buildSlice j false 3 2 lnZ [(0, 3), (3, 3)]) [.agg x.cells, .agg y.cells] = some (.own (.l j) 6 0 2 3 (some 2), ⟨G, L.set j (some (dBlk (lnE.row [x, y]) false false))⟩) := by
  rw [px_buildSlice]
  have hf : fills [(0, 3), (3, 3)] ((List.replicate 2 (lnZ.map AV.v)).flatten) [.agg x.cells, .agg y.cells] = some (lnE.row [x, y]) := rfl
  simp only [Hp.mayFreeze, Bool.false_eq_true, if_false, Option.bind_some, hf]
  refine (if_pos rfl).trans ?_
  rw [newBlk_data (lnE.row_lf [x, y])]
  simp only [Hp.new, hL, Option.map_some]
structure Law14C (prog : String → Option IFn) : Prop extends Law14 prog where
  play : PlayBase prog
  mod64 : prog "haberdash/haberdashplay.Mod64" = some f_play_Mod64
  items : prog "haberdash/haberdashplay.Items" = some f_play_Items
  lines : prog "haberdash/haberdashplay.Lines" = some f_play_Lines
set_option maxRecDepth 10000 in
theorem BasketTurned_law (H : Law14C prog) (hp : prog "haberdash/haberdashlaw14.BasketTurned" = some f_law14_BasketTurned) {as} (h : IsAll [.slice itemTy, .slice lineTy, .int .i64, .int .i64, .int .i64, .int .i64, .str] as) :
    ∃ G2, Ev prog (.call "haberdash/haberdashlaw14.BasketTurned" as []) (.ret (.v (.bool true)) G2) := by
  rcases as with _ | ⟨a0, _ | ⟨a1, _ | ⟨a2, _ | ⟨a3, _ | ⟨a4, _ | ⟨a5, _ | ⟨a6, _ | _⟩⟩⟩⟩⟩⟩⟩ <;> try (simp [IsAll] at h; done)
  obtain ⟨⟨c0', h0, rfl⟩, ⟨c1', h1, rfl⟩, ⟨c2', h2, rfl⟩, ⟨c3', h3, rfl⟩, ⟨c4', h4, rfl⟩, ⟨c5', h5, rfl⟩, ⟨c6', h6, rfl⟩, _⟩ := h
  obtain ⟨a, is, rfl, va, hil, _⟩ := is_itemsS h0
  obtain ⟨b, xs, rfl, vb, hxl⟩ := is_lines h1
  obtain ⟨c2, rfl, hc2⟩ := is_i64 h2
  obtain ⟨c3, rfl, hc3⟩ := is_i64 h3
  obtain ⟨c4, rfl, hc4⟩ := is_i64 h4
  obtain ⟨c5, rfl, hc5⟩ := is_i64 h5
  obtain ⟨s, rfl, hs⟩ := is_str h6
  refine ⟨[], call_of_fin hp ?_⟩
  have gn : Good ⟨[], [none, none, none, none]⟩ := trivial
  have aw : ∀ G, G.length = 4 → Ev prog (.call "haberdash/haberdashlaw14.awake" [] G) (.ret (.v (.bool true)) G) := fun G h => awake14 H.toLaw14 (.inl h)
  have hi : ∀ n : Int, (n == n) = true := fun n => by simp
  simp only [f_law14_BasketTurned_B, enter, List.length_cons, List.length_nil, List.replicate, Nat.reduceAdd, Nat.reduceSub, List.cons_append, List.nil_append, Ty.arg, intAV]
  simp (disch := first | (simp only [DS, reduceCtorEq]; done) | omega) only [WS, St.guard, St.put, evalO, reduceCtorEq, reduceIte, Nat.reduceAdd, Nat.reduceEqDiff, new_s, virtBlk_eq, box_s, box_vs, box_vi, box_vb, px_load_l, px_load_o, loadB_s, storeX, storeB_s, alloc_s, lay, whole, Option.join_some, List.drop_zero, List.drop_succ_cons, List.take_succ_cons, List.take_zero, List.drop_nil, List.nil_append, List.cons_append, Nat.reduceLeDiff, Nat.zero_add, and_self, and_true, cells_int, cells_bool, cells_str, cells_string, cells_agg, cells_own, cells_ro, cells_ptr, cells_nil, AV.lf.lfs, AV.lf, px_build, fills, build_string, build_str, build_int, WDR_some, Nat.reduceLeDiff, Nat.le_refl, Bool.and_self, (va _).lenSlice, (vb _).lenSlice]
  by_cases h40 : (is.length : Int) > 40
  · simp (disch := first | (simp only [DS, reduceCtorEq]; done) | omega) only [WS, St.guard, St.put, evalO, reduceCtorEq, reduceIte, Nat.reduceAdd, Nat.reduceEqDiff, new_s, virtBlk_eq, box_s, box_vs, box_vi, box_vb, px_load_l, px_load_o, loadB_s, storeX, storeB_s, alloc_s, lay, whole, Option.join_some, List.drop_zero, List.drop_succ_cons, List.take_succ_cons, List.take_zero, List.drop_nil, List.nil_append, List.cons_append, Nat.reduceLeDiff, Nat.zero_add, and_self, and_true, cells_int, cells_bool, cells_str, cells_string, cells_agg, cells_own, cells_ro, cells_ptr, cells_nil, AV.lf.lfs, AV.lf, px_build, fills, build_string, build_str, build_int, WDR_some, Nat.reduceLeDiff, Nat.le_refl, Bool.and_self, h40, decide_true]
    refine (WP_p (x := .bool true) (by exact aw _ rfl) gn).2 ?_
    simp (disch := first | (simp only [DS, reduceCtorEq]; done) | omega) only [WS, St.guard, St.put, evalO, reduceCtorEq, reduceIte, Nat.reduceAdd, Nat.reduceEqDiff, fin_tmp, leave_v]
    simp
  simp (disch := first | (simp only [DS, reduceCtorEq]; done) | omega) only [WS, St.guard, St.put, evalO, reduceCtorEq, reduceIte, Nat.reduceAdd, Nat.reduceEqDiff, new_s, virtBlk_eq, box_s, box_vs, box_vi, box_vb, px_load_l, px_load_o, loadB_s, storeX, storeB_s, alloc_s, lay, whole, Option.join_some, List.drop_zero, List.drop_succ_cons, List.take_succ_cons, List.take_zero, List.drop_nil, List.nil_append, List.cons_append, Nat.reduceLeDiff, Nat.zero_add, and_self, and_true, cells_int, cells_bool, cells_str, cells_string, cells_agg, cells_own, cells_ro, cells_ptr, cells_nil, AV.lf.lfs, AV.lf, px_build, fills, build_string, build_str, build_int, WDR_some, Nat.reduceLeDiff, Nat.le_refl, Bool.and_self, h40, decide_false, (vb _).lenSlice]
  by_cases h41 : (xs.length : Int) > 40
  · simp (disch := first | (simp only [DS, reduceCtorEq]; done) | omega) only [WS, St.guard, St.put, evalO, reduceCtorEq, reduceIte, Nat.reduceAdd, Nat.reduceEqDiff, new_s, virtBlk_eq, box_s, box_vs, box_vi, box_vb, px_load_l, px_load_o, loadB_s, storeX, storeB_s, alloc_s, lay, whole, Option.join_some, List.drop_zero, List.drop_succ_cons, List.take_succ_cons, List.take_zero, List.drop_nil, List.nil_append, List.cons_append, Nat.reduceLeDiff, Nat.zero_add, and_self, and_true, cells_int, cells_bool, cells_str, cells_string, cells_agg, cells_own, cells_ro, cells_ptr, cells_nil, AV.lf.lfs, AV.lf, px_build, fills, build_string, build_str, build_int, WDR_some, Nat.reduceLeDiff, Nat.le_refl, Bool.and_self, h41, decide_true]
    refine (WP_p (x := .bool true) (by exact aw _ rfl) gn).2 ?_
    simp (disch := first | (simp only [DS, reduceCtorEq]; done) | omega) only [WS, St.guard, St.put, evalO, reduceCtorEq, reduceIte, Nat.reduceAdd, Nat.reduceEqDiff, fin_tmp, leave_v]
    simp
  simp (disch := first | (simp only [DS, reduceCtorEq]; done) | omega) only [WS, St.guard, St.put, evalO, reduceCtorEq, reduceIte, Nat.reduceAdd, Nat.reduceEqDiff, new_s, virtBlk_eq, box_s, box_vs, box_vi, box_vb, px_load_l, px_load_o, loadB_s, storeX, storeB_s, alloc_s, lay, whole, Option.join_some, List.drop_zero, List.drop_succ_cons, List.take_succ_cons, List.take_zero, List.drop_nil, List.nil_append, List.cons_append, Nat.reduceLeDiff, Nat.zero_add, and_self, and_true, cells_int, cells_bool, cells_str, cells_string, cells_agg, cells_own, cells_ro, cells_ptr, cells_nil, AV.lf.lfs, AV.lf, px_build, fills, build_string, build_str, build_int, WDR_some, Nat.reduceLeDiff, Nat.le_refl, Bool.and_self, h41, decide_false, lenStr_str]
  by_cases h42 : (s.length : Int) > 60
  · simp (disch := first | (simp only [DS, reduceCtorEq]; done) | omega) only [WS, St.guard, St.put, evalO, reduceCtorEq, reduceIte, Nat.reduceAdd, Nat.reduceEqDiff, new_s, virtBlk_eq, box_s, box_vs, box_vi, box_vb, px_load_l, px_load_o, loadB_s, storeX, storeB_s, alloc_s, lay, whole, Option.join_some, List.drop_zero, List.drop_succ_cons, List.take_succ_cons, List.take_zero, List.drop_nil, List.nil_append, List.cons_append, Nat.reduceLeDiff, Nat.zero_add, and_self, and_true, cells_int, cells_bool, cells_str, cells_string, cells_agg, cells_own, cells_ro, cells_ptr, cells_nil, AV.lf.lfs, AV.lf, px_build, fills, build_string, build_str, build_int, WDR_some, Nat.reduceLeDiff, Nat.le_refl, Bool.and_self, h42, decide_true]
    refine (WP_p (x := .bool true) (by exact aw _ rfl) gn).2 ?_
    simp (disch := first | (simp only [DS, reduceCtorEq]; done) | omega) only [WS, St.guard, St.put, evalO, reduceCtorEq, reduceIte, Nat.reduceAdd, Nat.reduceEqDiff, fin_tmp, leave_v]
    simp
  simp (disch := first | (simp only [DS, reduceCtorEq]; done) | omega) only [WS, St.guard, St.put, evalO, reduceCtorEq, reduceIte, Nat.reduceAdd, Nat.reduceEqDiff, new_s, virtBlk_eq, box_s, box_vs, box_vi, box_vb, px_load_l, px_load_o, loadB_s, storeX, storeB_s, alloc_s, lay, whole, Option.join_some, List.drop_zero, List.drop_succ_cons, List.take_succ_cons, List.take_zero, List.drop_nil, List.nil_append, List.cons_append, Nat.reduceLeDiff, Nat.zero_add, and_self, and_true, cells_int, cells_bool, cells_str, cells_string, cells_agg, cells_own, cells_ro, cells_ptr, cells_nil, AV.lf.lfs, AV.lf, px_build, fills, build_string, build_str, build_int, WDR_some, Nat.reduceLeDiff, Nat.le_refl, Bool.and_self, h42, decide_false]
  refine WP_news (by exact Items_spec H.play H.items H.mod64 ((va _).into)) (data1 dBlk_l) rfl (by decide) rfl gn (by exact ren_own1) ?_
  simp (disch := first | (simp only [DS, reduceCtorEq]; done) | omega) only [WS, St.guard, St.put, evalO, reduceCtorEq, reduceIte, Nat.reduceAdd, Nat.reduceEqDiff, new_s, virtBlk_eq, box_s, box_vs, box_vi, box_vb, px_load_l, px_load_o, loadB_s, storeX, storeB_s, alloc_s, lay, whole, Option.join_some, List.drop_zero, List.drop_succ_cons, List.take_succ_cons, List.take_zero, List.drop_nil, List.nil_append, List.cons_append, Nat.reduceLeDiff, Nat.zero_add, and_self, and_true, cells_int, cells_bool, cells_str, cells_string, cells_agg, cells_own, cells_ro, cells_ptr, cells_nil, AV.lf.lfs, AV.lf, px_build, fills, build_string, build_str, build_int, WDR_some, Nat.reduceLeDiff, Nat.le_refl, Bool.and_self, putAll]
  refine WP_news (by exact Lines_spec H.play H.lines H.mod64 ((vb _).into) hxl) (data1 dBlk_l) rfl (by decide) rfl (by unfold Good; dsimp only; repeat (first | exact trivial | rw [goodN] | refine ⟨dBlk_good, ?_⟩ | refine goodD (by assumption) ?_ | refine ⟨sBlk_good (by first | rfl | assumption | (simp [AV.labs.labss, AV.labs, refLt]; done)), ?_⟩)) (by exact ren_own1) ?_
  have hnl := linesP_len (xs := xs)
  have h8 : min xs.length 8 ≤ 8 := by omega
  generalize min xs.length 8 = n at *
  generalize decide (n = 0) = dn
  generalize linesP xs = ys at *
  have hil8 : (itemsP is).length = 8 := by simp [itemsP]
  have wi : ∀ T, TView itEnc ⟨[], some (dBlk (itEnc.row (itemsP is)) true false) :: T⟩ (.own (.l 0) 32 0 8 4 none) (itemsP is) := fun T => own_n (T := itEnc) (j := 0) (n := 8) rfl hil8
  have hB0 : ∀ B, some (dBlk (itEnc.row (itemsP is)) true false) = some B → B.labs = [] := dBlk_l
  generalize itemsP is = js at *
  generalize some (dBlk (itEnc.row js) true false) = B0 at *
  have hb2 : ∀ L, L[2]? = some none → prim ⟨[], L⟩ (.buildSlice 2 false 3 2 [.string ⟨#[]⟩, .int .i64 0, .int .i64 0] [(0, 3), (3, 3)]) [.agg [.v (.string ⟨#[97]⟩), .v (.int .i64 1), .v (.int .i64 5)], .agg [.v (.string ⟨#[98]⟩), .v (.int .i64 1), .v (.int .i64 5)]] =
      some (.own (.l 2) 6 0 2 3 (some 2), ⟨[], L.set 2 (some (dBlk (lnE.row [⟨[97], 1, 5⟩, ⟨[98], 1, 5⟩]) false false))⟩) := fun L hL => build_L2 (x := ⟨[97], 1, 5⟩) (y := ⟨[98], 1, 5⟩) hL
  simp (disch := first | (simp only [DS, reduceCtorEq]; done) | omega) only [WS, St.guard, St.put, evalO, reduceCtorEq, reduceIte, Nat.reduceAdd, Nat.reduceEqDiff, new_s, virtBlk_eq, box_s, box_vs, box_vi, box_vb, px_load_l, px_load_o, loadB_s, storeX, storeB_s, alloc_s, lay, whole, Option.join_some, List.drop_zero, List.drop_succ_cons, List.take_succ_cons, List.take_zero, List.drop_nil, List.nil_append, List.cons_append, Nat.reduceLeDiff, Nat.zero_add, and_self, and_true, cells_int, cells_bool, cells_str, cells_string, cells_agg, cells_own, cells_ro, cells_ptr, cells_nil, AV.lf.lfs, AV.lf, px_build, fills, build_string, build_str, build_int, WDR_some, Nat.reduceLeDiff, Nat.le_refl, Bool.and_self, putAll, hb2]
  have hap : prim ⟨[], [B0, some (dBlk (lnE.row ys) true dn), some (dBlk (lnE.row [⟨[97], 1, 5⟩, ⟨[98], 1, 5⟩]) false false), none]⟩ (.append 3 false 3 32) [.own (.l 1) (n * 3) 0 n 3 none, .own (.l 2) 6 0 2 3 (some 2)] =
      some (.own (.l 1) ((n + 2) * 3) 0 (n + 2) 3 none, ⟨[], [B0, some (dBlk (lnE.row (ys ++ [⟨[97], 1, 5⟩, ⟨[98], 1, 5⟩])) true false), some (dBlk (lnE.row [⟨[97], 1, 5⟩, ⟨[98], 1, 5⟩]) false false), none]⟩) := by
    have hv : View ⟨[], [B0, some (dBlk (lnE.row ys) true dn), some (dBlk (lnE.row [⟨[97], 1, 5⟩, ⟨[98], 1, 5⟩]) false false), none]⟩ (.own (.l 2) 6 0 2 3 (some 2)) 3 2 (lnE.row [⟨[97], 1, 5⟩, ⟨[98], 1, 5⟩]) := own_viewC (j := 2) rfl rfl rfl (by omega) (by simp)
    have := append_own (site := 3) (bytes := 32) (j := 1) (G := []) (L := [B0, some (dBlk (lnE.row ys) true dn), some (dBlk (lnE.row [⟨[97], 1, 5⟩, ⟨[98], 1, 5⟩]) false false), none]) rfl (by rw [lnE.row_len, hnl]; rfl) hv (lnE.row_lf _) (by omega) (by unfold room; omega)
    rw [lnE.row_append]
    exact this
  refine (WR_eq hap).2 ?_
  have hzl : (ys ++ [(⟨[97], 1, 5⟩ : LineD), ⟨[98], 1, 5⟩]).length = n + 2 := by simp [hnl]
  have hB2 : ∀ B, some (dBlk (lnE.row [⟨[97], 1, 5⟩, ⟨[98], 1, 5⟩]) false false) = some B → B.labs = [] := dBlk_l
  generalize ys ++ [(⟨[97], 1, 5⟩ : LineD), ⟨[98], 1, 5⟩] = zs at *
  generalize some (dBlk (lnE.row [⟨[97], 1, 5⟩, ⟨[98], 1, 5⟩]) false false) = B2 at *
  obtain ⟨m, hm⟩ : ∃ m, m = n + 2 := ⟨_, rfl⟩
  rw [← hm] at hzl ⊢
  have hm0 : 0 < m := by omega
  have hm10 : m ≤ 10 := by omega
  have gd : ∀ zs, Good ⟨[], [B0, some (dBlk (lnE.row zs) true false), B2, none]⟩ := fun zs => (by unfold Good; dsimp only; repeat (first | exact trivial | rw [goodN] | refine ⟨dBlk_good, ?_⟩ | refine goodD (by assumption) ?_ | refine ⟨sBlk_good (by first | rfl | assumption | (simp [AV.labs.labss, AV.labs, refLt]; done)), ?_⟩))
  simp (disch := first | (simp only [DS, reduceCtorEq]; done) | omega) only [WS, St.guard, St.put, evalO, reduceCtorEq, reduceIte, Nat.reduceAdd, Nat.reduceEqDiff, new_s, virtBlk_eq, box_s, box_vs, box_vi, box_vb, px_load_l, px_load_o, loadB_s, storeX, storeB_s, alloc_s, lay, whole, Option.join_some, List.drop_zero, List.drop_succ_cons, List.take_succ_cons, List.take_zero, List.drop_nil, List.nil_append, List.cons_append, Nat.reduceLeDiff, Nat.zero_add, and_self, and_true, cells_int, cells_bool, cells_str, cells_string, cells_agg, cells_own, cells_ro, cells_ptr, cells_nil, AV.lf.lfs, AV.lf, px_build, fills, build_string, build_str, build_int, WDR_some, Nat.reduceLeDiff, Nat.le_refl, Bool.and_self, lenOf_own, goInt]
  refine (WP_p (x := .int .i64 (umod c2 m : Nat)) (by exact Mod_spec H.play.mod m rfl hm0 (by omega)) (gd _)).2 ?_
  have hk := umod_lt (c := c2) hm0
  generalize umod c2 m = k at *
  simp (disch := first | (simp only [DS, reduceCtorEq]; done) | omega) only [WS, St.guard, St.put, evalO, reduceCtorEq, reduceIte, Nat.reduceAdd, Nat.reduceEqDiff, new_s, virtBlk_eq, box_s, box_vs, box_vi, box_vb, px_load_l, px_load_o, loadB_s, storeX, storeB_s, alloc_s, lay, whole, Option.join_some, List.drop_zero, List.drop_succ_cons, List.take_succ_cons, List.take_zero, List.drop_nil, List.nil_append, List.cons_append, Nat.reduceLeDiff, Nat.zero_add, and_self, and_true, cells_int, cells_bool, cells_str, cells_string, cells_agg, cells_own, cells_ro, cells_ptr, cells_nil, AV.lf.lfs, AV.lf, px_build, fills, build_string, build_str, build_int, WDR_some, Nat.reduceLeDiff, Nat.le_refl, Bool.and_self]
  refine (WP_p (x := .int .i64 (umod c3 5 : Nat)) (by exact Mod_spec H.play.mod 5 rfl (by omega) (by omega)) (gd _)).2 ?_
  have hh := umod_lt (c := c3) (n := 5) (by omega)
  generalize umod c3 5 = w at *
  have ix : ∀ (j : Nat), j < m → ∀ h, prim h (.indexAddr 3) [.own (.l 1) (m * 3) 0 m 3 none, .v (.int .i64 (j : Int))] = some (.ptr (.l 1) (m * 3) (0 + j * 3), h) := fun j hj h => by
    rw [px_indexAddr_own, natOf_nat]; simp [hj]
  have stf : ∀ (zs : List LineD) (j f : Nat) (x : AV) (z z' : LineD), zs.length = m → zs[j]? = some z → f < 3 → x.cellsOf = some [x] → x.lf = true → z'.cells = z.cells.set f x →
      prim ⟨[], [B0, some (dBlk (lnE.row zs) true false), B2, none]⟩ (.store 1 false) [.ptr (.l 1) (m * 3) (0 + j * 3 + f), x] =
        some (.v undef, ⟨[], [B0, some (dBlk (lnE.row (zs.set j z')) true false), B2, none]⟩) := fun zs j f x z z' hz hzj hf hx hlf he => by
    have hj := lt_of_get hzj
    rw [store_data (j := 1) rfl (by rw [lnE.row_len, hz]; rfl) (by rw [hz] at hj; omega) hx hlf, Nat.zero_add]
    rw [show j * 3 + f = j * lnE.esz + f from rfl, row_setf (T := lnE) hf he hzj]; rfl
  have wl : ∀ (zs : List LineD), zs.length = m → ∀ T, TView lnE ⟨[], B0 :: some (dBlk (lnE.row zs) true false) :: T⟩ (.own (.l 1) (m * 3) 0 m 3 none) zs := fun zs hz T => own_n (T := lnE) (j := 1) (n := m) rfl hz
  have fin : ∀ zs : List LineD, zs.length = m → ∃ n : Int, Ev prog (.call "haberdash/basket.Check" [(AV.own (.l 0) 32 0 8 4 none).ren (up 0), (AV.own (.l 1) (m * 3) 0 m 3 none).ren (up 0)] (⟨[], [B0, some (dBlk (lnE.row zs) true false), B2, none]⟩ : Hp).into) (.ret (.v (.int .i64 n)) (⟨[], [B0, some (dBlk (lnE.row zs) true false), B2, none]⟩ : Hp).into) ∧
      Ev prog (.call "haberdash/haberdashref10.Check" [(AV.own (.l 0) 32 0 8 4 none).ren (up 0), (AV.own (.l 1) (m * 3) 0 m 3 none).ren (up 0)] (⟨[], [B0, some (dBlk (lnE.row zs) true false), B2, none]⟩ : Hp).into) (.ret (.v (.int .i64 n)) (⟨[], [B0, some (dBlk (lnE.row zs) true false), B2, none]⟩ : Hp).into) := fun zs hz =>
    ⟨checkI js zs, Check_spec H.toFindLib H.toBasketLib H.checkF H.check1 ((wi _).into) ((wl zs hz _).into) (by omega) (by unfold maxLen; omega),
      rCheck_spec H.toFindLib H.rcheck H.rmay ((wi _).into) ((wl zs hz _).into) (by unfold maxLen; omega) (by unfold maxLen; omega)⟩
  have hz : zs[k]? = some zs[k] := List.getElem?_eq_getElem (by omega)
  have hz0 : ∀ zs : List LineD, zs.length = m → ∃ z, zs[0]? = some z := fun zs h => ⟨_, List.getElem?_eq_getElem (by omega)⟩
  have hzm : ∀ zs : List LineD, zs.length = m → ∃ z, zs[m - 1]? = some z := fun zs h => ⟨_, List.getElem?_eq_getElem (by omega)⟩
  have hsub : (m : Int) - 1 = ((m - 1 : Nat) : Int) := by omega
  generalize zs[k] = z at *
  have i0 := ix 0 hm0
  rw [show ((0 : Nat) : Int) = 0 from rfl] at i0
  simp (disch := first | (simp only [DS, reduceCtorEq]; done) | omega) only [WS, St.guard, St.put, evalO, reduceCtorEq, reduceIte, Nat.reduceAdd, Nat.reduceEqDiff, new_s, virtBlk_eq, box_s, box_vs, box_vi, box_vb, px_load_l, px_load_o, loadB_s, storeX, storeB_s, alloc_s, lay, whole, Option.join_some, List.drop_zero, List.drop_succ_cons, List.take_succ_cons, List.take_zero, List.drop_nil, List.nil_append, List.cons_append, Nat.reduceLeDiff, Nat.zero_add, and_self, and_true, cells_int, cells_bool, cells_str, cells_string, cells_agg, cells_own, cells_ro, cells_ptr, cells_nil, AV.lf.lfs, AV.lf, px_build, fills, build_string, build_str, build_int, WDR_some, Nat.reduceLeDiff, Nat.le_refl, Bool.and_self]
  rcases (show w = 0 ∨ w = 1 ∨ w = 2 ∨ w = 3 ∨ w = 4 by omega) with rfl | rfl | rfl | rfl | rfl
  · simp (disch := first | (simp only [DS, reduceCtorEq]; done) | omega) only [WS, St.guard, St.put, evalO, reduceCtorEq, reduceIte, Nat.reduceAdd, Nat.reduceEqDiff, Int.reduceBEq, ix k hk, stf zs k 0 (.v (str s)) z { z with sku := s } hzl hz (by omega) rfl rfl rfl]
    obtain ⟨r, e1, e2⟩ := fin (zs.set k { z with sku := s }) (by rw [List.length_set, hzl])
    refine (WP_p (x := .bool true) (by exact aw _ rfl) (gd _)).2 ?_
    simp (disch := first | (simp only [DS, reduceCtorEq]; done) | omega) only [WS, St.guard, St.put, evalO, reduceCtorEq, reduceIte, Nat.reduceAdd, Nat.reduceEqDiff, new_s, virtBlk_eq, box_s, box_vs, box_vi, box_vb, px_load_l, px_load_o, loadB_s, storeX, storeB_s, alloc_s, lay, whole, Option.join_some, List.drop_zero, List.drop_succ_cons, List.take_succ_cons, List.take_zero, List.drop_nil, List.nil_append, List.cons_append, Nat.reduceLeDiff, Nat.zero_add, and_self, and_true, cells_int, cells_bool, cells_str, cells_string, cells_agg, cells_own, cells_ro, cells_ptr, cells_nil, AV.lf.lfs, AV.lf, px_build, fills, build_string, build_str, build_int, WDR_some, Nat.reduceLeDiff, Nat.le_refl, Bool.and_self]
    refine (WP_p (x := .int .i64 r) (by exact e1) (gd _)).2 ?_
    simp (disch := first | (simp only [DS, reduceCtorEq]; done) | omega) only [WS, St.guard, St.put, evalO, reduceCtorEq, reduceIte, Nat.reduceAdd, Nat.reduceEqDiff, new_s, virtBlk_eq, box_s, box_vs, box_vi, box_vb, px_load_l, px_load_o, loadB_s, storeX, storeB_s, alloc_s, lay, whole, Option.join_some, List.drop_zero, List.drop_succ_cons, List.take_succ_cons, List.take_zero, List.drop_nil, List.nil_append, List.cons_append, Nat.reduceLeDiff, Nat.zero_add, and_self, and_true, cells_int, cells_bool, cells_str, cells_string, cells_agg, cells_own, cells_ro, cells_ptr, cells_nil, AV.lf.lfs, AV.lf, px_build, fills, build_string, build_str, build_int, WDR_some, Nat.reduceLeDiff, Nat.le_refl, Bool.and_self]
    refine (WP_p (x := .int .i64 r) (by exact e2) (gd _)).2 ?_
    simp (disch := first | (simp only [DS, reduceCtorEq]; done) | omega) only [WS, St.guard, St.put, evalO, reduceCtorEq, reduceIte, Nat.reduceAdd, Nat.reduceEqDiff, new_s, virtBlk_eq, box_s, box_vs, box_vi, box_vb, px_load_l, px_load_o, loadB_s, storeX, storeB_s, alloc_s, lay, whole, Option.join_some, List.drop_zero, List.drop_succ_cons, List.take_succ_cons, List.take_zero, List.drop_nil, List.nil_append, List.cons_append, Nat.reduceLeDiff, Nat.zero_add, and_self, and_true, cells_int, cells_bool, cells_str, cells_string, cells_agg, cells_own, cells_ro, cells_ptr, cells_nil, AV.lf.lfs, AV.lf, px_build, fills, build_string, build_str, build_int, WDR_some, Nat.reduceLeDiff, Nat.le_refl, Bool.and_self, hi, fin_tmp, leave_v]
    simp
  · simp (disch := first | (simp only [DS, reduceCtorEq]; done) | omega) only [WS, St.guard, St.put, evalO, reduceCtorEq, reduceIte, Nat.reduceAdd, Nat.reduceEqDiff, Int.reduceBEq, ix k hk, stf zs k 1 (.v (.int .i64 c4)) z { z with qty := c4 } hzl hz (by omega) rfl rfl rfl]
    obtain ⟨r, e1, e2⟩ := fin (zs.set k { z with qty := c4 }) (by rw [List.length_set, hzl])
    refine (WP_p (x := .bool true) (by exact aw _ rfl) (gd _)).2 ?_
    simp (disch := first | (simp only [DS, reduceCtorEq]; done) | omega) only [WS, St.guard, St.put, evalO, reduceCtorEq, reduceIte, Nat.reduceAdd, Nat.reduceEqDiff, new_s, virtBlk_eq, box_s, box_vs, box_vi, box_vb, px_load_l, px_load_o, loadB_s, storeX, storeB_s, alloc_s, lay, whole, Option.join_some, List.drop_zero, List.drop_succ_cons, List.take_succ_cons, List.take_zero, List.drop_nil, List.nil_append, List.cons_append, Nat.reduceLeDiff, Nat.zero_add, and_self, and_true, cells_int, cells_bool, cells_str, cells_string, cells_agg, cells_own, cells_ro, cells_ptr, cells_nil, AV.lf.lfs, AV.lf, px_build, fills, build_string, build_str, build_int, WDR_some, Nat.reduceLeDiff, Nat.le_refl, Bool.and_self]
    refine (WP_p (x := .int .i64 r) (by exact e1) (gd _)).2 ?_
    simp (disch := first | (simp only [DS, reduceCtorEq]; done) | omega) only [WS, St.guard, St.put, evalO, reduceCtorEq, reduceIte, Nat.reduceAdd, Nat.reduceEqDiff, new_s, virtBlk_eq, box_s, box_vs, box_vi, box_vb, px_load_l, px_load_o, loadB_s, storeX, storeB_s, alloc_s, lay, whole, Option.join_some, List.drop_zero, List.drop_succ_cons, List.take_succ_cons, List.take_zero, List.drop_nil, List.nil_append, List.cons_append, Nat.reduceLeDiff, Nat.zero_add, and_self, and_true, cells_int, cells_bool, cells_str, cells_string, cells_agg, cells_own, cells_ro, cells_ptr, cells_nil, AV.lf.lfs, AV.lf, px_build, fills, build_string, build_str, build_int, WDR_some, Nat.reduceLeDiff, Nat.le_refl, Bool.and_self]
    refine (WP_p (x := .int .i64 r) (by exact e2) (gd _)).2 ?_
    simp (disch := first | (simp only [DS, reduceCtorEq]; done) | omega) only [WS, St.guard, St.put, evalO, reduceCtorEq, reduceIte, Nat.reduceAdd, Nat.reduceEqDiff, new_s, virtBlk_eq, box_s, box_vs, box_vi, box_vb, px_load_l, px_load_o, loadB_s, storeX, storeB_s, alloc_s, lay, whole, Option.join_some, List.drop_zero, List.drop_succ_cons, List.take_succ_cons, List.take_zero, List.drop_nil, List.nil_append, List.cons_append, Nat.reduceLeDiff, Nat.zero_add, and_self, and_true, cells_int, cells_bool, cells_str, cells_string, cells_agg, cells_own, cells_ro, cells_ptr, cells_nil, AV.lf.lfs, AV.lf, px_build, fills, build_string, build_str, build_int, WDR_some, Nat.reduceLeDiff, Nat.le_refl, Bool.and_self, hi, fin_tmp, leave_v]
    simp
  · simp (disch := first | (simp only [DS, reduceCtorEq]; done) | omega) only [WS, St.guard, St.put, evalO, reduceCtorEq, reduceIte, Nat.reduceAdd, Nat.reduceEqDiff, Int.reduceBEq, ix k hk, stf zs k 2 (.v (.int .i64 c5)) z { z with price := c5 } hzl hz (by omega) rfl rfl rfl]
    obtain ⟨r, e1, e2⟩ := fin (zs.set k { z with price := c5 }) (by rw [List.length_set, hzl])
    refine (WP_p (x := .bool true) (by exact aw _ rfl) (gd _)).2 ?_
    simp (disch := first | (simp only [DS, reduceCtorEq]; done) | omega) only [WS, St.guard, St.put, evalO, reduceCtorEq, reduceIte, Nat.reduceAdd, Nat.reduceEqDiff, new_s, virtBlk_eq, box_s, box_vs, box_vi, box_vb, px_load_l, px_load_o, loadB_s, storeX, storeB_s, alloc_s, lay, whole, Option.join_some, List.drop_zero, List.drop_succ_cons, List.take_succ_cons, List.take_zero, List.drop_nil, List.nil_append, List.cons_append, Nat.reduceLeDiff, Nat.zero_add, and_self, and_true, cells_int, cells_bool, cells_str, cells_string, cells_agg, cells_own, cells_ro, cells_ptr, cells_nil, AV.lf.lfs, AV.lf, px_build, fills, build_string, build_str, build_int, WDR_some, Nat.reduceLeDiff, Nat.le_refl, Bool.and_self]
    refine (WP_p (x := .int .i64 r) (by exact e1) (gd _)).2 ?_
    simp (disch := first | (simp only [DS, reduceCtorEq]; done) | omega) only [WS, St.guard, St.put, evalO, reduceCtorEq, reduceIte, Nat.reduceAdd, Nat.reduceEqDiff, new_s, virtBlk_eq, box_s, box_vs, box_vi, box_vb, px_load_l, px_load_o, loadB_s, storeX, storeB_s, alloc_s, lay, whole, Option.join_some, List.drop_zero, List.drop_succ_cons, List.take_succ_cons, List.take_zero, List.drop_nil, List.nil_append, List.cons_append, Nat.reduceLeDiff, Nat.zero_add, and_self, and_true, cells_int, cells_bool, cells_str, cells_string, cells_agg, cells_own, cells_ro, cells_ptr, cells_nil, AV.lf.lfs, AV.lf, px_build, fills, build_string, build_str, build_int, WDR_some, Nat.reduceLeDiff, Nat.le_refl, Bool.and_self]
    refine (WP_p (x := .int .i64 r) (by exact e2) (gd _)).2 ?_
    simp (disch := first | (simp only [DS, reduceCtorEq]; done) | omega) only [WS, St.guard, St.put, evalO, reduceCtorEq, reduceIte, Nat.reduceAdd, Nat.reduceEqDiff, new_s, virtBlk_eq, box_s, box_vs, box_vi, box_vb, px_load_l, px_load_o, loadB_s, storeX, storeB_s, alloc_s, lay, whole, Option.join_some, List.drop_zero, List.drop_succ_cons, List.take_succ_cons, List.take_zero, List.drop_nil, List.nil_append, List.cons_append, Nat.reduceLeDiff, Nat.zero_add, and_self, and_true, cells_int, cells_bool, cells_str, cells_string, cells_agg, cells_own, cells_ro, cells_ptr, cells_nil, AV.lf.lfs, AV.lf, px_build, fills, build_string, build_str, build_int, WDR_some, Nat.reduceLeDiff, Nat.le_refl, Bool.and_self, hi, fin_tmp, leave_v]
    simp
  · have l1 : (zs.set k { z with qty := -1 }).length = m := by rw [List.length_set, hzl]
    obtain ⟨y, hy⟩ := hz0 _ l1
    have s0 := stf (zs.set k { z with qty := -1 }) 0 2 (.v (.int .i64 (-1))) y { y with price := -1 } l1 hy (by omega) rfl rfl rfl
    simp (disch := first | (simp only [DS, reduceCtorEq]; done) | omega) only [WS, St.guard, St.put, evalO, reduceCtorEq, reduceIte, Nat.reduceAdd, Nat.reduceEqDiff, Int.reduceBEq, ix k hk, i0, stf zs k 1 (.v (.int .i64 (-1))) z { z with qty := -1 } hzl hz (by omega) rfl rfl rfl, s0]
    obtain ⟨r, e1, e2⟩ := fin ((zs.set k { z with qty := -1 }).set 0 { y with price := -1 }) (by rw [List.length_set, l1])
    refine (WP_p (x := .bool true) (by exact aw _ rfl) (gd _)).2 ?_
    simp (disch := first | (simp only [DS, reduceCtorEq]; done) | omega) only [WS, St.guard, St.put, evalO, reduceCtorEq, reduceIte, Nat.reduceAdd, Nat.reduceEqDiff, new_s, virtBlk_eq, box_s, box_vs, box_vi, box_vb, px_load_l, px_load_o, loadB_s, storeX, storeB_s, alloc_s, lay, whole, Option.join_some, List.drop_zero, List.drop_succ_cons, List.take_succ_cons, List.take_zero, List.drop_nil, List.nil_append, List.cons_append, Nat.reduceLeDiff, Nat.zero_add, and_self, and_true, cells_int, cells_bool, cells_str, cells_string, cells_agg, cells_own, cells_ro, cells_ptr, cells_nil, AV.lf.lfs, AV.lf, px_build, fills, build_string, build_str, build_int, WDR_some, Nat.reduceLeDiff, Nat.le_refl, Bool.and_self]
    refine (WP_p (x := .int .i64 r) (by exact e1) (gd _)).2 ?_
    simp (disch := first | (simp only [DS, reduceCtorEq]; done) | omega) only [WS, St.guard, St.put, evalO, reduceCtorEq, reduceIte, Nat.reduceAdd, Nat.reduceEqDiff, new_s, virtBlk_eq, box_s, box_vs, box_vi, box_vb, px_load_l, px_load_o, loadB_s, storeX, storeB_s, alloc_s, lay, whole, Option.join_some, List.drop_zero, List.drop_succ_cons, List.take_succ_cons, List.take_zero, List.drop_nil, List.nil_append, List.cons_append, Nat.reduceLeDiff, Nat.zero_add, and_self, and_true, cells_int, cells_bool, cells_str, cells_string, cells_agg, cells_own, cells_ro, cells_ptr, cells_nil, AV.lf.lfs, AV.lf, px_build, fills, build_string, build_str, build_int, WDR_some, Nat.reduceLeDiff, Nat.le_refl, Bool.and_self]
    refine (WP_p (x := .int .i64 r) (by exact e2) (gd _)).2 ?_
    simp (disch := first | (simp only [DS, reduceCtorEq]; done) | omega) only [WS, St.guard, St.put, evalO, reduceCtorEq, reduceIte, Nat.reduceAdd, Nat.reduceEqDiff, new_s, virtBlk_eq, box_s, box_vs, box_vi, box_vb, px_load_l, px_load_o, loadB_s, storeX, storeB_s, alloc_s, lay, whole, Option.join_some, List.drop_zero, List.drop_succ_cons, List.take_succ_cons, List.take_zero, List.drop_nil, List.nil_append, List.cons_append, Nat.reduceLeDiff, Nat.zero_add, and_self, and_true, cells_int, cells_bool, cells_str, cells_string, cells_agg, cells_own, cells_ro, cells_ptr, cells_nil, AV.lf.lfs, AV.lf, px_build, fills, build_string, build_str, build_int, WDR_some, Nat.reduceLeDiff, Nat.le_refl, Bool.and_self, hi, fin_tmp, leave_v]
    simp
  · have l1 : (zs.set k { z with sku := [113] }).length = m := by rw [List.length_set, hzl]
    obtain ⟨y, hy⟩ := hzm _ l1
    have s0 := stf (zs.set k { z with sku := [113] }) (m - 1) 1 (.v (.int .i64 (-1))) y { y with qty := -1 } l1 hy (by omega) rfl rfl rfl
    have s1 := stf zs k 0 (.v (.string ⟨#[113]⟩)) z { z with sku := [113] } hzl hz (by omega) rfl rfl rfl
    simp (disch := first | (simp only [DS, reduceCtorEq]; done) | omega) only [WS, St.guard, St.put, evalO, reduceCtorEq, reduceIte, Nat.reduceAdd, Nat.reduceEqDiff, Int.reduceBEq, lenOf_own, goInt, vBin_sub_i64, hsub, ix k hk, ix (m - 1) (by omega), s1, s0]
    obtain ⟨r, e1, e2⟩ := fin ((zs.set k { z with sku := [113] }).set (m - 1) { y with qty := -1 }) (by rw [List.length_set, l1])
    refine (WP_p (x := .bool true) (by exact aw _ rfl) (gd _)).2 ?_
    simp (disch := first | (simp only [DS, reduceCtorEq]; done) | omega) only [WS, St.guard, St.put, evalO, reduceCtorEq, reduceIte, Nat.reduceAdd, Nat.reduceEqDiff, new_s, virtBlk_eq, box_s, box_vs, box_vi, box_vb, px_load_l, px_load_o, loadB_s, storeX, storeB_s, alloc_s, lay, whole, Option.join_some, List.drop_zero, List.drop_succ_cons, List.take_succ_cons, List.take_zero, List.drop_nil, List.nil_append, List.cons_append, Nat.reduceLeDiff, Nat.zero_add, and_self, and_true, cells_int, cells_bool, cells_str, cells_string, cells_agg, cells_own, cells_ro, cells_ptr, cells_nil, AV.lf.lfs, AV.lf, px_build, fills, build_string, build_str, build_int, WDR_some, Nat.reduceLeDiff, Nat.le_refl, Bool.and_self]
    refine (WP_p (x := .int .i64 r) (by exact e1) (gd _)).2 ?_
    simp (disch := first | (simp only [DS, reduceCtorEq]; done) | omega) only [WS, St.guard, St.put, evalO, reduceCtorEq, reduceIte, Nat.reduceAdd, Nat.reduceEqDiff, new_s, virtBlk_eq, box_s, box_vs, box_vi, box_vb, px_load_l, px_load_o, loadB_s, storeX, storeB_s, alloc_s, lay, whole, Option.join_some, List.drop_zero, List.drop_succ_cons, List.take_succ_cons, List.take_zero, List.drop_nil, List.nil_append, List.cons_append, Nat.reduceLeDiff, Nat.zero_add, and_self, and_true, cells_int, cells_bool, cells_str, cells_string, cells_agg, cells_own, cells_ro, cells_ptr, cells_nil, AV.lf.lfs, AV.lf, px_build, fills, build_string, build_str, build_int, WDR_some, Nat.reduceLeDiff, Nat.le_refl, Bool.and_self]
    refine (WP_p (x := .int .i64 r) (by exact e2) (gd _)).2 ?_
    simp (disch := first | (simp only [DS, reduceCtorEq]; done) | omega) only [WS, St.guard, St.put, evalO, reduceCtorEq, reduceIte, Nat.reduceAdd, Nat.reduceEqDiff, new_s, virtBlk_eq, box_s, box_vs, box_vi, box_vb, px_load_l, px_load_o, loadB_s, storeX, storeB_s, alloc_s, lay, whole, Option.join_some, List.drop_zero, List.drop_succ_cons, List.take_succ_cons, List.take_zero, List.drop_nil, List.nil_append, List.cons_append, Nat.reduceLeDiff, Nat.zero_add, and_self, and_true, cells_int, cells_bool, cells_str, cells_string, cells_agg, cells_own, cells_ro, cells_ptr, cells_nil, AV.lf.lfs, AV.lf, px_build, fills, build_string, build_str, build_int, WDR_some, Nat.reduceLeDiff, Nat.le_refl, Bool.and_self, hi, fin_tmp, leave_v]
    simp
end Go.AM
