import Derived.Test.YtikbagggffehkaaBasketC
set_option linter.unusedVariables false
set_option linter.unusedSimpArgs false
namespace Go.AM
variable {prog : String → Option IFn}
structure Law14A (prog : String → Option IFn) : Prop extends Law14 prog where
  lunits : prog "haberdash/haberdashlaw14.units" = some f_law14_units
  runits : prog "haberdash/haberdashref10.Units" = some f_ref10_Units
  rgross : prog "haberdash/haberdashref10.Gross" = some f_ref10_Gross
  ritems : prog "haberdash/haberdashref10.Items" = some f_ref10_Items
  ownI : prog "haberdash/haberdashhelp.Own[haberdash/api.Item]" = some f_help_Own_api_Item_
  keptI : prog "haberdash/haberdashhelp.Kept[haberdash/api.Item]" = some f_help_Kept_api_Item_
  sameI : prog "haberdash/haberdashhelp.Same[haberdash/api.Item]" = some f_help_Same_api_Item_
  plainI : prog "haberdash/haberdashhelp.Plain[haberdash/api.Item]" = some f_help_Plain_api_Item_
  plainI1 : prog "haberdash/haberdashhelp.Plain[haberdash/api.Item]$1" = some f_help_Plain_api_Item__1
  ownL : prog "haberdash/haberdashhelp.Own[haberdash/api.Line]" = some f_help_Own_api_Line_
  keptL : prog "haberdash/haberdashhelp.Kept[haberdash/api.Line]" = some f_help_Kept_api_Line_
  sameL : prog "haberdash/haberdashhelp.Same[haberdash/api.Line]" = some f_help_Same_api_Line_
  plainL : prog "haberdash/haberdashhelp.Plain[haberdash/api.Line]" = some f_help_Plain_api_Line_
  plainL1 : prog "haberdash/haberdashhelp.Plain[haberdash/api.Line]$1" = some f_help_Plain_api_Line__1
  sameU : prog "haberdash/haberdashhelp.Same[haberdash/api.Unit]" = some f_help_Same_api_Unit_
  plainU : prog "haberdash/haberdashhelp.Plain[haberdash/api.Unit]" = some f_help_Plain_api_Unit_
  plainU1 : prog "haberdash/haberdashhelp.Plain[haberdash/api.Unit]$1" = some f_help_Plain_api_Unit__1
theorem keptI2 (H : Law14A prog) {G p b} {xs : List ItemD} (x0 : ItemD) (hp : G[p]? = some (some (dBlk (ownCells itEnc xs x0) false false))) (w : ∀ L, TView itEnc ⟨G, L⟩ b xs) (hx : xs.length < 2 ^ 61) :
    Ev prog (.call "haberdash/haberdashhelp.Kept[haberdash/api.Item]" [.own (.o p) ((xs.length + 3) * 4) 0 xs.length 4 (some (xs.length + 3)), b, itEnc.av x0] G) (.ret (.v (.bool true)) G) :=
  keptB_spec (prog := prog) (T := itEnc) (plain := "haberdash/haberdashhelp.Plain[haberdash/api.Item]") (cmp := .eq true [.str, .str, .int, .bool]) (x0 := x0) rfl (H.keptI.trans (congrArg some (by rfl))) (Go.AM.plainI H.plainI H.sameI H.plainI1) rfl (fun h => by
    rw [itEnc_av, eq_item]; simp) hp w hx
theorem unitsL_len {xs : List LineD} (hl : xs.length ≤ 1000000) : (unitsL xs).length ≤ 100000 := by
  unfold unitsL
  cases hm : mayL xs
  · simp
  · obtain ⟨_, ho, hq, _⟩ := mayL_iff.1 hm
    rw [if_pos rfl, ← uTo_all]
    have := uTo_len ho (i := xs.length) (Nat.le_refl _)
    rw [List.take_length] at this
    omega
theorem itemsL_len {is : List ItemD} {xs : List LineD} : (itemsL is xs).length ≤ xs.length := by
  unfold itemsL
  split
  · exact itTo_len
  · simp
theorem BasketRaw_law (H : Law14A prog) (hp : prog "haberdash/haberdashlaw14.BasketRaw" = some f_law14_BasketRaw) {as} (h : IsAll [.slice itemTy, .slice lineTy] as) :
    ∃ G2, Ev prog (.call "haberdash/haberdashlaw14.BasketRaw" as []) (.ret (.v (.bool true)) G2) := by
  rcases as with _ | ⟨a0, _ | ⟨a1, _ | _⟩⟩ <;> try (simp [IsAll] at h; done)
  obtain ⟨⟨c0', h0, rfl⟩, ⟨c1', h1, rfl⟩, _⟩ := h
  obtain ⟨a, is, rfl, va, hil, _⟩ := is_itemsS h0
  obtain ⟨b, xs, rfl, vb, hxl⟩ := is_lines h1
  refine ⟨[], call_of_fin hp ?_⟩
  have gn : Good ⟨[], [none, none, none, none, none, none]⟩ := trivial
  have aw : ∀ G, G.length = 6 → Ev prog (.call "haberdash/haberdashlaw14.awake" [] G) (.ret (.v (.bool true)) G) := fun G h => awake14 H.toLaw14 (.inr (.inr (.inl h)))
  have hi : ∀ n : Int, (n == n) = true := fun n => by simp
  have hb : ∀ b : Bool, (b == b) = true := fun b => by cases b <;> rfl
  simp only [f_law14_BasketRaw_B, enter, List.length_cons, List.length_nil, List.replicate, Nat.reduceAdd, Nat.reduceSub, List.cons_append, List.nil_append, Ty.arg, intAV]
  simp (disch := first | (simp only [DS, reduceCtorEq]; done) | omega) only [WS, St.guard, St.put, evalO, reduceCtorEq, reduceIte, Nat.reduceAdd, Nat.reduceEqDiff, new_s, virtBlk_eq, box_s, box_vs, box_vi, box_vb, px_load_l, px_load_o, loadB_s, storeX, storeB_s, alloc_s, lay, whole, Option.join_some, List.drop_zero, List.drop_succ_cons, List.take_succ_cons, List.take_zero, List.drop_nil, List.nil_append, List.cons_append, Nat.reduceLeDiff, Nat.zero_add, and_self, and_true, cells_int, cells_bool, cells_str, cells_string, cells_agg, cells_own, cells_ro, cells_ptr, cells_nil, AV.lf.lfs, AV.lf, px_build, fills, build_string, build_str, build_int, WDR_some, Nat.reduceLeDiff, Nat.le_refl, Bool.and_self, (va _).lenSlice, (vb _).lenSlice]
  by_cases h40 : (is.length : Int) > 40
  · simp (disch := first | (simp only [DS, reduceCtorEq]; done) | omega) only [WS, St.guard, St.put, evalO, reduceCtorEq, reduceIte, Nat.reduceAdd, Nat.reduceEqDiff, h40, decide_true]
    refine (WP_p (x := .bool true) (by exact aw _ rfl) gn).2 ?_
    simp (disch := first | (simp only [DS, reduceCtorEq]; done) | omega) only [WS, St.guard, St.put, evalO, reduceCtorEq, reduceIte, Nat.reduceAdd, Nat.reduceEqDiff, fin_tmp, leave_v]
    simp
  simp (disch := first | (simp only [DS, reduceCtorEq]; done) | omega) only [WS, St.guard, St.put, evalO, reduceCtorEq, reduceIte, Nat.reduceAdd, Nat.reduceEqDiff, new_s, virtBlk_eq, box_s, box_vs, box_vi, box_vb, px_load_l, px_load_o, loadB_s, storeX, storeB_s, alloc_s, lay, whole, Option.join_some, List.drop_zero, List.drop_succ_cons, List.take_succ_cons, List.take_zero, List.drop_nil, List.nil_append, List.cons_append, Nat.reduceLeDiff, Nat.zero_add, and_self, and_true, cells_int, cells_bool, cells_str, cells_string, cells_agg, cells_own, cells_ro, cells_ptr, cells_nil, AV.lf.lfs, AV.lf, px_build, fills, build_string, build_str, build_int, WDR_some, Nat.reduceLeDiff, Nat.le_refl, Bool.and_self, h40, decide_false, (vb _).lenSlice]
  by_cases h41 : (xs.length : Int) > 40
  · simp (disch := first | (simp only [DS, reduceCtorEq]; done) | omega) only [WS, St.guard, St.put, evalO, reduceCtorEq, reduceIte, Nat.reduceAdd, Nat.reduceEqDiff, h41, decide_true]
    refine (WP_p (x := .bool true) (by exact aw _ rfl) gn).2 ?_
    simp (disch := first | (simp only [DS, reduceCtorEq]; done) | omega) only [WS, St.guard, St.put, evalO, reduceCtorEq, reduceIte, Nat.reduceAdd, Nat.reduceEqDiff, fin_tmp, leave_v]
    simp
  simp (disch := first | (simp only [DS, reduceCtorEq]; done) | omega) only [WS, St.guard, St.put, evalO, reduceCtorEq, reduceIte, Nat.reduceAdd, Nat.reduceEqDiff, new_s, virtBlk_eq, box_s, box_vs, box_vi, box_vb, px_load_l, px_load_o, loadB_s, storeX, storeB_s, alloc_s, lay, whole, Option.join_some, List.drop_zero, List.drop_succ_cons, List.take_succ_cons, List.take_zero, List.drop_nil, List.nil_append, List.cons_append, Nat.reduceLeDiff, Nat.zero_add, and_self, and_true, cells_int, cells_bool, cells_str, cells_string, cells_agg, cells_own, cells_ro, cells_ptr, cells_nil, AV.lf.lfs, AV.lf, px_build, fills, build_string, build_str, build_int, WDR_some, Nat.reduceLeDiff, Nat.le_refl, Bool.and_self, h41, decide_false]
  refine (WP_p (x := .int .i64 (cntL xs)) (by exact lawUnits_spec H.lunits ((vb _).into) hxl) gn).2 ?_
  by_cases h42 : cntL xs ≥ 3000
  · simp (disch := first | (simp only [DS, reduceCtorEq]; done) | omega) only [WS, St.guard, St.put, evalO, reduceCtorEq, reduceIte, Nat.reduceAdd, Nat.reduceEqDiff, h42, decide_true]
    refine (WP_p (x := .bool true) (by exact aw _ rfl) gn).2 ?_
    simp (disch := first | (simp only [DS, reduceCtorEq]; done) | omega) only [WS, St.guard, St.put, evalO, reduceCtorEq, reduceIte, Nat.reduceAdd, Nat.reduceEqDiff, fin_tmp, leave_v]
    simp
  simp (disch := first | (simp only [DS, reduceCtorEq]; done) | omega) only [WS, St.guard, St.put, evalO, reduceCtorEq, reduceIte, Nat.reduceAdd, Nat.reduceEqDiff, new_s, virtBlk_eq, box_s, box_vs, box_vi, box_vb, px_load_l, px_load_o, loadB_s, storeX, storeB_s, alloc_s, lay, whole, Option.join_some, List.drop_zero, List.drop_succ_cons, List.take_succ_cons, List.take_zero, List.drop_nil, List.nil_append, List.cons_append, Nat.reduceLeDiff, Nat.zero_add, and_self, and_true, cells_int, cells_bool, cells_str, cells_string, cells_agg, cells_own, cells_ro, cells_ptr, cells_nil, AV.lf.lfs, AV.lf, px_build, fills, build_string, build_str, build_int, WDR_some, Nat.reduceLeDiff, Nat.le_refl, Bool.and_self, h42, decide_false]
  refine WP_news (by exact ownLn H.ownL spoiltL ((vb _).into) (by unfold room; omega)) (data1 dBlk_l) rfl (by decide) rfl gn (by exact ren_own1) ?_
  simp (disch := first | (simp only [DS, reduceCtorEq]; done) | omega) only [WS, St.guard, St.put, evalO, reduceCtorEq, reduceIte, Nat.reduceAdd, Nat.reduceEqDiff, new_s, virtBlk_eq, box_s, box_vs, box_vi, box_vb, px_load_l, px_load_o, loadB_s, storeX, storeB_s, alloc_s, lay, whole, Option.join_some, List.drop_zero, List.drop_succ_cons, List.take_succ_cons, List.take_zero, List.drop_nil, List.nil_append, List.cons_append, Nat.reduceLeDiff, Nat.zero_add, and_self, and_true, cells_int, cells_bool, cells_str, cells_string, cells_agg, cells_own, cells_ro, cells_ptr, cells_nil, AV.lf.lfs, AV.lf, px_build, fills, build_string, build_str, build_int, WDR_some, Nat.reduceLeDiff, Nat.le_refl, Bool.and_self, putAll]
  refine WP_news (by exact Go.AM.ownI H.ownI spoiltI ((va _).into) (by unfold room; omega)) (data1 dBlk_l) rfl (by decide) rfl (by unfold Good; dsimp only; repeat (first | exact trivial | rw [goodN] | refine ⟨dBlk_good, ?_⟩ | refine goodD (by assumption) ?_ | refine ⟨sBlk_good (by first | rfl | assumption | (simp [AV.labs.labss, AV.labs, refLt]; done)), ?_⟩)) (by exact ren_own1) ?_
  simp (disch := first | (simp only [DS, reduceCtorEq]; done) | omega) only [WS, St.guard, St.put, evalO, reduceCtorEq, reduceIte, Nat.reduceAdd, Nat.reduceEqDiff, new_s, virtBlk_eq, box_s, box_vs, box_vi, box_vb, px_load_l, px_load_o, loadB_s, storeX, storeB_s, alloc_s, lay, whole, Option.join_some, List.drop_zero, List.drop_succ_cons, List.take_succ_cons, List.take_zero, List.drop_nil, List.nil_append, List.cons_append, Nat.reduceLeDiff, Nat.zero_add, and_self, and_true, cells_int, cells_bool, cells_str, cells_string, cells_agg, cells_own, cells_ro, cells_ptr, cells_nil, AV.lf.lfs, AV.lf, px_build, fills, build_string, build_str, build_int, WDR_some, Nat.reduceLeDiff, Nat.le_refl, Bool.and_self, putAll]
  have wl : ∀ T, TView lnE ⟨[], some (dBlk (ownCells lnE xs spoiltL) false false) :: T⟩ (.own (.l 0) ((xs.length + 3) * 3) 0 xs.length 3 (some (xs.length + 3))) xs := fun T => oc_view (T := lnE) (j := 0) rfl
  have wi : ∀ b0 T, TView itEnc ⟨[], b0 :: some (dBlk (ownCells itEnc is spoiltI) false false) :: T⟩ (.own (.l 1) ((is.length + 3) * 4) 0 is.length 4 (some (is.length + 3))) is := fun b0 T => oc_view (T := itEnc) (j := 1) rfl
  have gd : ∀ c d e f : Option Blk, (∀ B, c = some B → B.labs = []) → (∀ B, d = some B → B.labs = []) → (∀ B, e = some B → B.labs = []) → (∀ B, f = some B → B.labs = []) →
      Good ⟨[], [some (dBlk (ownCells lnE xs spoiltL) false false), some (dBlk (ownCells itEnc is spoiltI) false false), c, d, e, f]⟩ := fun c d e f h1 h2 h3 h4 => (by unfold Good; dsimp only; repeat (first | exact trivial | rw [goodN] | refine ⟨dBlk_good, ?_⟩ | refine goodD (by assumption) ?_ | refine ⟨sBlk_good (by first | rfl | assumption | (simp [AV.labs.labss, AV.labs, refLt]; done)), ?_⟩))
  have nn : ∀ B : Blk, (none : Option Blk) = some B → B.labs = [] := fun B h => by cases h
  refine (WP_p (x := .bool true) (by exact aw _ rfl) (gd _ _ _ _ nn nn nn nn)).2 ?_
  simp (disch := first | (simp only [DS, reduceCtorEq]; done) | omega) only [WS, St.guard, St.put, evalO, reduceCtorEq, reduceIte, Nat.reduceAdd, Nat.reduceEqDiff, new_s, virtBlk_eq, box_s, box_vs, box_vi, box_vb, px_load_l, px_load_o, loadB_s, storeX, storeB_s, alloc_s, lay, whole, Option.join_some, List.drop_zero, List.drop_succ_cons, List.take_succ_cons, List.take_zero, List.drop_nil, List.nil_append, List.cons_append, Nat.reduceLeDiff, Nat.zero_add, and_self, and_true, cells_int, cells_bool, cells_str, cells_string, cells_agg, cells_own, cells_ro, cells_ptr, cells_nil, AV.lf.lfs, AV.lf, px_build, fills, build_string, build_str, build_int, WDR_some, Nat.reduceLeDiff, Nat.le_refl, Bool.and_self]
  refine (WP_p (x := .int .i64 (checkI is xs)) (by exact Check_spec H.toFindLib H.toBasketLib H.checkF H.check1 ((wi _ _).into) ((wl _).into) (by omega) hxl) (gd _ _ _ _ nn nn nn nn)).2 ?_
  simp (disch := first | (simp only [DS, reduceCtorEq]; done) | omega) only [WS, St.guard, St.put, evalO, reduceCtorEq, reduceIte, Nat.reduceAdd, Nat.reduceEqDiff, new_s, virtBlk_eq, box_s, box_vs, box_vi, box_vb, px_load_l, px_load_o, loadB_s, storeX, storeB_s, alloc_s, lay, whole, Option.join_some, List.drop_zero, List.drop_succ_cons, List.take_succ_cons, List.take_zero, List.drop_nil, List.nil_append, List.cons_append, Nat.reduceLeDiff, Nat.zero_add, and_self, and_true, cells_int, cells_bool, cells_str, cells_string, cells_agg, cells_own, cells_ro, cells_ptr, cells_nil, AV.lf.lfs, AV.lf, px_build, fills, build_string, build_str, build_int, WDR_some, Nat.reduceLeDiff, Nat.le_refl, Bool.and_self]
  refine (WP_p (x := .int .i64 (checkI is xs)) (by exact rCheck_spec H.toFindLib H.rcheck H.rmay ((va _).into) ((vb _).into) hil hxl) (gd _ _ _ _ nn nn nn nn)).2 ?_
  simp (disch := first | (simp only [DS, reduceCtorEq]; done) | omega) only [WS, St.guard, St.put, evalO, reduceCtorEq, reduceIte, Nat.reduceAdd, Nat.reduceEqDiff, new_s, virtBlk_eq, box_s, box_vs, box_vi, box_vb, px_load_l, px_load_o, loadB_s, storeX, storeB_s, alloc_s, lay, whole, Option.join_some, List.drop_zero, List.drop_succ_cons, List.take_succ_cons, List.take_zero, List.drop_nil, List.nil_append, List.cons_append, Nat.reduceLeDiff, Nat.zero_add, and_self, and_true, cells_int, cells_bool, cells_str, cells_string, cells_agg, cells_own, cells_ro, cells_ptr, cells_nil, AV.lf.lfs, AV.lf, px_build, fills, build_string, build_str, build_int, WDR_some, Nat.reduceLeDiff, Nat.le_refl, Bool.and_self, hi]
  refine (WP_p (x := .int .i64 (grossV xs)) (by exact Gross_spec H.toBasketLib H.gross ((wl _).into) hxl) (gd _ _ _ _ nn nn nn nn)).2 ?_
  simp (disch := first | (simp only [DS, reduceCtorEq]; done) | omega) only [WS, St.guard, St.put, evalO, reduceCtorEq, reduceIte, Nat.reduceAdd, Nat.reduceEqDiff, new_s, virtBlk_eq, box_s, box_vs, box_vi, box_vb, px_load_l, px_load_o, loadB_s, storeX, storeB_s, alloc_s, lay, whole, Option.join_some, List.drop_zero, List.drop_succ_cons, List.take_succ_cons, List.take_zero, List.drop_nil, List.nil_append, List.cons_append, Nat.reduceLeDiff, Nat.zero_add, and_self, and_true, cells_int, cells_bool, cells_str, cells_string, cells_agg, cells_own, cells_ro, cells_ptr, cells_nil, AV.lf.lfs, AV.lf, px_build, fills, build_string, build_str, build_int, WDR_some, Nat.reduceLeDiff, Nat.le_refl, Bool.and_self]
  refine (WP_p (x := .int .i64 (grossV xs)) (by exact rGross_spec H.rgross H.rmay H.rin ((vb _).into) hxl) (gd _ _ _ _ nn nn nn nn)).2 ?_
  simp (disch := first | (simp only [DS, reduceCtorEq]; done) | omega) only [WS, St.guard, St.put, evalO, reduceCtorEq, reduceIte, Nat.reduceAdd, Nat.reduceEqDiff, new_s, virtBlk_eq, box_s, box_vs, box_vi, box_vb, px_load_l, px_load_o, loadB_s, storeX, storeB_s, alloc_s, lay, whole, Option.join_some, List.drop_zero, List.drop_succ_cons, List.take_succ_cons, List.take_zero, List.drop_nil, List.nil_append, List.cons_append, Nat.reduceLeDiff, Nat.zero_add, and_self, and_true, cells_int, cells_bool, cells_str, cells_string, cells_agg, cells_own, cells_ro, cells_ptr, cells_nil, AV.lf.lfs, AV.lf, px_build, fills, build_string, build_str, build_int, WDR_some, Nat.reduceLeDiff, Nat.le_refl, Bool.and_self, hi]
  obtain ⟨r2, G2, ev2, an2⟩ := Units_spec H.units ((wl [some (dBlk (ownCells itEnc is spoiltI) false false), none, none, none, none]).into) (by omega)
  obtain ⟨u2, B2, e2, hB2, vu2, _⟩ := op_list (args := [.own (.l 0) ((xs.length + 3) * 3) 0 xs.length 3 (some (xs.length + 3))]) ev2 an2 (site := 2) rfl (gd _ _ _ _ nn nn nn nn)
  refine WP_of (by exact e2) ?_
  simp (disch := first | (simp only [DS, reduceCtorEq]; done) | omega) only [WS, St.guard, St.put, evalO, reduceCtorEq, reduceIte, Nat.reduceAdd, Nat.reduceEqDiff, new_s, virtBlk_eq, box_s, box_vs, box_vi, box_vb, px_load_l, px_load_o, loadB_s, storeX, storeB_s, alloc_s, lay, whole, Option.join_some, List.drop_zero, List.drop_succ_cons, List.take_succ_cons, List.take_zero, List.drop_nil, List.nil_append, List.cons_append, Nat.reduceLeDiff, Nat.zero_add, and_self, and_true, cells_int, cells_bool, cells_str, cells_string, cells_agg, cells_own, cells_ro, cells_ptr, cells_nil, AV.lf.lfs, AV.lf, px_build, fills, build_string, build_str, build_int, WDR_some, Nat.reduceLeDiff, Nat.le_refl, Bool.and_self]
  obtain ⟨r3, G3, ev3, an3⟩ := rUnits_spec H.runits H.rmay H.rin ((vb ⟨[], [some (dBlk (ownCells lnE xs spoiltL) false false), some (dBlk (ownCells itEnc is spoiltI) false false), B2, none, none, none]⟩).into) hxl
  obtain ⟨u3, B3, e3, hB3, vu3, _⟩ := op_list (args := [b]) ev3 an3 (site := 3) rfl (gd _ _ _ _ hB2 nn nn nn)
  refine WP_of (by exact e3) ?_
  simp (disch := first | (simp only [DS, reduceCtorEq]; done) | omega) only [WS, St.guard, St.put, evalO, reduceCtorEq, reduceIte, Nat.reduceAdd, Nat.reduceEqDiff, new_s, virtBlk_eq, box_s, box_vs, box_vi, box_vb, px_load_l, px_load_o, loadB_s, storeX, storeB_s, alloc_s, lay, whole, Option.join_some, List.drop_zero, List.drop_succ_cons, List.take_succ_cons, List.take_zero, List.drop_nil, List.nil_append, List.cons_append, Nat.reduceLeDiff, Nat.zero_add, and_self, and_true, cells_int, cells_bool, cells_str, cells_string, cells_agg, cells_own, cells_ro, cells_ptr, cells_nil, AV.lf.lfs, AV.lf, px_build, fills, build_string, build_str, build_int, WDR_some, Nat.reduceLeDiff, Nat.le_refl, Bool.and_self]
  have hul := unitsL_len (xs := xs) (by omega)
  have pU := Go.AM.plainU H.plainU H.sameU H.plainU1 (G := (⟨[], [some (dBlk (ownCells lnE xs spoiltL) false false), some (dBlk (ownCells itEnc is spoiltI) false false), B2, B3, none, none]⟩ : Hp).into) ((vu2 _ rfl).into) ((vu3 _ rfl).into) (by omega) (by omega)
  rw [decide_eq_true rfl] at pU
  refine (WP_p (x := .bool true) (by exact pU) (gd _ _ _ _ hB2 hB3 nn nn)).2 ?_
  simp (disch := first | (simp only [DS, reduceCtorEq]; done) | omega) only [WS, St.guard, St.put, evalO, reduceCtorEq, reduceIte, Nat.reduceAdd, Nat.reduceEqDiff, new_s, virtBlk_eq, box_s, box_vs, box_vi, box_vb, px_load_l, px_load_o, loadB_s, storeX, storeB_s, alloc_s, lay, whole, Option.join_some, List.drop_zero, List.drop_succ_cons, List.take_succ_cons, List.take_zero, List.drop_nil, List.nil_append, List.cons_append, Nat.reduceLeDiff, Nat.zero_add, and_self, and_true, cells_int, cells_bool, cells_str, cells_string, cells_agg, cells_own, cells_ro, cells_ptr, cells_nil, AV.lf.lfs, AV.lf, px_build, fills, build_string, build_str, build_int, WDR_some, Nat.reduceLeDiff, Nat.le_refl, Bool.and_self]
  obtain ⟨r4, G4, ev4, an4⟩ := Items2_spec H.toFindLib H.itemsF ((wi (some (dBlk (ownCells lnE xs spoiltL) false false)) [B2, B3, none, none]).into) ((wl [some (dBlk (ownCells itEnc is spoiltI) false false), B2, B3, none, none]).into) (by omega) (by omega)
  obtain ⟨u4, B4, e4, hB4, vu4, _⟩ := op_list (args := [.own (.l 1) ((is.length + 3) * 4) 0 is.length 4 (some (is.length + 3)), .own (.l 0) ((xs.length + 3) * 3) 0 xs.length 3 (some (xs.length + 3))]) ev4 an4 (site := 4) rfl (gd _ _ _ _ hB2 hB3 nn nn)
  refine WP_of (by exact e4) ?_
  simp (disch := first | (simp only [DS, reduceCtorEq]; done) | omega) only [WS, St.guard, St.put, evalO, reduceCtorEq, reduceIte, Nat.reduceAdd, Nat.reduceEqDiff, new_s, virtBlk_eq, box_s, box_vs, box_vi, box_vb, px_load_l, px_load_o, loadB_s, storeX, storeB_s, alloc_s, lay, whole, Option.join_some, List.drop_zero, List.drop_succ_cons, List.take_succ_cons, List.take_zero, List.drop_nil, List.nil_append, List.cons_append, Nat.reduceLeDiff, Nat.zero_add, and_self, and_true, cells_int, cells_bool, cells_str, cells_string, cells_agg, cells_own, cells_ro, cells_ptr, cells_nil, AV.lf.lfs, AV.lf, px_build, fills, build_string, build_str, build_int, WDR_some, Nat.reduceLeDiff, Nat.le_refl, Bool.and_self]
  obtain ⟨r5, G5, ev5, an5⟩ := rItems2_spec H.toFindLib H.ritems ((va ⟨[], [some (dBlk (ownCells lnE xs spoiltL) false false), some (dBlk (ownCells itEnc is spoiltI) false false), B2, B3, B4, none]⟩).into) ((vb ⟨[], [some (dBlk (ownCells lnE xs spoiltL) false false), some (dBlk (ownCells itEnc is spoiltI) false false), B2, B3, B4, none]⟩).into) hil (by omega)
  obtain ⟨u5, B5, e5, hB5, vu5, _⟩ := op_list (args := [a, b]) ev5 an5 (site := 5) rfl (gd _ _ _ _ hB2 hB3 hB4 nn)
  refine WP_of (by exact e5) ?_
  simp (disch := first | (simp only [DS, reduceCtorEq]; done) | omega) only [WS, St.guard, St.put, evalO, reduceCtorEq, reduceIte, Nat.reduceAdd, Nat.reduceEqDiff, new_s, virtBlk_eq, box_s, box_vs, box_vi, box_vb, px_load_l, px_load_o, loadB_s, storeX, storeB_s, alloc_s, lay, whole, Option.join_some, List.drop_zero, List.drop_succ_cons, List.take_succ_cons, List.take_zero, List.drop_nil, List.nil_append, List.cons_append, Nat.reduceLeDiff, Nat.zero_add, and_self, and_true, cells_int, cells_bool, cells_str, cells_string, cells_agg, cells_own, cells_ro, cells_ptr, cells_nil, AV.lf.lfs, AV.lf, px_build, fills, build_string, build_str, build_int, WDR_some, Nat.reduceLeDiff, Nat.le_refl, Bool.and_self]
  have hitl := itemsL_len (is := is) (xs := xs)
  have pI := Go.AM.plainI H.plainI H.sameI H.plainI1 (G := (⟨[], [some (dBlk (ownCells lnE xs spoiltL) false false), some (dBlk (ownCells itEnc is spoiltI) false false), B2, B3, B4, B5]⟩ : Hp).into) ((vu4 _ rfl).into) ((vu5 _ rfl).into) (by omega) (by omega)
  rw [decide_eq_true rfl] at pI
  have gl := gd _ _ _ _ hB2 hB3 hB4 hB5
  refine (WP_p (x := .bool true) (by exact pI) gl).2 ?_
  simp (disch := first | (simp only [DS, reduceCtorEq]; done) | omega) only [WS, St.guard, St.put, evalO, reduceCtorEq, reduceIte, Nat.reduceAdd, Nat.reduceEqDiff, new_s, virtBlk_eq, box_s, box_vs, box_vi, box_vb, px_load_l, px_load_o, loadB_s, storeX, storeB_s, alloc_s, lay, whole, Option.join_some, List.drop_zero, List.drop_succ_cons, List.take_succ_cons, List.take_zero, List.drop_nil, List.nil_append, List.cons_append, Nat.reduceLeDiff, Nat.zero_add, and_self, and_true, cells_int, cells_bool, cells_str, cells_string, cells_agg, cells_own, cells_ro, cells_ptr, cells_nil, AV.lf.lfs, AV.lf, px_build, fills, build_string, build_str, build_int, WDR_some, Nat.reduceLeDiff, Nat.le_refl, Bool.and_self]
  refine (WP_p (x := .bool true) (by exact keptLn H.keptL (plainLn H.plainL H.sameL H.plainL1) (p := 0) spoiltL rfl ((vb _).into) (by omega)) gl).2 ?_
  simp (disch := first | (simp only [DS, reduceCtorEq]; done) | omega) only [WS, St.guard, St.put, evalO, reduceCtorEq, reduceIte, Nat.reduceAdd, Nat.reduceEqDiff, new_s, virtBlk_eq, box_s, box_vs, box_vi, box_vb, px_load_l, px_load_o, loadB_s, storeX, storeB_s, alloc_s, lay, whole, Option.join_some, List.drop_zero, List.drop_succ_cons, List.take_succ_cons, List.take_zero, List.drop_nil, List.nil_append, List.cons_append, Nat.reduceLeDiff, Nat.zero_add, and_self, and_true, cells_int, cells_bool, cells_str, cells_string, cells_agg, cells_own, cells_ro, cells_ptr, cells_nil, AV.lf.lfs, AV.lf, px_build, fills, build_string, build_str, build_int, WDR_some, Nat.reduceLeDiff, Nat.le_refl, Bool.and_self]
  refine (WP_p (x := .bool true) (by exact keptI2 H (p := 1) spoiltI rfl ((va _).into) (by omega)) gl).2 ?_
  simp (disch := first | (simp only [DS, reduceCtorEq]; done) | omega) only [WS, St.guard, St.put, evalO, reduceCtorEq, reduceIte, Nat.reduceAdd, Nat.reduceEqDiff, new_s, virtBlk_eq, box_s, box_vs, box_vi, box_vb, px_load_l, px_load_o, loadB_s, storeX, storeB_s, alloc_s, lay, whole, Option.join_some, List.drop_zero, List.drop_succ_cons, List.take_succ_cons, List.take_zero, List.drop_nil, List.nil_append, List.cons_append, Nat.reduceLeDiff, Nat.zero_add, and_self, and_true, cells_int, cells_bool, cells_str, cells_string, cells_agg, cells_own, cells_ro, cells_ptr, cells_nil, AV.lf.lfs, AV.lf, px_build, fills, build_string, build_str, build_int, WDR_some, Nat.reduceLeDiff, Nat.le_refl, Bool.and_self, fin_tmp, leave_v]
  simp
end Go.AM
