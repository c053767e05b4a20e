import Derived.Test.YtikbagggffehkaaBasketA
set_option linter.unusedVariables false
set_option linter.unusedSimpArgs false
namespace Go.AM
variable {prog : String → Option IFn}
structure UnitD where
  line : Int
  net : Int
  opn : Bool
instance instDecUnitD : DecidableEq UnitD := fun a b =>
  if h : a.line = b.line ∧ (a.net = b.net ∧ a.opn = b.opn) then isTrue (by cases a; cases b; simp only at h; obtain ⟨rfl, rfl, rfl⟩ := h; rfl)
  else isFalse (by rintro rfl; exact h ⟨rfl, rfl, rfl⟩)
def UnitD.cells (x : UnitD) : List AV := [.v (.int .i64 x.line), .v (.int .i64 x.net), .v (.bool x.opn)]
end Go.AM
namespace Go.AM
variable {prog : String → Option IFn}
def lnZ : List Value := [.string ⟨#[]⟩, .int .i64 0, .int .i64 0]
abbrev lineTy : Ty := .fcons .str (.fcons (.int .i64) (.fcons (.int .i64) .fnil))
theorem is_line {cs : List AV} (h : lineTy.Is cs) : ∃ x : LineD, cs = x.cells := by
  obtain ⟨c1, r1, rfl, h1, c2, r2, rfl, h2, c3, r3, rfl, h3, h5⟩ := h
  obtain ⟨s, rfl, hs⟩ := is_str h1
  obtain ⟨n, rfl, hn⟩ := is_i64 h2
  obtain ⟨m, rfl, hm⟩ := is_i64 h3
  exact ⟨⟨s, n, m⟩, by rw [show r3 = [] from h5]; rfl⟩
theorem is_lines {cs : List AV} (h : (Ty.slice lineTy).Is cs) : ∃ a, ∃ xs : List LineD, cs = [a] ∧ (∀ h, TView lnE h a xs) ∧ xs.length ≤ maxLen := by
  rcases h with rfl | ⟨es, rfl, h, hl⟩
  · exact ⟨_, [], rfl, fun h => view_nil' (by decide), by simp⟩
  · obtain ⟨xs, hb⟩ : ∃ xs : List LineD, es = xs.map lnE.E := by
      clear hl
      induction es with
      | nil => exact ⟨[], rfl⟩
      | cons e es ih =>
        obtain ⟨xs, hb⟩ := ih fun x hx => h x (by simp [hx])
        obtain ⟨x, rfl⟩ := is_line (h e (by simp))
        exact ⟨x :: xs, by rw [hb]; rfl⟩
    subst hb
    have e : (xs.map lnE.E).flatten = lnE.row xs := by rw [Enc.row, List.flatMap_def]
    refine ⟨_, xs, rfl, fun h => ?_, by simpa using hl⟩
    rw [e, List.length_map]
    exact view_ro (by decide) (lnE.row_len xs)
def lineP (x : LineD) : LineD := ⟨skuAt (umod (pickV x.sku (min x.sku.length 8)) 8), (umod x.qty 10 : Nat), (umod x.price 4000 : Nat)⟩
def linesP (xs : List LineD) : List LineD := (xs.take 8).map lineP
def linesTo (xs : List LineD) (k : Nat) : List LineD := (xs.take k).map lineP
theorem linesTo_succ {xs : List LineD} {k : Nat} {x} (h : xs[k]? = some x) : linesTo xs (k + 1) = linesTo xs k ++ [lineP x] := by unfold linesTo; rw [take_succ' h]; simp
theorem linesTo_len {xs : List LineD} {k : Nat} (h : k ≤ xs.length) : (linesTo xs k).length = k := by unfold linesTo; simp; omega
theorem linesP_to {xs : List LineD} : linesP xs = linesTo xs (min xs.length 8) := by
  unfold linesP linesTo
  by_cases h : xs.length ≤ 8
  · rw [List.take_of_length_le h, Nat.min_eq_left h, List.take_length]
  · rw [Nat.min_eq_right (by omega)]
theorem linesP_len {xs : List LineD} : (linesP xs).length = min xs.length 8 := by rw [linesP_to, linesTo_len (by omega)]
theorem Lines_spec (H : PlayBase prog) (hf : prog "haberdash/haberdashplay.Lines" = some f_play_Lines) (h64 : prog "haberdash/haberdashplay.Mod64" = some f_play_Mod64) {G a} {xs : List LineD} (v : ∀ L, TView lnE ⟨G, L⟩ a xs) (hl : xs.length ≤ maxLen) :
    Ev prog (.call "haberdash/haberdashplay.Lines" [a] G) (.ret (.own (.o G.length) ((min xs.length 8) * 3) 0 (min xs.length 8) 3 none) (G ++ [some (dBlk (lnE.row (linesP xs)) true (decide (min xs.length 8 = 0)))])) := by
  have na : ∀ ks, noRef ks a = true := fun ks => noRef_out (View.out (v []))
  refine call_of_fin hf ?_
  simp only [f_play_Lines_B, enter, List.length_cons, List.length_nil, List.replicate, Nat.reduceAdd, Nat.reduceSub, List.cons_append, List.nil_append]
  simp (disch := first | (simp only [DS, reduceCtorEq]; done) | omega) only [WS, St.guard, St.put, evalO, reduceCtorEq, reduceIte, Nat.reduceAdd, Nat.reduceEqDiff, new_s, virtBlk_eq, box_s, box_vs, box_vi, box_vb, px_load_l, px_load_o, loadB_s, storeX, storeB_s, alloc_s, lay, whole, Option.join_some, List.drop_zero, List.drop_succ_cons, List.take_succ_cons, List.take_zero, List.drop_nil, List.nil_append, List.cons_append, Nat.reduceLeDiff, Nat.zero_add, and_self, and_true, cells_int, cells_bool, cells_str, cells_string, cells_agg, cells_own, cells_ro, cells_ptr, cells_nil, AV.lf.lfs, AV.lf, px_build, fills, build_string, build_str, build_int, WDR_some, Nat.reduceLeDiff, Nat.le_refl, Bool.and_self, nilv_s]
  refine WC_count (fun k => ⟨f_play_Lines_H0 a (.own (.l 0) (k * 3) 0 k 3 none) (.v (.int .i64 (k : Nat))), ⟨G, [some (dBlk (lnE.row (linesTo xs k)) true (decide (k = 0))), none, none]⟩⟩) (min xs.length 8) ?_ (fun k hk => ?_) ?_
  · exact clear_fre (by simp only [clear_nil, List.foldl_cons, List.foldl_nil, Option.some.injEq, LS, reduceCtorEq, reduceIte, Nat.reduceAdd]; rfl) (by rfl) (by simp only [f_play_Lines_H0, List.all_cons, List.all_nil, noRef_v, noRef_dead, noRef_own, noRef_ptr, noRef_nil, Bool.and_true, Bool.true_and, Bool.and_self, List.contains_cons, List.contains_nil, Bool.or_false, Nat.reduceBEq, Bool.not_false, na]) (by rfl)
  · have h8 : (k : Int) < 8 := by omega
    have hlt' : (k : Int) < (xs.length : Int) := by omega
    have hx : xs[k]? = some xs[k] := List.getElem?_eq_getElem (by omega)
    generalize xs[k] = x at *
    have q := fun L => ln_at (v L) hx
    simp (disch := first | (simp only [DS, reduceCtorEq]; done) | omega) only [f_play_Lines_L0, f_play_Lines_H0, WS, St.guard, St.put, evalO, reduceCtorEq, reduceIte, Nat.reduceAdd, Nat.reduceEqDiff, new_s, virtBlk_eq, box_s, box_vs, box_vi, box_vb, px_load_l, px_load_o, loadB_s, storeX, storeB_s, alloc_s, lay, whole, Option.join_some, List.drop_zero, List.drop_succ_cons, List.take_succ_cons, List.take_zero, List.drop_nil, List.nil_append, List.cons_append, Nat.reduceLeDiff, Nat.zero_add, and_self, and_true, cells_int, cells_bool, cells_str, cells_string, cells_agg, cells_own, cells_ro, cells_ptr, cells_nil, AV.lf.lfs, AV.lf, px_build, fills, build_string, build_str, build_int, WDR_some, Nat.reduceLeDiff, Nat.le_refl, Bool.and_self, (v _).lenSlice, hlt', h8, decide_true, (q _).ix, (q _).f0, (q _).l0]
    refine WDP_r (r := .v (.int .i64 (pickV x.sku (min x.sku.length 8)))) (fun X _ => by exact pick_spec H.pick) rfl (by unfold Good; dsimp only; repeat (first | exact trivial | rw [goodN] | refine ⟨dBlk_good, ?_⟩ | refine goodD (by assumption) ?_ | refine ⟨sBlk_good (by first | rfl | assumption | (simp [AV.labs.labss, AV.labs, refLt]; done)), ?_⟩)) ?_
    simp (disch := first | (simp only [DS, reduceCtorEq]; done) | omega) only [WS, St.guard, St.put, evalO, reduceCtorEq, reduceIte, Nat.reduceAdd, Nat.reduceEqDiff, new_s, virtBlk_eq, box_s, box_vs, box_vi, box_vb, px_load_l, px_load_o, loadB_s, storeX, storeB_s, alloc_s, lay, whole, Option.join_some, List.drop_zero, List.drop_succ_cons, List.take_succ_cons, List.take_zero, List.drop_nil, List.nil_append, List.cons_append, Nat.reduceLeDiff, Nat.zero_add, and_self, and_true, cells_int, cells_bool, cells_str, cells_string, cells_agg, cells_own, cells_ro, cells_ptr, cells_nil, AV.lf.lfs, AV.lf, px_build, fills, build_string, build_str, build_int, WDR_some, Nat.reduceLeDiff, Nat.le_refl, Bool.and_self]
    refine WDP_r (r := .v (str (skuAt (umod (pickV x.sku (min x.sku.length 8)) 8)))) (fun X _ => by exact Sku_spec H.sku H.mod) rfl (by unfold Good; dsimp only; repeat (first | exact trivial | rw [goodN] | refine ⟨dBlk_good, ?_⟩ | refine goodD (by assumption) ?_ | refine ⟨sBlk_good (by first | rfl | assumption | (simp [AV.labs.labss, AV.labs, refLt]; done)), ?_⟩)) ?_
    simp (disch := first | (simp only [DS, reduceCtorEq]; done) | omega) only [WS, St.guard, St.put, evalO, reduceCtorEq, reduceIte, Nat.reduceAdd, Nat.reduceEqDiff, new_s, virtBlk_eq, box_s, box_vs, box_vi, box_vb, px_load_l, px_load_o, loadB_s, storeX, storeB_s, alloc_s, lay, whole, Option.join_some, List.drop_zero, List.drop_succ_cons, List.take_succ_cons, List.take_zero, List.drop_nil, List.nil_append, List.cons_append, Nat.reduceLeDiff, Nat.zero_add, and_self, and_true, cells_int, cells_bool, cells_str, cells_string, cells_agg, cells_own, cells_ro, cells_ptr, cells_nil, AV.lf.lfs, AV.lf, px_build, fills, build_string, build_str, build_int, WDR_some, Nat.reduceLeDiff, Nat.le_refl, Bool.and_self, (q _).ix, (q _).f1, (q _).l1]
    refine WDP_r (r := .v (.int .i64 (umod x.qty 10 : Nat))) (fun X _ => by exact Mod_spec H.mod 10 rfl (by omega) (by omega)) rfl (by unfold Good; dsimp only; repeat (first | exact trivial | rw [goodN] | refine ⟨dBlk_good, ?_⟩ | refine goodD (by assumption) ?_ | refine ⟨sBlk_good (by first | rfl | assumption | (simp [AV.labs.labss, AV.labs, refLt]; done)), ?_⟩)) ?_
    simp (disch := first | (simp only [DS, reduceCtorEq]; done) | omega) only [WS, St.guard, St.put, evalO, reduceCtorEq, reduceIte, Nat.reduceAdd, Nat.reduceEqDiff, new_s, virtBlk_eq, box_s, box_vs, box_vi, box_vb, px_load_l, px_load_o, loadB_s, storeX, storeB_s, alloc_s, lay, whole, Option.join_some, List.drop_zero, List.drop_succ_cons, List.take_succ_cons, List.take_zero, List.drop_nil, List.nil_append, List.cons_append, Nat.reduceLeDiff, Nat.zero_add, and_self, and_true, cells_int, cells_bool, cells_str, cells_string, cells_agg, cells_own, cells_ro, cells_ptr, cells_nil, AV.lf.lfs, AV.lf, px_build, fills, build_string, build_str, build_int, WDR_some, Nat.reduceLeDiff, Nat.le_refl, Bool.and_self, (q _).ix, (q _).f2, (q _).l2]
    refine WDP_r (r := .v (.int .i64 (umod x.price 4000 : Nat))) (fun X _ => by exact Mod64_spec h64 4000 rfl (by omega) (by omega)) rfl (by unfold Good; dsimp only; repeat (first | exact trivial | rw [goodN] | refine ⟨dBlk_good, ?_⟩ | refine goodD (by assumption) ?_ | refine ⟨sBlk_good (by first | rfl | assumption | (simp [AV.labs.labss, AV.labs, refLt]; done)), ?_⟩)) ?_
    simp (disch := first | (simp only [DS, reduceCtorEq]; done) | omega) only [WS, St.guard, St.put, evalO, reduceCtorEq, reduceIte, Nat.reduceAdd, Nat.reduceEqDiff, new_s, virtBlk_eq, box_s, box_vs, box_vi, box_vb, px_load_l, px_load_o, loadB_s, storeX, storeB_s, alloc_s, lay, whole, Option.join_some, List.drop_zero, List.drop_succ_cons, List.take_succ_cons, List.take_zero, List.drop_nil, List.nil_append, List.cons_append, Nat.reduceLeDiff, Nat.zero_add, and_self, and_true, cells_int, cells_bool, cells_str, cells_string, cells_agg, cells_own, cells_ro, cells_ptr, cells_nil, AV.lf.lfs, AV.lf, px_build, fills, build_string, build_str, build_int, WDR_some, Nat.reduceLeDiff, Nat.le_refl, Bool.and_self]
    have hb : ∀ L, L[1]? = some none → prim ⟨G, L⟩ (.buildSlice 1 false 3 1 [.string ⟨#[]⟩, .int .i64 0, .int .i64 0] [(0, 3)]) [.agg [.v (str (skuAt (umod (pickV x.sku (min x.sku.length 8)) 8))), .v (.int .i64 (umod x.qty 10 : Nat)), .v (.int .i64 (umod x.price 4000 : Nat))]] =
        some (.own (.l 1) 3 0 1 3 (some 1), ⟨G, L.set 1 (some (dBlk (lineP x).cells false false))⟩) := fun L hL => build_T (T := lnE) (zs := lnZ) (x := lineP x) rfl hL
    have ha : prim ⟨G, [some (dBlk (lnE.row (linesTo xs k)) true (decide (k = 0))), some (dBlk (lineP x).cells false false), none]⟩ (.append 2 false 3 32) [.own (.l 0) (k * 3) 0 k 3 none, .own (.l 1) 3 0 1 3 (some 1)] =
        some (.own (.l 0) ((k + 1) * 3) 0 (k + 1) 3 none, ⟨G, [some (dBlk (lnE.row (linesTo xs (k + 1))) true false), some (dBlk (lineP x).cells false false), none]⟩) := by
      have := append_T (T := lnE) (site := 2) (j := 0) (m := 1) (bytes := 32) (xs := linesTo xs k) (x := lineP x) (cap := some 1) (G := G) (L := [some (dBlk (lnE.row (linesTo xs k)) true (decide (k = 0))), some (dBlk (lineP x).cells false false), none]) rfl rfl (by rw [linesTo_len (by omega)]; unfold room; omega) (by simp)
      rw [linesTo_len (by omega), ← linesTo_succ hx] at this
      exact this
    refine WDP_er (by unfold Good; dsimp only; repeat (first | exact trivial | rw [goodN] | refine ⟨dBlk_good, ?_⟩ | refine goodD (by assumption) ?_ | refine ⟨sBlk_good (by first | rfl | assumption | (simp [AV.labs.labss, AV.labs, refLt]; done)), ?_⟩)) rfl ?_
    simp (disch := first | (simp only [DS, reduceCtorEq]; done) | omega) only [WDX_some, reduceIte, if_true, if_false, Bool.and_true, Bool.true_and, true_and, Bool.false_eq_true, false_or, true_or, Hp.over, AM.over, over_nil, List.foldl_cons, List.foldl_nil, List.set_cons_zero, List.set_cons_succ, List.getElem?_cons_zero, List.getElem?_cons_succ, Option.join_some, List.length_cons, List.length_nil, Prim.sites, List.cons_append, List.nil_append, hb]
    refine ⟨⟨rfl, (by unfold Good; dsimp only; repeat (first | exact trivial | rw [goodN] | refine ⟨dBlk_good, ?_⟩ | refine goodD (by assumption) ?_ | refine ⟨sBlk_good (by first | rfl | assumption | (simp [AV.labs.labss, AV.labs, refLt]; done)), ?_⟩))⟩, ?_⟩
    simp (disch := first | (simp only [DS, reduceCtorEq]; done) | omega) only [WS, St.guard, St.put, evalO, reduceCtorEq, reduceIte, Nat.reduceAdd, Nat.reduceEqDiff, new_s, virtBlk_eq, box_s, box_vs, box_vi, box_vb, px_load_l, px_load_o, loadB_s, storeX, storeB_s, alloc_s, lay, whole, Option.join_some, List.drop_zero, List.drop_succ_cons, List.take_succ_cons, List.take_zero, List.drop_nil, List.nil_append, List.cons_append, Nat.reduceLeDiff, Nat.zero_add, and_self, and_true, cells_int, cells_bool, cells_str, cells_string, cells_agg, cells_own, cells_ro, cells_ptr, cells_nil, AV.lf.lfs, AV.lf, px_build, fills, build_string, build_str, build_int, WDR_some, Nat.reduceLeDiff, Nat.le_refl, Bool.and_self]
    refine WDP_er (by unfold Good; dsimp only; repeat (first | exact trivial | rw [goodN] | refine ⟨dBlk_good, ?_⟩ | refine goodD (by assumption) ?_ | refine ⟨sBlk_good (by first | rfl | assumption | (simp [AV.labs.labss, AV.labs, refLt]; done)), ?_⟩)) rfl ?_
    simp (disch := first | (simp only [DS, reduceCtorEq]; done) | omega) only [WDX_some, reduceIte, if_true, if_false, Bool.and_true, Bool.true_and, true_and, Bool.false_eq_true, false_or, true_or, Hp.over, AM.over, over_nil, List.foldl_cons, List.foldl_nil, List.set_cons_zero, List.set_cons_succ, List.getElem?_cons_zero, List.getElem?_cons_succ, Option.join_some, List.length_cons, List.length_nil, Prim.sites, List.cons_append, List.nil_append, ha]
    refine ⟨⟨rfl, (by unfold Good; dsimp only; repeat (first | exact trivial | rw [goodN] | refine ⟨dBlk_good, ?_⟩ | refine goodD (by assumption) ?_ | refine ⟨sBlk_good (by first | rfl | assumption | (simp [AV.labs.labss, AV.labs, refLt]; done)), ?_⟩))⟩, ?_⟩
    simp (disch := first | (simp only [DS, reduceCtorEq]; done) | omega) only [WS, St.guard, St.put, evalO, reduceCtorEq, reduceIte, Nat.reduceAdd, Nat.reduceEqDiff, new_s, virtBlk_eq, box_s, box_vs, box_vi, box_vb, px_load_l, px_load_o, loadB_s, storeX, storeB_s, alloc_s, lay, whole, Option.join_some, List.drop_zero, List.drop_succ_cons, List.take_succ_cons, List.take_zero, List.drop_nil, List.nil_append, List.cons_append, Nat.reduceLeDiff, Nat.zero_add, and_self, and_true, cells_int, cells_bool, cells_str, cells_string, cells_agg, cells_own, cells_ro, cells_ptr, cells_nil, AV.lf.lfs, AV.lf, px_build, fills, build_string, build_str, build_int, WDR_some, Nat.reduceLeDiff, Nat.le_refl, Bool.and_self, vBin_add_i64]
    exact clear_fre (by simp only [clear_nil, List.foldl_cons, List.foldl_nil, Option.some.injEq, LS, reduceCtorEq, reduceIte, Nat.reduceAdd]; rfl) (by rfl) (by simp only [f_play_Lines_H0, List.all_cons, List.all_nil, noRef_v, noRef_dead, noRef_own, noRef_ptr, noRef_nil, Bool.and_true, Bool.true_and, Bool.and_self, List.contains_cons, List.contains_nil, Bool.or_false, Nat.reduceBEq, Bool.not_false, na]) (by rfl)
  · have fin1 : (⟨G, [some (dBlk (lnE.row (linesTo xs (min xs.length 8))) true (decide (min xs.length 8 = 0))), none, none]⟩ : Hp).leave (.own (.l 0) (min xs.length 8 * 3) 0 (min xs.length 8) 3 none) = some (.own (.o G.length) ((min xs.length 8) * 3) 0 (min xs.length 8) 3 none, G ++ [some (dBlk (lnE.row (linesP xs)) true (decide (min xs.length 8 = 0)))]) := by
      rw [leave_own1 (b := dBlk (lnE.row (linesTo xs (min xs.length 8))) true (decide (min xs.length 8 = 0))) (by rfl) (by rfl), linesP_to]
    by_cases h8 : xs.length < 8
    · have e1 : ¬ (((min xs.length 8 : Nat) : Int) < (xs.length : Int)) := by omega
      simp (disch := first | (simp only [DS, reduceCtorEq]; done) | omega) only [f_play_Lines_L0, f_play_Lines_H0, WS, St.guard, St.put, evalO, reduceCtorEq, reduceIte, Nat.reduceAdd, Nat.reduceEqDiff, new_s, virtBlk_eq, box_s, box_vs, box_vi, box_vb, px_load_l, px_load_o, loadB_s, storeX, storeB_s, alloc_s, lay, whole, Option.join_some, List.drop_zero, List.drop_succ_cons, List.take_succ_cons, List.take_zero, List.drop_nil, List.nil_append, List.cons_append, Nat.reduceLeDiff, Nat.zero_add, and_self, and_true, cells_int, cells_bool, cells_str, cells_string, cells_agg, cells_own, cells_ro, cells_ptr, cells_nil, AV.lf.lfs, AV.lf, px_build, fills, build_string, build_str, build_int, WDR_some, Nat.reduceLeDiff, Nat.le_refl, Bool.and_self, (v _).lenSlice, e1, decide_false, fin_tmp]
      exact ⟨by simp, fin1⟩
    · by_cases h9 : xs.length = 8
      · have e1 : ¬ (((min xs.length 8 : Nat) : Int) < (xs.length : Int)) := by omega
        simp (disch := first | (simp only [DS, reduceCtorEq]; done) | omega) only [f_play_Lines_L0, f_play_Lines_H0, WS, St.guard, St.put, evalO, reduceCtorEq, reduceIte, Nat.reduceAdd, Nat.reduceEqDiff, new_s, virtBlk_eq, box_s, box_vs, box_vi, box_vb, px_load_l, px_load_o, loadB_s, storeX, storeB_s, alloc_s, lay, whole, Option.join_some, List.drop_zero, List.drop_succ_cons, List.take_succ_cons, List.take_zero, List.drop_nil, List.nil_append, List.cons_append, Nat.reduceLeDiff, Nat.zero_add, and_self, and_true, cells_int, cells_bool, cells_str, cells_string, cells_agg, cells_own, cells_ro, cells_ptr, cells_nil, AV.lf.lfs, AV.lf, px_build, fills, build_string, build_str, build_int, WDR_some, Nat.reduceLeDiff, Nat.le_refl, Bool.and_self, (v _).lenSlice, e1, decide_false, fin_tmp]
        exact ⟨by simp, fin1⟩
      · have e1 : ((min xs.length 8 : Nat) : Int) < (xs.length : Int) := by omega
        have e2 : ¬ (((min xs.length 8 : Nat) : Int) < 8) := by omega
        simp (disch := first | (simp only [DS, reduceCtorEq]; done) | omega) only [f_play_Lines_L0, f_play_Lines_H0, WS, St.guard, St.put, evalO, reduceCtorEq, reduceIte, Nat.reduceAdd, Nat.reduceEqDiff, new_s, virtBlk_eq, box_s, box_vs, box_vi, box_vb, px_load_l, px_load_o, loadB_s, storeX, storeB_s, alloc_s, lay, whole, Option.join_some, List.drop_zero, List.drop_succ_cons, List.take_succ_cons, List.take_zero, List.drop_nil, List.nil_append, List.cons_append, Nat.reduceLeDiff, Nat.zero_add, and_self, and_true, cells_int, cells_bool, cells_str, cells_string, cells_agg, cells_own, cells_ro, cells_ptr, cells_nil, AV.lf.lfs, AV.lf, px_build, fills, build_string, build_str, build_int, WDR_some, Nat.reduceLeDiff, Nat.le_refl, Bool.and_self, (v _).lenSlice, e1, e2, decide_true, decide_false, fin_tmp]
        exact ⟨by simp, fin1⟩
end Go.AM
