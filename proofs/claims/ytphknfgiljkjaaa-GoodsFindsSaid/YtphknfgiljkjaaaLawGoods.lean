import Derived.Test.YtphknfgiljkjaaaGoodsA
set_option linter.unusedVariables false
set_option linter.unusedSimpArgs false
/- The laws of goods: names; whether any list may be. -/
namespace Go.AM
variable {prog : String → Option IFn}

/-- The first letters. -/
def lets : Nat → Txt
  | 0 => []
  | m + 1 => lets m ++ skuN m
theorem lets_len : ∀ m, (lets m).length = m
  | 0 => rfl
  | m + 1 => by rw [lets, List.length_append, lets_len m]; rfl
theorem skuN_ok (m : Nat) : (skuN m).all nameB = true := by
  have h : ∀ k : Fin 8, (skuAt k.val).all nameB = true := by decide
  exact h ⟨umod (m : Int) 8, umod_lt (by omega)⟩
theorem lets_all : ∀ m, (lets m).all nameB = true
  | 0 => rfl
  | m + 1 => by rw [lets, List.all_append, lets_all m, skuN_ok]; rfl
theorem lets_ok (m : Nat) : nameOK (lets m) = (decide (1 ≤ m) && decide (m ≤ 12)) := by unfold nameOK; rw [lets_all, lets_len, Bool.and_true]

theorem GoodsNames_law (H : Law10 prog) (hp : prog "haberdash/haberdashlaw10.GoodsNames" = some f_law10_GoodsNames) {as} (h : IsAll [.str, (.int .i64), (.int .i64), (.int .u8)] as) :
    ∃ G2, Ev prog (.call "haberdash/haberdashlaw10.GoodsNames" as []) (.ret (.v (.bool true)) G2) := by
  rcases as with _ | ⟨a0, _ | ⟨a1, _ | ⟨a2, _ | ⟨a3, _ | _⟩⟩⟩⟩ <;> try (simp [IsAll] at h; done)
  obtain ⟨⟨c0', h0, rfl⟩, ⟨c1', h1, rfl⟩, ⟨c2', h2, rfl⟩, ⟨c3', h3, rfl⟩, _⟩ := h
  obtain ⟨s, rfl, hs⟩ := is_str h0
  obtain ⟨c1, rfl, hc1⟩ := is_i64 h1
  obtain ⟨c2, rfl, hc2⟩ := is_i64 h2
  obtain ⟨c3, rfl⟩ := is_u8 h3
  refine ⟨[], call_of_fin hp ?_⟩
  simp only [f_law10_GoodsNames_B, enter, List.length_cons, List.length_nil, List.replicate, Nat.reduceAdd, Nat.reduceSub, List.cons_append, List.nil_append, Ty.arg, intAV]
  simp (disch := first | (simp only [ne_eq, reduceCtorEq, not_false_eq_true, implies_true, List.getElem?_cons_zero, List.getElem?_cons_succ]; done) | omega) only [WS, St.guard, St.put, evalO, reduceCtorEq, reduceIte, Nat.reduceAdd, Nat.reduceEqDiff, new_s, virtBlk_eq, box_s, box_vs, box_vi, box_vb, px_load_l, px_load_o, loadB_s, storeX, storeB_s, alloc_s, lay, whole, Option.join_some, List.drop_zero, List.drop_succ_cons, List.take_succ_cons, List.take_zero, List.drop_nil, List.nil_append, List.cons_append, Nat.reduceLeDiff, Nat.zero_add, and_self, and_true, cells_int, cells_bool, cells_str, cells_string, cells_agg, cells_own, cells_ro, cells_ptr, cells_nil, AV.lf.lfs, AV.lf, px_build, fills, build_string, build_str, build_int, WDR_some, Nat.reduceLeDiff, Nat.le_refl, Bool.and_self]
  obtain ⟨m, hm⟩ : ∃ m, m = umod c1 15 := ⟨_, rfl⟩
  have hm15 : m < 15 := by rw [hm]; exact umod_lt (by omega)
  have gn : Good ⟨[], [none]⟩ := trivial
  refine WC_count (fun i => ⟨f_law10_GoodsNames_H0 (.v (str s)) (.v (.int .i64 c1)) (.v (.int .i64 c2)) (byteAV c3) (.v (str (lets i))) (.v (.int .i64 (i : Nat))), ⟨[], [none]⟩⟩) m ?_ (fun i hi => ?_) ?_
  · simp only [clear_nil, List.foldl_cons, List.foldl_nil, Option.some.injEq, List.map_cons, List.map_nil, List.getD_cons_zero, List.getD_cons_succ, List.set_cons_zero, List.set_cons_succ, Option.map_some, Option.bind_some, ne_eq, reduceCtorEq, not_false_eq_true, implies_true, beq_self_eq_true, BEq.rfl, if_true, if_false, Bool.false_eq_true, not_true_eq_false, Option.some.injEq, reduceIte, Bool.not_true, Bool.not_false, beq_true, beq_false, Bool.true_and, Bool.and_true, Bool.false_and, Bool.and_false, true_and, List.getElem?_cons_zero, List.getElem?_cons_succ, List.length_cons, List.length_nil, Nat.reduceAdd]; rfl
  · have hlt' : (i : Int) < (m : Int) := by omega
    simp (disch := first | (simp only [ne_eq, reduceCtorEq, not_false_eq_true, implies_true, List.getElem?_cons_zero, List.getElem?_cons_succ]; done) | omega) only [f_law10_GoodsNames_L0, f_law10_GoodsNames_H0, WS, St.guard, St.put, evalO, reduceCtorEq, reduceIte, Nat.reduceAdd, Nat.reduceEqDiff]
    refine (WP_p (x := .int .i64 (umod c1 15 : Nat)) (by exact Mod_spec H.play.mod 15 rfl (by omega) (by omega)) gn).2 ?_
    rw [← hm]
    simp (disch := first | (simp only [ne_eq, reduceCtorEq, not_false_eq_true, implies_true, List.getElem?_cons_zero, List.getElem?_cons_succ]; done) | omega) only [WS, St.guard, St.put, evalO, reduceCtorEq, reduceIte, Nat.reduceAdd, Nat.reduceEqDiff, hlt', decide_true]
    refine (WP_p (x := str (skuN i)) (by exact Sku_spec H.play.sku H.play.mod) gn).2 ?_
    have hl1 : (lets i).length = i := lets_len i
    have hl2 : (skuN i).length = 1 := rfl
    simp (disch := first | (simp only [ne_eq, reduceCtorEq, not_false_eq_true, implies_true, List.getElem?_cons_zero, List.getElem?_cons_succ]; done) | omega) only [WS, St.guard, St.put, evalO, reduceCtorEq, reduceIte, Nat.reduceAdd, Nat.reduceEqDiff, vBin_add_str, vBin_add_i64, clear_nil, List.foldl_cons, List.foldl_nil, Option.some.injEq]
    rfl
  · simp (disch := first | (simp only [ne_eq, reduceCtorEq, not_false_eq_true, implies_true, List.getElem?_cons_zero, List.getElem?_cons_succ]; done) | omega) only [f_law10_GoodsNames_L0, f_law10_GoodsNames_H0, WS, St.guard, St.put, evalO, reduceCtorEq, reduceIte, Nat.reduceAdd, Nat.reduceEqDiff]
    refine (WP_p (x := .int .i64 (umod c1 15 : Nat)) (by exact Mod_spec H.play.mod 15 rfl (by omega) (by omega)) gn).2 ?_
    rw [← hm]
    have el : ((lets m).length : Int) + 1 = ((m + 1 : Nat) : Int) := by rw [lets_len]; rfl
    simp (disch := first | (simp only [ne_eq, reduceCtorEq, not_false_eq_true, implies_true, List.getElem?_cons_zero, List.getElem?_cons_succ]; done) | omega) only [WS, St.guard, St.put, evalO, reduceCtorEq, reduceIte, Nat.reduceAdd, Nat.reduceEqDiff, decide_false, lenStr_str, vBin_add_i64, el]
    obtain ⟨k, hk⟩ : ∃ k, k = umod c2 (m + 1) := ⟨_, rfl⟩
    have hk1 : k < m + 1 := by rw [hk]; exact umod_lt (by omega)
    refine (WP_p (x := .int .i64 (umod c2 (m + 1) : Nat)) (by exact Mod_spec H.play.mod (m + 1) rfl (by omega) (by omega)) gn).2 ?_
    rw [← hk]
    have hlm := lets_len m
    have hle : k ≤ (lets m).length := by omega
    simp (disch := first | (simp only [ne_eq, reduceCtorEq, not_false_eq_true, implies_true, List.getElem?_cons_zero, List.getElem?_cons_succ]; done) | omega) only [WS, St.guard, St.put, evalO, reduceCtorEq, reduceIte, Nat.reduceAdd, Nat.reduceEqDiff, sliceStr_hi hle]
    refine WDP_er gn rfl ?_
    simp (disch := first | (simp only [ne_eq, reduceCtorEq, not_false_eq_true, implies_true, List.getElem?_cons_zero, List.getElem?_cons_succ]; done) | omega) only [WDX_some, reduceIte, if_true, if_false, Bool.and_true, Bool.true_and, true_and, Bool.false_eq_true, false_or, true_or, Hp.over, AM.over, over_nil, List.foldl_cons, List.foldl_nil, List.set_cons_zero, List.set_cons_succ, List.getElem?_cons_zero, List.getElem?_cons_succ, Option.join_some, List.length_cons, List.length_nil, Prim.sites, List.cons_append, List.nil_append, byteAV, build_int]
    refine ⟨⟨rfl, (by unfold Good; dsimp only; repeat (first | exact trivial | rw [goodN] | refine ⟨dBlk_good, ?_⟩ | refine goodD (by assumption) ?_ | refine ⟨sBlk_good (by first | rfl | assumption | (simp [AV.labs.labss, AV.labs, refLt]; done)), ?_⟩))⟩, ?_⟩
    have hv : View ⟨[], [some (dBlk [.v (.int .u8 (c3.toNat : Int))] false false)]⟩ (.own (.l 0) 1 0 1 1 (some 1)) 1 [c3].length ([c3].map byteAV) := own_view1 (j := 0) rfl rfl (by simp)
    simp (disch := first | (simp only [ne_eq, reduceCtorEq, not_false_eq_true, implies_true, List.getElem?_cons_zero, List.getElem?_cons_succ]; done) | omega) only [WS, St.guard, St.put, evalO, reduceCtorEq, reduceIte, Nat.reduceAdd, Nat.reduceEqDiff]
    refine WDP_er (by unfold Good; dsimp only; repeat (first | exact trivial | rw [goodN] | refine ⟨dBlk_good, ?_⟩ | refine goodD (by assumption) ?_ | refine ⟨sBlk_good (by first | rfl | assumption | (simp [AV.labs.labss, AV.labs, refLt]; done)), ?_⟩)) rfl ?_
    simp (disch := first | (simp only [ne_eq, reduceCtorEq, not_false_eq_true, implies_true, List.getElem?_cons_zero, List.getElem?_cons_succ]; done) | omega) only [WDX_some, reduceIte, if_true, if_false, Bool.and_true, Bool.true_and, true_and, Bool.false_eq_true, false_or, true_or, Hp.over, AM.over, over_nil, List.foldl_cons, List.foldl_nil, List.set_cons_zero, List.set_cons_succ, List.getElem?_cons_zero, List.getElem?_cons_succ, Option.join_some, List.length_cons, List.length_nil, Prim.sites, List.cons_append, List.nil_append]
    rw [hv.bytesStr]
    simp (disch := first | (simp only [ne_eq, reduceCtorEq, not_false_eq_true, implies_true, List.getElem?_cons_zero, List.getElem?_cons_succ]; done) | omega) only [WDX_some, reduceIte, if_true, if_false, Bool.and_true, Bool.true_and, true_and, Bool.false_eq_true, false_or, true_or, Hp.over, AM.over, over_nil, List.foldl_cons, List.foldl_nil, List.set_cons_zero, List.set_cons_succ, List.getElem?_cons_zero, List.getElem?_cons_succ, Option.join_some, List.length_cons, List.length_nil, Prim.sites, List.cons_append, List.nil_append]
    refine ⟨⟨rfl, (by unfold Good; dsimp only; repeat (first | exact trivial | rw [goodN] | refine ⟨dBlk_good, ?_⟩ | refine goodD (by assumption) ?_ | refine ⟨sBlk_good (by first | rfl | assumption | (simp [AV.labs.labss, AV.labs, refLt]; done)), ?_⟩))⟩, ?_⟩
    have ht1 : ((lets m).take k).length + [c3].length ≤ 9223372036854775807 := by rw [List.length_take]; simp; omega
    have ht2 : ((lets m).take k ++ [c3]).length + ((lets m).drop k).length ≤ 9223372036854775807 := by simp; omega
    simp (disch := first | (simp only [ne_eq, reduceCtorEq, not_false_eq_true, implies_true, List.getElem?_cons_zero, List.getElem?_cons_succ]; done) | omega) only [WS, St.guard, St.put, evalO, reduceCtorEq, reduceIte, Nat.reduceAdd, Nat.reduceEqDiff, vBin_add_str ht1, sliceStr_lo hle, vBin_add_str ht2]
    obtain ⟨u, hu⟩ : ∃ u : Txt, u = (lets m).take k ++ [c3] ++ (lets m).drop k := ⟨_, rfl⟩
    have hul : u.length ≤ 9223372036854775807 := by rw [hu]; simp; omega
    rw [← hu]
    have gd : Good ⟨[], [some (dBlk [.v (.int .u8 (c3.toNat : Int))] false false)]⟩ := (by unfold Good; dsimp only; repeat (first | exact trivial | rw [goodN] | refine ⟨dBlk_good, ?_⟩ | refine goodD (by assumption) ?_ | refine ⟨sBlk_good (by first | rfl | assumption | (simp [AV.labs.labss, AV.labs, refLt]; done)), ?_⟩))
    refine (WP_p (x := .bool true) (by exact awake10 H (.inl rfl)) gd).2 ?_
    simp (disch := first | (simp only [ne_eq, reduceCtorEq, not_false_eq_true, implies_true, List.getElem?_cons_zero, List.getElem?_cons_succ]; done) | omega) only [WS, St.guard, St.put, evalO, reduceCtorEq, reduceIte, Nat.reduceAdd, Nat.reduceEqDiff]
    refine (WP_p (x := .bool (nameOK s)) (by exact goodsName_spec H.name) gd).2 ?_
    simp (disch := first | (simp only [ne_eq, reduceCtorEq, not_false_eq_true, implies_true, List.getElem?_cons_zero, List.getElem?_cons_succ]; done) | omega) only [WS, St.guard, St.put, evalO, reduceCtorEq, reduceIte, Nat.reduceAdd, Nat.reduceEqDiff]
    refine (WP_p (x := .bool (nameOK s)) (by exact refName_spec H.rname hs) gd).2 ?_
    simp (disch := first | (simp only [ne_eq, reduceCtorEq, not_false_eq_true, implies_true, List.getElem?_cons_zero, List.getElem?_cons_succ]; done) | omega) only [WS, St.guard, St.put, evalO, reduceCtorEq, reduceIte, Nat.reduceAdd, Nat.reduceEqDiff]
    refine (WP_p (x := .bool (nameOK (lets m))) (by exact goodsName_spec H.name) gd).2 ?_
    simp (disch := first | (simp only [ne_eq, reduceCtorEq, not_false_eq_true, implies_true, List.getElem?_cons_zero, List.getElem?_cons_succ]; done) | omega) only [WS, St.guard, St.put, evalO, reduceCtorEq, reduceIte, Nat.reduceAdd, Nat.reduceEqDiff, lenStr_str, hlm, lets_ok]
    have d1 : decide (1 ≤ m) = decide ((m : Int) ≥ 1) := by rw [decide_eq_decide]; omega
    have d2 : decide (m ≤ 12) = decide ((m : Int) ≤ 12) := by rw [decide_eq_decide]; omega
    rw [d1, d2]
    have hb : ∀ b : Bool, (b == b) = true := fun b => by cases b <;> rfl
    by_cases hm1 : (m : Int) ≥ 1
    · simp (disch := first | (simp only [ne_eq, reduceCtorEq, not_false_eq_true, implies_true, List.getElem?_cons_zero, List.getElem?_cons_succ]; done) | omega) only [WS, St.guard, St.put, evalO, reduceCtorEq, reduceIte, Nat.reduceAdd, Nat.reduceEqDiff, lenStr_str, hlm, hm1, decide_true, hb]
      refine (WP_p (x := .bool (nameOK u)) (by exact goodsName_spec H.name) gd).2 ?_
      simp (disch := first | (simp only [ne_eq, reduceCtorEq, not_false_eq_true, implies_true, List.getElem?_cons_zero, List.getElem?_cons_succ]; done) | omega) only [WS, St.guard, St.put, evalO, reduceCtorEq, reduceIte, Nat.reduceAdd, Nat.reduceEqDiff]
      refine (WP_p (x := .bool (nameOK u)) (by exact refName_spec H.rname hul) gd).2 ?_
      simp (disch := first | (simp only [ne_eq, reduceCtorEq, not_false_eq_true, implies_true, List.getElem?_cons_zero, List.getElem?_cons_succ]; done) | omega) only [WS, St.guard, St.put, evalO, reduceCtorEq, reduceIte, Nat.reduceAdd, Nat.reduceEqDiff, hb, fin_tmp, leave_v]
      simp
    · simp (disch := first | (simp only [ne_eq, reduceCtorEq, not_false_eq_true, implies_true, List.getElem?_cons_zero, List.getElem?_cons_succ]; done) | omega) only [WS, St.guard, St.put, evalO, reduceCtorEq, reduceIte, Nat.reduceAdd, Nat.reduceEqDiff, lenStr_str, hlm, hm1, decide_false, hb]
      refine (WP_p (x := .bool (nameOK u)) (by exact goodsName_spec H.name) gd).2 ?_
      simp (disch := first | (simp only [ne_eq, reduceCtorEq, not_false_eq_true, implies_true, List.getElem?_cons_zero, List.getElem?_cons_succ]; done) | omega) only [WS, St.guard, St.put, evalO, reduceCtorEq, reduceIte, Nat.reduceAdd, Nat.reduceEqDiff]
      refine (WP_p (x := .bool (nameOK u)) (by exact refName_spec H.rname hul) gd).2 ?_
      simp (disch := first | (simp only [ne_eq, reduceCtorEq, not_false_eq_true, implies_true, List.getElem?_cons_zero, List.getElem?_cons_succ]; done) | omega) only [WS, St.guard, St.put, evalO, reduceCtorEq, reduceIte, Nat.reduceAdd, Nat.reduceEqDiff, hb, fin_tmp, leave_v]
      simp
end Go.AM

/- The laws of goods: whether any list may be. -/
namespace Go.AM
variable {prog : String → Option IFn}

theorem ownCells_view {α : Type} {T : Enc α} {G L} {j : Nat} {xs : List α} {x0 : α} {o v : Bool} (hL : L[j]? = some (some (dBlk (ownCells T xs x0) o v))) :
    TView T ⟨G, L⟩ (.own (.l j) ((xs.length + 3) * T.esz) 0 xs.length T.esz (some (xs.length + 3))) xs := by
  refine ⟨rfl, ?_, T.row_len xs, rfl, by simp [capOK], T.pos⟩
  simp only [Hp.sees, Hp.get, hL, Option.join_some, dBlk_cells, ownCells_len, if_true, List.drop_zero]
  rw [ownCells, T.row_append, List.take_append_of_le_length (by rw [T.row_len]; exact Nat.le_refl _), List.take_of_length_le (by rw [T.row_len]; exact Nat.le_refl _)]
theorem itemAt_sku {xs k} : (itemAt xs k).sku = skuN k := by unfold itemAt; split <;> rfl
theorem itemAt_cat {xs k} : ∃ m, m < 3 ∧ (itemAt xs k).cat = catAt m := by
  unfold itemAt
  split
  · exact ⟨_, umod_lt (by omega), rfl⟩
  · exact ⟨_, umod_lt (by omega), rfl⟩
theorem itemsP_small {xs} : smallI (itemsP xs) := fun x hx => by
  obtain ⟨k, hk, rfl⟩ := List.mem_map.1 hx
  obtain ⟨m, _, hm⟩ := itemAt_cat (xs := xs) (k := k)
  rw [itemAt_sku, hm]
  exact ⟨by show 1 ≤ _; omega, by show 1 ≤ _; omega⟩
theorem itemsP_len {xs} : (itemsP xs).length = 8 := by simp [itemsP]
def spoilt : ItemD := ⟨[115, 112, 111, 105, 108, 116], [], 0, false⟩

theorem GoodsRight_law (H : Law10 prog) (hp : prog "haberdash/haberdashlaw10.GoodsRight" = some f_law10_GoodsRight) {as} (h : IsAll [.slice itemTy, .bool, .str] as) :
    ∃ G2, Ev prog (.call "haberdash/haberdashlaw10.GoodsRight" as []) (.ret (.v (.bool true)) G2) := by
  rcases as with _ | ⟨a0, _ | ⟨a1, _ | ⟨a2, _ | _⟩⟩⟩ <;> try (simp [IsAll] at h; done)
  obtain ⟨⟨c0', h0, rfl⟩, ⟨c1', h1, rfl⟩, ⟨c2', h2, rfl⟩, _⟩ := h
  obtain ⟨a, xs, rfl, va, hl, hsm⟩ := is_itemsS h0
  obtain ⟨near, rfl⟩ := h1
  obtain ⟨s, rfl, hs⟩ := is_str h2
  refine ⟨[], call_of_fin hp ?_⟩
  have gn : Good ⟨[], [none, none]⟩ := trivial
  simp only [f_law10_GoodsRight_B, enter, List.length_cons, List.length_nil, List.replicate, Nat.reduceAdd, Nat.reduceSub, List.cons_append, List.nil_append, Ty.arg, intAV]
  simp (disch := first | (simp only [ne_eq, reduceCtorEq, not_false_eq_true, implies_true, List.getElem?_cons_zero, List.getElem?_cons_succ]; done) | omega) only [WS, St.guard, St.put, evalO, reduceCtorEq, reduceIte, Nat.reduceAdd, Nat.reduceEqDiff, new_s, virtBlk_eq, box_s, box_vs, box_vi, box_vb, px_load_l, px_load_o, loadB_s, storeX, storeB_s, alloc_s, lay, whole, Option.join_some, List.drop_zero, List.drop_succ_cons, List.take_succ_cons, List.take_zero, List.drop_nil, List.nil_append, List.cons_append, Nat.reduceLeDiff, Nat.zero_add, and_self, and_true, cells_int, cells_bool, cells_str, cells_string, cells_agg, cells_own, cells_ro, cells_ptr, cells_nil, AV.lf.lfs, AV.lf, px_build, fills, build_string, build_str, build_int, WDR_some, Nat.reduceLeDiff, Nat.le_refl, Bool.and_self, (va _).lenSlice]
  by_cases h60 : (xs.length : Int) > 60
  · simp (disch := first | (simp only [ne_eq, reduceCtorEq, not_false_eq_true, implies_true, List.getElem?_cons_zero, List.getElem?_cons_succ]; done) | omega) only [WS, St.guard, St.put, evalO, reduceCtorEq, reduceIte, Nat.reduceAdd, Nat.reduceEqDiff, h60, decide_true]
    refine (WP_p (x := .bool true) (by exact awake10 H (.inr (.inl rfl))) gn).2 ?_
    simp (disch := first | (simp only [ne_eq, reduceCtorEq, not_false_eq_true, implies_true, List.getElem?_cons_zero, List.getElem?_cons_succ]; done) | omega) only [WS, St.guard, St.put, evalO, reduceCtorEq, reduceIte, Nat.reduceAdd, Nat.reduceEqDiff, fin_tmp, leave_v]
    simp
  simp (disch := first | (simp only [ne_eq, reduceCtorEq, not_false_eq_true, implies_true, List.getElem?_cons_zero, List.getElem?_cons_succ]; done) | omega) only [WS, St.guard, St.put, evalO, reduceCtorEq, reduceIte, Nat.reduceAdd, Nat.reduceEqDiff, new_s, virtBlk_eq, box_s, box_vs, box_vi, box_vb, px_load_l, px_load_o, loadB_s, storeX, storeB_s, alloc_s, lay, whole, Option.join_some, List.drop_zero, List.drop_succ_cons, List.take_succ_cons, List.take_zero, List.drop_nil, List.nil_append, List.cons_append, Nat.reduceLeDiff, Nat.zero_add, and_self, and_true, cells_int, cells_bool, cells_str, cells_string, cells_agg, cells_own, cells_ro, cells_ptr, cells_nil, AV.lf.lfs, AV.lf, px_build, fills, build_string, build_str, build_int, WDR_some, Nat.reduceLeDiff, Nat.le_refl, Bool.and_self, h60, decide_false]
  have hb : ∀ b : Bool, (b == b) = true := fun b => by cases b <;> rfl
  have hi : ∀ n : Int, (n == n) = true := fun n => by simp
  cases near
  case' true =>
    simp (disch := first | (simp only [ne_eq, reduceCtorEq, not_false_eq_true, implies_true, List.getElem?_cons_zero, List.getElem?_cons_succ]; done) | omega) only [WS, St.guard, St.put, evalO, reduceCtorEq, reduceIte, Nat.reduceAdd, Nat.reduceEqDiff, new_s, virtBlk_eq, box_s, box_vs, box_vi, box_vb, px_load_l, px_load_o, loadB_s, storeX, storeB_s, alloc_s, lay, whole, Option.join_some, List.drop_zero, List.drop_succ_cons, List.take_succ_cons, List.take_zero, List.drop_nil, List.nil_append, List.cons_append, Nat.reduceLeDiff, Nat.zero_add, and_self, and_true, cells_int, cells_bool, cells_str, cells_string, cells_agg, cells_own, cells_ro, cells_ptr, cells_nil, AV.lf.lfs, AV.lf, px_build, fills, build_string, build_str, build_int, WDR_some, Nat.reduceLeDiff, Nat.le_refl, Bool.and_self]
    refine WP_news (by exact Items_spec H.play H.items H.mod64 ((va _).into)) (data1 dBlk_l) rfl (by decide) rfl gn (by exact ren_own1) ?_
    simp (disch := first | (simp only [ne_eq, reduceCtorEq, not_false_eq_true, implies_true, List.getElem?_cons_zero, List.getElem?_cons_succ]; done) | omega) only [WS, St.guard, St.put, evalO, reduceCtorEq, reduceIte, Nat.reduceAdd, Nat.reduceEqDiff, new_s, virtBlk_eq, box_s, box_vs, box_vi, box_vb, px_load_l, px_load_o, loadB_s, storeX, storeB_s, alloc_s, lay, whole, Option.join_some, List.drop_zero, List.drop_succ_cons, List.take_succ_cons, List.take_zero, List.drop_nil, List.nil_append, List.cons_append, Nat.reduceLeDiff, Nat.zero_add, and_self, and_true, cells_int, cells_bool, cells_str, cells_string, cells_agg, cells_own, cells_ro, cells_ptr, cells_nil, AV.lf.lfs, AV.lf, px_build, fills, build_string, build_str, build_int, WDR_some, Nat.reduceLeDiff, Nat.le_refl, Bool.and_self, putAll]
    have vA : ∀ T, TView itEnc ⟨[], some (dBlk (itEnc.row (itemsP xs)) true false) :: T⟩ (.own (.l 0) 32 0 8 4 none) (itemsP xs) := fun T => by
      have := own_T (T := itEnc) (G := []) (L := some (dBlk (itEnc.row (itemsP xs)) true false) :: T) (j := 0) (xs := itemsP xs) (o := true) (v := false) (cap := none) rfl (by simp)
      rw [itemsP_len] at this
      exact this
    have hz1 : (itemsP xs).length ≤ 60 := by rw [itemsP_len]; omega
    have hz2 : smallI (itemsP xs) := itemsP_small
    have hB0 : ∀ B, some (dBlk (itEnc.row (itemsP xs)) true false) = some B → B.labs = [] := dBlk_l
    generalize itemsP xs = zs at *
    generalize some (dBlk (itEnc.row zs) true false) = B0 at *
    generalize AV.own (.l 0) 32 0 8 4 none = A at *
  case' false =>
    simp (disch := first | (simp only [ne_eq, reduceCtorEq, not_false_eq_true, implies_true, List.getElem?_cons_zero, List.getElem?_cons_succ]; done) | omega) only [WS, St.guard, St.put, evalO, reduceCtorEq, reduceIte, Nat.reduceAdd, Nat.reduceEqDiff, new_s, virtBlk_eq, box_s, box_vs, box_vi, box_vb, px_load_l, px_load_o, loadB_s, storeX, storeB_s, alloc_s, lay, whole, Option.join_some, List.drop_zero, List.drop_succ_cons, List.take_succ_cons, List.take_zero, List.drop_nil, List.nil_append, List.cons_append, Nat.reduceLeDiff, Nat.zero_add, and_self, and_true, cells_int, cells_bool, cells_str, cells_string, cells_agg, cells_own, cells_ro, cells_ptr, cells_nil, AV.lf.lfs, AV.lf, px_build, fills, build_string, build_str, build_int, WDR_some, Nat.reduceLeDiff, Nat.le_refl, Bool.and_self]
    have vA : ∀ T, TView itEnc ⟨[], none :: T⟩ a xs := fun T => va _
    have hz1 : xs.length ≤ 60 := by omega
    generalize hzs : xs = zs at *
    have hz2 : smallI zs := hsm
    generalize hA : a = A at *
  all_goals
    have hroom : (zs.length + 3) * 48 ≤ room := by unfold room; omega
    refine WP_news (by exact ownI (x0 := spoilt) H.own ((vA _).into) hroom) (data1 dBlk_l) rfl (by decide) rfl (by unfold Good; dsimp only; repeat (first | exact trivial | rw [goodN] | refine ⟨dBlk_good, ?_⟩ | refine goodD (by assumption) ?_ | refine ⟨sBlk_good (by first | rfl | assumption | (simp [AV.labs.labss, AV.labs, refLt]; done)), ?_⟩)) (by exact ren_own1) ?_
    have vi : ∀ b T, TView itEnc ⟨[], b :: some (dBlk (ownCells itEnc zs spoilt) false false) :: T⟩ (.own (.l 1) ((zs.length + 3) * 4) 0 zs.length 4 (some (zs.length + 3))) zs := fun b T => ownCells_view (T := itEnc) (j := 1) rfl
    simp (disch := first | (simp only [ne_eq, reduceCtorEq, not_false_eq_true, implies_true, List.getElem?_cons_zero, List.getElem?_cons_succ]; done) | omega) only [WS, St.guard, St.put, evalO, reduceCtorEq, reduceIte, Nat.reduceAdd, Nat.reduceEqDiff, new_s, virtBlk_eq, box_s, box_vs, box_vi, box_vb, px_load_l, px_load_o, loadB_s, storeX, storeB_s, alloc_s, lay, whole, Option.join_some, List.drop_zero, List.drop_succ_cons, List.take_succ_cons, List.take_zero, List.drop_nil, List.nil_append, List.cons_append, Nat.reduceLeDiff, Nat.zero_add, and_self, and_true, cells_int, cells_bool, cells_str, cells_string, cells_agg, cells_own, cells_ro, cells_ptr, cells_nil, AV.lf.lfs, AV.lf, px_build, fills, build_string, build_str, build_int, WDR_some, Nat.reduceLeDiff, Nat.le_refl, Bool.and_self, putAll]
    refine (WP_p (x := .bool true) (by exact awake10 H (.inr (.inl rfl))) (by unfold Good; dsimp only; repeat (first | exact trivial | rw [goodN] | refine ⟨dBlk_good, ?_⟩ | refine goodD (by assumption) ?_ | refine ⟨sBlk_good (by first | rfl | assumption | (simp [AV.labs.labss, AV.labs, refLt]; done)), ?_⟩))).2 ?_
    simp (disch := first | (simp only [ne_eq, reduceCtorEq, not_false_eq_true, implies_true, List.getElem?_cons_zero, List.getElem?_cons_succ]; done) | omega) only [WS, St.guard, St.put, evalO, reduceCtorEq, reduceIte, Nat.reduceAdd, Nat.reduceEqDiff]
    refine (WP_p (x := .bool (rightI zs)) (by exact goodsRight_spec H.toGoodsLib ((vi _ _).into) (by unfold maxLen; omega)) (by unfold Good; dsimp only; repeat (first | exact trivial | rw [goodN] | refine ⟨dBlk_good, ?_⟩ | refine goodD (by assumption) ?_ | refine ⟨sBlk_good (by first | rfl | assumption | (simp [AV.labs.labss, AV.labs, refLt]; done)), ?_⟩))).2 ?_
    simp (disch := first | (simp only [ne_eq, reduceCtorEq, not_false_eq_true, implies_true, List.getElem?_cons_zero, List.getElem?_cons_succ]; done) | omega) only [WS, St.guard, St.put, evalO, reduceCtorEq, reduceIte, Nat.reduceAdd, Nat.reduceEqDiff]
    refine (WP_p (x := .bool (rightI zs)) (by exact refGoods_spec H.toGoodsLib ((vA _).into) (by unfold maxLen; omega) hz2) (by unfold Good; dsimp only; repeat (first | exact trivial | rw [goodN] | refine ⟨dBlk_good, ?_⟩ | refine goodD (by assumption) ?_ | refine ⟨sBlk_good (by first | rfl | assumption | (simp [AV.labs.labss, AV.labs, refLt]; done)), ?_⟩))).2 ?_
    simp (disch := first | (simp only [ne_eq, reduceCtorEq, not_false_eq_true, implies_true, List.getElem?_cons_zero, List.getElem?_cons_succ]; done) | omega) only [WS, St.guard, St.put, evalO, reduceCtorEq, reduceIte, Nat.reduceAdd, Nat.reduceEqDiff, hb]
    refine (WP_p (x := .int .i64 (findV (skus zs) s)) (by exact Find_spec H.toGoodsLib ((vi _ _).into) (by omega)) (by unfold Good; dsimp only; repeat (first | exact trivial | rw [goodN] | refine ⟨dBlk_good, ?_⟩ | refine goodD (by assumption) ?_ | refine ⟨sBlk_good (by first | rfl | assumption | (simp [AV.labs.labss, AV.labs, refLt]; done)), ?_⟩))).2 ?_
    simp (disch := first | (simp only [ne_eq, reduceCtorEq, not_false_eq_true, implies_true, List.getElem?_cons_zero, List.getElem?_cons_succ]; done) | omega) only [WS, St.guard, St.put, evalO, reduceCtorEq, reduceIte, Nat.reduceAdd, Nat.reduceEqDiff]
    refine (WP_p (x := .int .i64 (findV (skus zs) s)) (by exact refFind_spec H.toGoodsLib ((vA _).into) (by unfold maxLen; omega)) (by unfold Good; dsimp only; repeat (first | exact trivial | rw [goodN] | refine ⟨dBlk_good, ?_⟩ | refine goodD (by assumption) ?_ | refine ⟨sBlk_good (by first | rfl | assumption | (simp [AV.labs.labss, AV.labs, refLt]; done)), ?_⟩))).2 ?_
    simp (disch := first | (simp only [ne_eq, reduceCtorEq, not_false_eq_true, implies_true, List.getElem?_cons_zero, List.getElem?_cons_succ]; done) | omega) only [WS, St.guard, St.put, evalO, reduceCtorEq, reduceIte, Nat.reduceAdd, Nat.reduceEqDiff, new_s, virtBlk_eq, box_s, box_vs, box_vi, box_vb, px_load_l, px_load_o, loadB_s, storeX, storeB_s, alloc_s, lay, whole, Option.join_some, List.drop_zero, List.drop_succ_cons, List.take_succ_cons, List.take_zero, List.drop_nil, List.nil_append, List.cons_append, Nat.reduceLeDiff, Nat.zero_add, and_self, and_true, cells_int, cells_bool, cells_str, cells_string, cells_agg, cells_own, cells_ro, cells_ptr, cells_nil, AV.lf.lfs, AV.lf, px_build, fills, build_string, build_str, build_int, WDR_some, Nat.reduceLeDiff, Nat.le_refl, Bool.and_self, hi]
    refine (WP_p (x := .bool true) (by exact keptI H (p := 1) (x0 := spoilt) rfl ((vA _).into) (by omega)) (by unfold Good; dsimp only; repeat (first | exact trivial | rw [goodN] | refine ⟨dBlk_good, ?_⟩ | refine goodD (by assumption) ?_ | refine ⟨sBlk_good (by first | rfl | assumption | (simp [AV.labs.labss, AV.labs, refLt]; done)), ?_⟩))).2 ?_
    simp (disch := first | (simp only [ne_eq, reduceCtorEq, not_false_eq_true, implies_true, List.getElem?_cons_zero, List.getElem?_cons_succ]; done) | omega) only [WS, St.guard, St.put, evalO, reduceCtorEq, reduceIte, Nat.reduceAdd, Nat.reduceEqDiff, fin_tmp, leave_v]
    simp
end Go.AM

/- The laws of goods: each is found. -/
namespace Go.AM
variable {prog : String → Option IFn}

section
variable {α : Type} {T : Enc α}
theorem Enc.row_cons (x : α) (xs : List α) : T.row (x :: xs) = T.E x ++ T.row xs := by simp [Enc.row]
theorem Enc.row_drop : ∀ (xs : List α) (i : Nat), (T.row xs).drop (i * T.esz) = T.row (xs.drop i)
  | xs, 0 => by simp
  | [], i + 1 => by simp [Enc.row]
  | x :: xs, i + 1 => by
    rw [Enc.row_cons, List.drop_succ_cons, ← Enc.row_drop xs i, Nat.add_mul, Nat.one_mul, Nat.add_comm, ← List.drop_drop]
    rw [show (T.E x ++ T.row xs).drop T.esz = T.row xs from by rw [← T.len x, List.drop_left]]
theorem Enc.row_take : ∀ (xs : List α) (i : Nat), (T.row xs).take (i * T.esz) = T.row (xs.take i)
  | xs, 0 => by simp [Enc.row]
  | [], i + 1 => by simp [Enc.row]
  | x :: xs, i + 1 => by
    rw [Enc.row_cons, List.take_succ_cons, Enc.row_cons, ← Enc.row_take xs i, Nat.add_mul, Nat.one_mul, Nat.add_comm]
    conv => lhs; rw [← T.len x]
    rw [List.take_length_add_append]
    rw [T.len]
theorem TView.sub {h a} {xs : List α} (v : TView T h a xs) {i j : Nat} (hij : i ≤ j) (hj : j ≤ xs.length) : TView T h (AM.sub a T.esz i j) ((xs.drop i).take (j - i)) := by
  have := View.sub v hij hj
  unfold TView
  rw [Enc.row_drop, Enc.row_take] at this
  have hl : ((xs.drop i).take (j - i)).length = j - i := by rw [List.length_take, List.length_drop]; omega
  rw [hl]; exact this
end

def sk8 : List Txt := (List.range 8).map skuN
theorem skus_P {xs} : skus (itemsP xs) = sk8 := by
  unfold skus itemsP sk8
  rw [List.map_map]
  exact List.map_congr_left fun k _ => itemAt_sku
theorem itemAt_ok {xs k} (hk : k < 8) : okItem (itemAt xs k) = true := by
  have h1 : nameOK (skuN k) = true := by
    have : ∀ k : Fin 8, nameOK (skuN k.val) = true := by decide
    exact this ⟨k, hk⟩
  have h2 : ∀ m, m < 3 → nameOK (catAt m) = true := fun m hm => by
    have : ∀ k : Fin 3, nameOK (catAt k.val) = true := by decide
    exact this ⟨m, hm⟩
  obtain ⟨m, hm, hc⟩ := itemAt_cat (xs := xs) (k := k)
  unfold okItem
  rw [itemAt_sku, hc, h1, h2 m hm]
  unfold itemAt
  split
  · rw [decide_eq_true (by show 0 ≤ 100 + 37 * (k : Int); omega), decide_eq_true (by show 100 + 37 * (k : Int) ≤ 1000000000; omega)]; rfl
  · rename_i x _
    have := umod_lt (c := x.price) (n := 4000) (by omega)
    rw [decide_eq_true (by show 0 ≤ ((umod x.price 4000 : Nat) : Int); omega), decide_eq_true (by show ((umod x.price 4000 : Nat) : Int) ≤ 1000000000; omega)]; rfl
theorem itemsP_all {xs} : (itemsP xs).all okItem = true := by
  rw [List.all_eq_true]
  intro x hx
  obtain ⟨k, hk, rfl⟩ := List.mem_map.1 hx
  exact itemAt_ok (by simpa using hk)
theorem rightI_P {xs} : rightI (itemsP xs) = true := by
  unfold rightI
  rw [itemsP_all, skus_P, itemsP_len]
  decide
theorem fd1 {k : Nat} (h : k < 8) : findV sk8 (skuN k) = (k : Int) := by
  have : ∀ k : Fin 8, findV sk8 (skuN k.val) = (k.val : Int) := by decide
  exact this ⟨k, h⟩
theorem fd2 {k : Nat} (h : k < 8) : findV sk8 (skuN k ++ [45]) = -1 := by
  have : ∀ k : Fin 8, findV sk8 (skuN k.val ++ [45]) = -1 := by decide
  exact this ⟨k, h⟩
theorem fd3 {k : Nat} (h : k < 8) : findV (sk8.take k) (skuN k) = -1 := by
  have : ∀ k : Fin 8, findV (sk8.take k.val) (skuN k.val) = -1 := by decide
  exact this ⟨k, h⟩
theorem fd4 {k : Nat} (h : k < 8) : findV (sk8.drop k) (skuN k) = 0 := by
  have : ∀ k : Fin 8, findV (sk8.drop k.val) (skuN k.val) = 0 := by decide
  exact this ⟨k, h⟩
theorem min8 {n : Nat} : (if (8 : Int) < (n : Int) then (8 : Int) else (n : Int)) = ((min n 8 : Nat) : Int) := by split <;> omega
theorem itemsP_at {xs k} (hk : k < 8) : (itemsP xs)[k]? = some (itemAt xs k) := by unfold itemsP; rw [List.getElem?_map, List.getElem?_range hk]; rfl

theorem GoodsFinds_law (H : Law10 prog) (hp : prog "haberdash/haberdashlaw10.GoodsFinds" = some f_law10_GoodsFinds) {as} (h : IsAll [.slice itemTy, .int .i64] as) :
    ∃ G2, Ev prog (.call "haberdash/haberdashlaw10.GoodsFinds" as []) (.ret (.v (.bool true)) G2) := by
  rcases as with _ | ⟨a0, _ | ⟨a1, _ | _⟩⟩ <;> try (simp [IsAll] at h; done)
  obtain ⟨⟨c0', h0, rfl⟩, ⟨c1', h1, rfl⟩, _⟩ := h
  obtain ⟨a, xs, rfl, va, hl, hsm⟩ := is_itemsS h0
  obtain ⟨c1, rfl, hc1⟩ := is_i64 h1
  refine ⟨[], call_of_fin hp ?_⟩
  have gn : Good ⟨[], [none]⟩ := trivial
  have hle : min xs.length 8 ≤ xs.length := by omega
  have sl : ∀ h, prim h (.slice 4 false true false) [a, .v (.int .i64 ((min xs.length 8 : Nat) : Int))] = some (AM.sub a 4 0 (min xs.length 8), h) := fun h => View.sliceHi (va h) hle
  have vs : ∀ h, TView itEnc h (AM.sub a 4 0 (min xs.length 8)) ((xs.drop 0).take (min xs.length 8 - 0)) := fun h => (va h).sub (Nat.zero_le _) hle
  simp only [f_law10_GoodsFinds_B, enter, List.length_cons, List.length_nil, List.replicate, Nat.reduceAdd, Nat.reduceSub, List.cons_append, List.nil_append, Ty.arg, intAV]
  simp (disch := first | (simp only [ne_eq, reduceCtorEq, not_false_eq_true, implies_true, List.getElem?_cons_zero, List.getElem?_cons_succ]; done) | omega) only [WS, St.guard, St.put, evalO, reduceCtorEq, reduceIte, Nat.reduceAdd, Nat.reduceEqDiff, new_s, virtBlk_eq, box_s, box_vs, box_vi, box_vb, px_load_l, px_load_o, loadB_s, storeX, storeB_s, alloc_s, lay, whole, Option.join_some, List.drop_zero, List.drop_succ_cons, List.take_succ_cons, List.take_zero, List.drop_nil, List.nil_append, List.cons_append, Nat.reduceLeDiff, Nat.zero_add, and_self, and_true, cells_int, cells_bool, cells_str, cells_string, cells_agg, cells_own, cells_ro, cells_ptr, cells_nil, AV.lf.lfs, AV.lf, px_build, fills, build_string, build_str, build_int, WDR_some, Nat.reduceLeDiff, Nat.le_refl, Bool.and_self, (va _).lenSlice, mins, min8, sl]
  generalize AM.sub a 4 0 (min xs.length 8) = b at *
  generalize (xs.drop 0).take (min xs.length 8 - 0) = ys at *
  refine WP_news (by exact Items_spec H.play H.items H.mod64 ((vs _).into)) (data1 dBlk_l) rfl (by decide) rfl gn (by exact ren_own1) ?_
  have vA : TView itEnc ⟨[], [some (dBlk (itEnc.row (itemsP ys)) true false)]⟩ (.own (.l 0) 32 0 8 4 none) (itemsP ys) := by
    have := own_T (T := itEnc) (G := []) (L := [some (dBlk (itEnc.row (itemsP ys)) true false)]) (j := 0) (xs := itemsP ys) (o := true) (v := false) (cap := none) rfl (by simp)
    rw [itemsP_len] at this
    exact this
  simp (disch := first | (simp only [ne_eq, reduceCtorEq, not_false_eq_true, implies_true, List.getElem?_cons_zero, List.getElem?_cons_succ]; done) | omega) only [WS, St.guard, St.put, evalO, reduceCtorEq, reduceIte, Nat.reduceAdd, Nat.reduceEqDiff, new_s, virtBlk_eq, box_s, box_vs, box_vi, box_vb, px_load_l, px_load_o, loadB_s, storeX, storeB_s, alloc_s, lay, whole, Option.join_some, List.drop_zero, List.drop_succ_cons, List.take_succ_cons, List.take_zero, List.drop_nil, List.nil_append, List.cons_append, Nat.reduceLeDiff, Nat.zero_add, and_self, and_true, cells_int, cells_bool, cells_str, cells_string, cells_agg, cells_own, cells_ro, cells_ptr, cells_nil, AV.lf.lfs, AV.lf, px_build, fills, build_string, build_str, build_int, WDR_some, Nat.reduceLeDiff, Nat.le_refl, Bool.and_self, putAll, lenOf_own, goInt]
  have gd : Good ⟨[], [some (dBlk (itEnc.row (itemsP ys)) true false)]⟩ := (by unfold Good; dsimp only; repeat (first | exact trivial | rw [goodN] | refine ⟨dBlk_good, ?_⟩ | refine goodD (by assumption) ?_ | refine ⟨sBlk_good (by first | rfl | assumption | (simp [AV.labs.labss, AV.labs, refLt]; done)), ?_⟩))
  refine (WP_p (x := .int .i64 (umod c1 8 : Nat)) (by exact Mod_spec H.play.mod 8 rfl (by omega) (by omega)) gd).2 ?_
  have hk := umod_lt (c := c1) (n := 8) (by omega)
  generalize umod c1 8 = k at *
  have q := it_at vA (itemsP_at hk)
  have qs : prim ⟨[], [some (dBlk (itEnc.row (itemsP ys)) true false)]⟩ (.load 1 false) [fldPtr (.own (.l 0) 32 0 8 4 none) 4 k 0] = some (.v (str (skuN k)), ⟨[], [some (dBlk (itEnc.row (itemsP ys)) true false)]⟩) := by rw [q.l0, itemAt_sku]
  have v1 := TView.sub vA (Nat.zero_le k) (by rw [itemsP_len]; omega)
  have v2 := TView.sub vA (show k ≤ 8 by omega) (by rw [itemsP_len]; omega)
  have s1 := View.sliceHi vA (k := .i64) (show k ≤ (itemsP ys).length by rw [itemsP_len]; omega)
  have s2 := View.sliceLo vA (k := .i64) (show k ≤ (itemsP ys).length by rw [itemsP_len]; omega)
  rw [itemsP_len] at s2
  have hsk : skus (itemsP ys) = sk8 := skus_P
  have k1 : skus (((itemsP ys).drop 0).take (k - 0)) = sk8.take k := by unfold skus; rw [List.drop_zero, Nat.sub_zero, List.map_take]; exact congrArg _ hsk
  have k2 : skus (((itemsP ys).drop k).take (8 - k)) = sk8.drop k := by
    have e : ((itemsP ys).drop k).take (8 - k) = (itemsP ys).drop k := List.take_of_length_le (by rw [List.length_drop, itemsP_len]; exact Nat.le_refl _)
    rw [e]; unfold skus; rw [List.map_drop]; exact congrArg _ hsk
  have hla : (skuN k).length + [(45 : UInt8)].length ≤ 9223372036854775807 := by show 1 + 1 ≤ _; omega
  have hst : AV.v (.string ⟨#[45]⟩) = .v (str [45]) := rfl
  have hi : ∀ n : Int, (n == n) = true := fun n => by simp
  simp (disch := first | (simp only [ne_eq, reduceCtorEq, not_false_eq_true, implies_true, List.getElem?_cons_zero, List.getElem?_cons_succ]; done) | omega) only [WS, St.guard, St.put, evalO, reduceCtorEq, reduceIte, Nat.reduceAdd, Nat.reduceEqDiff, new_s, virtBlk_eq, box_s, box_vs, box_vi, box_vb, px_load_l, px_load_o, loadB_s, storeX, storeB_s, alloc_s, lay, whole, Option.join_some, List.drop_zero, List.drop_succ_cons, List.take_succ_cons, List.take_zero, List.drop_nil, List.nil_append, List.cons_append, Nat.reduceLeDiff, Nat.zero_add, and_self, and_true, cells_int, cells_bool, cells_str, cells_string, cells_agg, cells_own, cells_ro, cells_ptr, cells_nil, AV.lf.lfs, AV.lf, px_build, fills, build_string, build_str, build_int, WDR_some, Nat.reduceLeDiff, Nat.le_refl, Bool.and_self]
  rw [it_esz] at s1 s2 v1 v2
  refine WDP_r (r := .v (.bool true)) (fun X _ => by exact awake10 H (.inl rfl)) rfl gd ?_
  simp (disch := first | (simp only [ne_eq, reduceCtorEq, not_false_eq_true, implies_true, List.getElem?_cons_zero, List.getElem?_cons_succ]; done) | omega) only [WS, St.guard, St.put, evalO, reduceCtorEq, reduceIte, Nat.reduceAdd, Nat.reduceEqDiff]
  refine WDP_r (r := .v (.bool (rightI (itemsP ys)))) (fun X _ => by exact goodsRight_spec H.toGoodsLib (vA.into) (by rw [itemsP_len]; decide)) rfl gd ?_
  rw [rightI_P]
  simp (disch := first | (simp only [ne_eq, reduceCtorEq, not_false_eq_true, implies_true, List.getElem?_cons_zero, List.getElem?_cons_succ]; done) | omega) only [WS, St.guard, St.put, evalO, reduceCtorEq, reduceIte, Nat.reduceAdd, Nat.reduceEqDiff, q.ix, q.f0, qs]
  refine WDP_r (r := .v (.int .i64 (findV (skus (itemsP ys)) (skuN k)))) (fun X _ => by exact Find_spec H.toGoodsLib (vA.into) (by rw [itemsP_len]; omega)) rfl gd ?_
  rw [hsk, fd1 hk]
  simp (disch := first | (simp only [ne_eq, reduceCtorEq, not_false_eq_true, implies_true, List.getElem?_cons_zero, List.getElem?_cons_succ]; done) | omega) only [WS, St.guard, St.put, evalO, reduceCtorEq, reduceIte, Nat.reduceAdd, Nat.reduceEqDiff, q.ix, q.f0, qs, hi, hst, vBin_add_str hla]
  refine WDP_r (r := .v (.int .i64 (findV (skus (itemsP ys)) (skuN k ++ [45])))) (fun X _ => by exact Find_spec H.toGoodsLib (vA.into) (by rw [itemsP_len]; omega)) rfl gd ?_
  rw [hsk, fd2 hk]
  simp (disch := first | (simp only [ne_eq, reduceCtorEq, not_false_eq_true, implies_true, List.getElem?_cons_zero, List.getElem?_cons_succ]; done) | omega) only [WS, St.guard, St.put, evalO, reduceCtorEq, reduceIte, Nat.reduceAdd, Nat.reduceEqDiff, q.ix, q.f0, qs, hi, s1]
  refine WDP_r (r := .v (.int .i64 (findV (skus (((itemsP ys).drop 0).take (k - 0))) (skuN k)))) (fun X _ => by exact Find_spec H.toGoodsLib (v1.into) (by rw [List.length_take]; omega)) rfl gd ?_
  rw [k1, fd3 hk]
  simp (disch := first | (simp only [ne_eq, reduceCtorEq, not_false_eq_true, implies_true, List.getElem?_cons_zero, List.getElem?_cons_succ]; done) | omega) only [WS, St.guard, St.put, evalO, reduceCtorEq, reduceIte, Nat.reduceAdd, Nat.reduceEqDiff, q.ix, q.f0, qs, hi, s2]
  refine WDP_r (r := .v (.int .i64 (findV (skus (((itemsP ys).drop k).take (8 - k))) (skuN k)))) (fun X _ => by exact Find_spec H.toGoodsLib (v2.into) (by rw [List.length_take]; omega)) rfl gd ?_
  rw [k2, fd4 hk]
  simp (disch := first | (simp only [ne_eq, reduceCtorEq, not_false_eq_true, implies_true, List.getElem?_cons_zero, List.getElem?_cons_succ]; done) | omega) only [WS, St.guard, St.put, evalO, reduceCtorEq, reduceIte, Nat.reduceAdd, Nat.reduceEqDiff, fin_tmp, leave_v, hi]
  simp
end Go.AM
