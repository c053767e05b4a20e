import Derived.Test.YtphknfgiljkjaaaLawGoods
set_option linter.unusedVariables false
set_option linter.unusedSimpArgs false
/- The laws of goods: one thing turned. -/
namespace Go.AM
variable {prog : String → Option IFn}

section
variable {α : Type} {T : Enc α}
theorem row_setf {x : AV} {f : Nat} (hf : f < T.esz) {z z' : α} (he : T.E z' = (T.E z).set f x) : ∀ {zs : List α} {k : Nat}, zs[k]? = some z → (T.row zs).set (k * T.esz + f) x = T.row (zs.set k z')
  | [], k, h => by simp at h
  | y :: zs, 0, h => by
    simp at h; subst h
    rw [List.set_cons_zero, Enc.row_cons, Enc.row_cons, he, Nat.zero_mul, Nat.zero_add, List.set_append_left _ _ (by rw [T.len]; exact hf)]
  | y :: zs, k + 1, h => by
    have ih := row_setf hf he (zs := zs) (k := k) (by simpa using h)
    rw [List.set_cons_succ, Enc.row_cons, Enc.row_cons, ← ih, List.set_append_right _ _ (by rw [T.len, Nat.add_mul]; omega), T.len]
    congr 2
    rw [Nat.add_mul]; omega
theorem row_setw {z' : α} : ∀ {zs : List α} {k : Nat}, k < zs.length → lay (T.row zs) (k * T.esz) (T.E z') = T.row (zs.set k z')
  | [], k, h => by simp at h
  | y :: zs, 0, h => by
    rw [List.set_cons_zero, Enc.row_cons, Enc.row_cons]
    unfold lay
    rw [Nat.zero_mul, List.take_zero, List.nil_append, Nat.zero_add, T.len]
    conv => lhs; rw [show (T.E y ++ T.row zs).drop T.esz = T.row zs from by rw [← T.len y, List.drop_left]]
  | y :: zs, k + 1, h => by
    have ih := row_setw (z' := z') (zs := zs) (k := k) (by simpa using h)
    rw [List.set_cons_succ, Enc.row_cons, Enc.row_cons, ← ih]
    unfold lay
    have e1 : (k + 1) * T.esz = (T.E y).length + k * T.esz := by rw [T.len, Nat.add_mul]; omega
    rw [e1, List.take_length_add_append, Nat.add_assoc, List.drop_append, List.drop_of_length_le (by omega), List.nil_append, Nat.add_sub_cancel_left]
    simp [List.append_assoc]
end

theorem rise_app {k : Nat} (h : k < 8) : rise (sk8 ++ [skuN k]) = false := by
  have : ∀ k : Fin 8, rise (sk8 ++ [skuN k.val]) = false := by decide
  exact this ⟨k, h⟩
theorem rise_swap {k : Nat} (h : k < 8) : rise ((sk8.set k (skuN 0)).set 0 (skuN k)) = decide (k = 0) := by
  have : ∀ k : Fin 8, rise ((sk8.set k.val (skuN 0)).set 0 (skuN k.val)) = decide (k.val = 0) := by decide
  exact this ⟨k, h⟩
theorem right_app {xs k} (h : k < 8) : rightI (itemsP xs ++ [itemAt xs k]) = false := by
  have e : skus (itemsP xs ++ [itemAt xs k]) = sk8 ++ [skuN k] := by
    have := skus_P (xs := xs)
    unfold skus at this ⊢
    rw [List.map_append, this]; simp [itemAt_sku]
  unfold rightI
  rw [e, rise_app h]; simp
theorem right_swap {xs k} (h : k < 8) : rightI (((itemsP xs).set k (itemAt xs 0)).set 0 (itemAt xs k)) = decide (k = 0) := by
  have e : skus (((itemsP xs).set k (itemAt xs 0)).set 0 (itemAt xs k)) = (sk8.set k (skuN 0)).set 0 (skuN k) := by
    have := skus_P (xs := xs)
    unfold skus at this ⊢
    rw [List.map_set, List.map_set, this, itemAt_sku, itemAt_sku]
  have a : (((itemsP xs).set k (itemAt xs 0)).set 0 (itemAt xs k)).all okItem = true := by
    rw [List.all_eq_true]
    intro x hx
    rcases List.mem_or_eq_of_mem_set hx with hx | rfl
    · rcases List.mem_or_eq_of_mem_set hx with hx | rfl
      · exact List.all_eq_true.1 itemsP_all x hx
      · exact itemAt_ok (by omega)
    · exact itemAt_ok h
  unfold rightI
  rw [e, rise_swap h, a, List.length_set, List.length_set, itemsP_len]; simp

theorem GoodsTurned_law (H : Law10 prog) (hp : prog "haberdash/haberdashlaw10.GoodsTurned" = some f_law10_GoodsTurned) {as} (h : IsAll [.slice itemTy, .int .i64, .int .i64, .str, .int .i64] as) :
    ∃ G2, Ev prog (.call "haberdash/haberdashlaw10.GoodsTurned" as []) (.ret (.v (.bool true)) G2) := by
  rcases as with _ | ⟨a0, _ | ⟨a1, _ | ⟨a2, _ | ⟨a3, _ | ⟨a4, _ | _⟩⟩⟩⟩⟩ <;> try (simp [IsAll] at h; done)
  obtain ⟨⟨c0', h0, rfl⟩, ⟨c1', h1, rfl⟩, ⟨c2', h2, rfl⟩, ⟨c3', h3, rfl⟩, ⟨c4', h4, rfl⟩, _⟩ := h
  obtain ⟨a, xs, rfl, va, hl, hsm⟩ := is_itemsS h0
  obtain ⟨c1, rfl, hc1⟩ := is_i64 h1
  obtain ⟨c2, rfl, hc2⟩ := is_i64 h2
  obtain ⟨s, rfl, hs⟩ := is_str h3
  obtain ⟨c4, rfl, hc4⟩ := is_i64 h4
  refine ⟨[], call_of_fin hp ?_⟩
  have gn : Good ⟨[], [none, none, none]⟩ := trivial
  have hle : min xs.length 8 ≤ xs.length := by omega
  have sl : ∀ h, prim h (.slice 4 false true false) [a, .v (.int .i64 ((min xs.length 8 : Nat) : Int))] = some (AM.sub a 4 0 (min xs.length 8), h) := fun h => View.sliceHi (va h) hle
  have vs : ∀ h, TView itEnc h (AM.sub a 4 0 (min xs.length 8)) ((xs.drop 0).take (min xs.length 8 - 0)) := fun h => (va h).sub (Nat.zero_le _) hle
  simp only [f_law10_GoodsTurned_B, enter, List.length_cons, List.length_nil, List.replicate, Nat.reduceAdd, Nat.reduceSub, List.cons_append, List.nil_append, Ty.arg, intAV]
  simp (disch := first | (simp only [ne_eq, reduceCtorEq, not_false_eq_true, implies_true, List.getElem?_cons_zero, List.getElem?_cons_succ]; done) | omega) only [WS, St.guard, St.put, evalO, reduceCtorEq, reduceIte, Nat.reduceAdd, Nat.reduceEqDiff, new_s, virtBlk_eq, box_s, box_vs, box_vi, box_vb, px_load_l, px_load_o, loadB_s, storeX, storeB_s, alloc_s, lay, whole, Option.join_some, List.drop_zero, List.drop_succ_cons, List.take_succ_cons, List.take_zero, List.drop_nil, List.nil_append, List.cons_append, Nat.reduceLeDiff, Nat.zero_add, and_self, and_true, cells_int, cells_bool, cells_str, cells_string, cells_agg, cells_own, cells_ro, cells_ptr, cells_nil, AV.lf.lfs, AV.lf, px_build, fills, build_string, build_str, build_int, WDR_some, Nat.reduceLeDiff, Nat.le_refl, Bool.and_self, (va _).lenSlice, mins, min8, sl]
  generalize AM.sub a 4 0 (min xs.length 8) = b at *
  generalize (xs.drop 0).take (min xs.length 8 - 0) = ys at *
  refine WP_news (by exact Items_spec H.play H.items H.mod64 ((vs _).into)) (data1 dBlk_l) rfl (by decide) rfl gn (by exact ren_own1) ?_
  have vz : ∀ (zs : List ItemD) (hz : zs.length = 8) b0 T, TView itEnc ⟨[], b0 :: some (dBlk (itEnc.row zs) true false) :: T⟩ (.own (.l 1) 32 0 8 4 none) zs := fun zs hz b0 T => by
    have := own_T (T := itEnc) (G := []) (L := b0 :: some (dBlk (itEnc.row zs) true false) :: T) (j := 1) (xs := zs) (o := true) (v := false) (cap := none) rfl (by simp)
    rw [hz] at this
    exact this
  simp (disch := first | (simp only [ne_eq, reduceCtorEq, not_false_eq_true, implies_true, List.getElem?_cons_zero, List.getElem?_cons_succ]; done) | omega) only [WS, St.guard, St.put, evalO, reduceCtorEq, reduceIte, Nat.reduceAdd, Nat.reduceEqDiff, new_s, virtBlk_eq, box_s, box_vs, box_vi, box_vb, px_load_l, px_load_o, loadB_s, storeX, storeB_s, alloc_s, lay, whole, Option.join_some, List.drop_zero, List.drop_succ_cons, List.take_succ_cons, List.take_zero, List.drop_nil, List.nil_append, List.cons_append, Nat.reduceLeDiff, Nat.zero_add, and_self, and_true, cells_int, cells_bool, cells_str, cells_string, cells_agg, cells_own, cells_ro, cells_ptr, cells_nil, AV.lf.lfs, AV.lf, px_build, fills, build_string, build_str, build_int, WDR_some, Nat.reduceLeDiff, Nat.le_refl, Bool.and_self, putAll, lenOf_own, goInt]
  have gd : ∀ zs b2, (∀ B, b2 = some B → B.labs = []) → Good ⟨[], [none, some (dBlk (itEnc.row zs) true false), b2]⟩ := fun zs b2 h => (by unfold Good; dsimp only; repeat (first | exact trivial | rw [goodN] | refine ⟨dBlk_good, ?_⟩ | refine goodD (by assumption) ?_ | refine ⟨sBlk_good (by first | rfl | assumption | (simp [AV.labs.labss, AV.labs, refLt]; done)), ?_⟩))
  refine (WP_p (x := .int .i64 (umod c1 8 : Nat)) (by exact Mod_spec H.play.mod 8 rfl (by omega) (by omega)) (gd _ _ (by simp))).2 ?_
  have hk := umod_lt (c := c1) (n := 8) (by omega)
  generalize umod c1 8 = k at *
  simp (disch := first | (simp only [ne_eq, reduceCtorEq, not_false_eq_true, implies_true, List.getElem?_cons_zero, List.getElem?_cons_succ]; done) | omega) only [WS, St.guard, St.put, evalO, reduceCtorEq, reduceIte, Nat.reduceAdd, Nat.reduceEqDiff]
  refine (WP_p (x := .int .i64 (umod c2 5 : Nat)) (by exact Mod_spec H.play.mod 5 rfl (by omega) (by omega)) (gd _ _ (by simp))).2 ?_
  have hh := umod_lt (c := c2) (n := 5) (by omega)
  have hi : ∀ n : Int, (n == n) = true := fun n => by simp
  have hb : ∀ b : Bool, (b == b) = true := fun b => by cases b <;> rfl
  have hmod : ∀ {G}, Ev prog (.call "haberdash/haberdashplay.Mod" [.v (.int .i64 c2), .v (.int .i64 5)] G) (.ret (.v (.int .i64 (umod c2 5 : Nat))) G) := Mod_spec H.play.mod 5 rfl (by omega) (by omega)
  generalize umod c2 5 = w at *
  have ix : ∀ h, prim h (.indexAddr 4) [.own (.l 1) 32 0 8 4 none, .v (.int .i64 (k : Int))] = some (.ptr (.l 1) 32 (0 + k * 4), h) := fun h => by
    rw [px_indexAddr_own, natOf_nat]; simp [hk]
  have ix0 : ∀ h, prim h (.indexAddr 4) [.own (.l 1) 32 0 8 4 none, .v (.int .i64 0)] = some (.ptr (.l 1) 32 (0 + 0 * 4), h) := fun h => rfl
  have hPk := itemsP_at (xs := ys) hk
  have hP0 := itemsP_at (xs := ys) (k := 0) (by omega)
  have rl : ∀ zs : List ItemD, zs.length = 8 → (itEnc.row zs).length = 32 := fun zs hz => by rw [itEnc.row_len, hz]; rfl
  have stf : ∀ (f : Nat) (x : AV) (z' : ItemD), f < 4 → x.cellsOf = some [x] → x.lf = true → z'.cells = (itemAt ys k).cells.set f x → ∀ T,
      prim ⟨[], none :: some (dBlk (itEnc.row (itemsP ys)) true false) :: T⟩ (.store 1 false) [.ptr (.l 1) 32 (0 + k * 4 + f), x] =
        some (.v undef, ⟨[], none :: some (dBlk (itEnc.row ((itemsP ys).set k z')) true false) :: T⟩) := fun f x z' hf hx hlf he T => by
    rw [store_data (j := 1) rfl (rl _ itemsP_len) (by omega) hx hlf, Nat.zero_add]
    rw [show k * 4 + f = k * itEnc.esz + f from rfl, row_setf (T := itEnc) hf he hPk]; rfl
  have hwI : ∀ n : Nat, w = n → ((w : Int)) = (n : Int) := fun n h => by rw [h]
  have psm : (itemAt ys k).sku.length ≤ 9223372036854775807 ∧ (itemAt ys k).cat.length ≤ 9223372036854775807 := itemsP_small _ (List.mem_of_getElem? hPk)
  simp (disch := first | (simp only [ne_eq, reduceCtorEq, not_false_eq_true, implies_true, List.getElem?_cons_zero, List.getElem?_cons_succ]; done) | omega) only [WS, St.guard, St.put, evalO, reduceCtorEq, reduceIte, Nat.reduceAdd, Nat.reduceEqDiff]
  rcases (show w = 0 ∨ w = 1 ∨ w = 2 ∨ w = 3 ∨ w = 4 by omega) with rfl | rfl | rfl | rfl | rfl
  · simp (disch := first | (simp only [ne_eq, reduceCtorEq, not_false_eq_true, implies_true, List.getElem?_cons_zero, List.getElem?_cons_succ]; done) | omega) only [WS, St.guard, St.put, evalO, reduceCtorEq, reduceIte, Nat.reduceAdd, Nat.reduceEqDiff, ix, Int.reduceBEq, stf 0 (.v (str s)) { (itemAt ys k) with sku := s } (by omega) rfl rfl rfl]
    have hzl : ((itemsP ys).set k { (itemAt ys k) with sku := s }).length = 8 := by rw [List.length_set, itemsP_len]
    have hsm2 : smallI ((itemsP ys).set k { (itemAt ys k) with sku := s }) := fun x hx => by
      rcases List.mem_or_eq_of_mem_set hx with hx | rfl
      · exact itemsP_small x hx
      · exact ⟨hs, psm.2⟩
    refine (WP_p (x := .bool (rightI ((itemsP ys).set k { (itemAt ys k) with sku := s }))) (by exact goodsRight_spec H.toGoodsLib ((vz _ hzl _ _).into) (by rw [hzl]; decide)) (gd _ _ (by simp))).2 ?_
    simp (disch := first | (simp only [ne_eq, reduceCtorEq, not_false_eq_true, implies_true, List.getElem?_cons_zero, List.getElem?_cons_succ]; done) | omega) only [WS, St.guard, St.put, evalO, reduceCtorEq, reduceIte, Nat.reduceAdd, Nat.reduceEqDiff]
    refine (WP_p (x := .bool true) (by exact awake10 H (.inr (.inr (.inl rfl)))) (gd _ _ (by simp))).2 ?_
    simp (disch := first | (simp only [ne_eq, reduceCtorEq, not_false_eq_true, implies_true, List.getElem?_cons_zero, List.getElem?_cons_succ]; done) | omega) only [WS, St.guard, St.put, evalO, reduceCtorEq, reduceIte, Nat.reduceAdd, Nat.reduceEqDiff]
    refine (WP_p (x := .bool (rightI ((itemsP ys).set k { (itemAt ys k) with sku := s }))) (by exact refGoods_spec H.toGoodsLib ((vz _ hzl _ _).into) (by rw [hzl]; decide) hsm2) (gd _ _ (by simp))).2 ?_
    simp (disch := first | (simp only [ne_eq, reduceCtorEq, not_false_eq_true, implies_true, List.getElem?_cons_zero, List.getElem?_cons_succ]; done) | omega) only [WS, St.guard, St.put, evalO, reduceCtorEq, reduceIte, Nat.reduceAdd, Nat.reduceEqDiff, hb]
    refine (WP_p (x := .int .i64 ((0 : Nat) : Int)) (by exact hmod) (gd _ _ (by simp))).2 ?_
    simp (disch := first | (simp only [ne_eq, reduceCtorEq, not_false_eq_true, implies_true, List.getElem?_cons_zero, List.getElem?_cons_succ]; done) | omega) only [WS, St.guard, St.put, evalO, reduceCtorEq, reduceIte, Nat.reduceAdd, Nat.reduceEqDiff, Int.reduceBNe, Int.reduceBEq]
    refine (WP_p (x := .int .i64 ((0 : Nat) : Int)) (by exact hmod) (gd _ _ (by simp))).2 ?_
    simp (disch := first | (simp only [ne_eq, reduceCtorEq, not_false_eq_true, implies_true, List.getElem?_cons_zero, List.getElem?_cons_succ]; done) | omega) only [WS, St.guard, St.put, evalO, reduceCtorEq, reduceIte, Nat.reduceAdd, Nat.reduceEqDiff, Int.reduceBNe, Int.reduceBEq, fin_tmp, leave_v]
    simp
  · simp (disch := first | (simp only [ne_eq, reduceCtorEq, not_false_eq_true, implies_true, List.getElem?_cons_zero, List.getElem?_cons_succ]; done) | omega) only [WS, St.guard, St.put, evalO, reduceCtorEq, reduceIte, Nat.reduceAdd, Nat.reduceEqDiff, ix, Int.reduceBEq, stf 1 (.v (str s)) { (itemAt ys k) with cat := s } (by omega) rfl rfl rfl]
    have hzl : ((itemsP ys).set k { (itemAt ys k) with cat := s }).length = 8 := by rw [List.length_set, itemsP_len]
    have hsm2 : smallI ((itemsP ys).set k { (itemAt ys k) with cat := s }) := fun x hx => by
      rcases List.mem_or_eq_of_mem_set hx with hx | rfl
      · exact itemsP_small x hx
      · exact ⟨psm.1, hs⟩
    refine (WP_p (x := .bool (rightI ((itemsP ys).set k { (itemAt ys k) with cat := s }))) (by exact goodsRight_spec H.toGoodsLib ((vz _ hzl _ _).into) (by rw [hzl]; decide)) (gd _ _ (by simp))).2 ?_
    simp (disch := first | (simp only [ne_eq, reduceCtorEq, not_false_eq_true, implies_true, List.getElem?_cons_zero, List.getElem?_cons_succ]; done) | omega) only [WS, St.guard, St.put, evalO, reduceCtorEq, reduceIte, Nat.reduceAdd, Nat.reduceEqDiff]
    refine (WP_p (x := .bool true) (by exact awake10 H (.inr (.inr (.inl rfl)))) (gd _ _ (by simp))).2 ?_
    simp (disch := first | (simp only [ne_eq, reduceCtorEq, not_false_eq_true, implies_true, List.getElem?_cons_zero, List.getElem?_cons_succ]; done) | omega) only [WS, St.guard, St.put, evalO, reduceCtorEq, reduceIte, Nat.reduceAdd, Nat.reduceEqDiff]
    refine (WP_p (x := .bool (rightI ((itemsP ys).set k { (itemAt ys k) with cat := s }))) (by exact refGoods_spec H.toGoodsLib ((vz _ hzl _ _).into) (by rw [hzl]; decide) hsm2) (gd _ _ (by simp))).2 ?_
    simp (disch := first | (simp only [ne_eq, reduceCtorEq, not_false_eq_true, implies_true, List.getElem?_cons_zero, List.getElem?_cons_succ]; done) | omega) only [WS, St.guard, St.put, evalO, reduceCtorEq, reduceIte, Nat.reduceAdd, Nat.reduceEqDiff, hb]
    refine (WP_p (x := .int .i64 ((1 : Nat) : Int)) (by exact hmod) (gd _ _ (by simp))).2 ?_
    simp (disch := first | (simp only [ne_eq, reduceCtorEq, not_false_eq_true, implies_true, List.getElem?_cons_zero, List.getElem?_cons_succ]; done) | omega) only [WS, St.guard, St.put, evalO, reduceCtorEq, reduceIte, Nat.reduceAdd, Nat.reduceEqDiff, Int.reduceBNe, Int.reduceBEq]
    refine (WP_p (x := .int .i64 ((1 : Nat) : Int)) (by exact hmod) (gd _ _ (by simp))).2 ?_
    simp (disch := first | (simp only [ne_eq, reduceCtorEq, not_false_eq_true, implies_true, List.getElem?_cons_zero, List.getElem?_cons_succ]; done) | omega) only [WS, St.guard, St.put, evalO, reduceCtorEq, reduceIte, Nat.reduceAdd, Nat.reduceEqDiff, Int.reduceBNe, Int.reduceBEq, fin_tmp, leave_v]
    simp
  · simp (disch := first | (simp only [ne_eq, reduceCtorEq, not_false_eq_true, implies_true, List.getElem?_cons_zero, List.getElem?_cons_succ]; done) | omega) only [WS, St.guard, St.put, evalO, reduceCtorEq, reduceIte, Nat.reduceAdd, Nat.reduceEqDiff, ix, Int.reduceBEq, stf 2 (.v (.int .i64 c4)) { (itemAt ys k) with price := c4 } (by omega) rfl rfl rfl]
    have hzl : ((itemsP ys).set k { (itemAt ys k) with price := c4 }).length = 8 := by rw [List.length_set, itemsP_len]
    have hsm2 : smallI ((itemsP ys).set k { (itemAt ys k) with price := c4 }) := fun x hx => by
      rcases List.mem_or_eq_of_mem_set hx with hx | rfl
      · exact itemsP_small x hx
      · exact psm
    refine (WP_p (x := .bool (rightI ((itemsP ys).set k { (itemAt ys k) with price := c4 }))) (by exact goodsRight_spec H.toGoodsLib ((vz _ hzl _ _).into) (by rw [hzl]; decide)) (gd _ _ (by simp))).2 ?_
    simp (disch := first | (simp only [ne_eq, reduceCtorEq, not_false_eq_true, implies_true, List.getElem?_cons_zero, List.getElem?_cons_succ]; done) | omega) only [WS, St.guard, St.put, evalO, reduceCtorEq, reduceIte, Nat.reduceAdd, Nat.reduceEqDiff]
    refine (WP_p (x := .bool true) (by exact awake10 H (.inr (.inr (.inl rfl)))) (gd _ _ (by simp))).2 ?_
    simp (disch := first | (simp only [ne_eq, reduceCtorEq, not_false_eq_true, implies_true, List.getElem?_cons_zero, List.getElem?_cons_succ]; done) | omega) only [WS, St.guard, St.put, evalO, reduceCtorEq, reduceIte, Nat.reduceAdd, Nat.reduceEqDiff]
    refine (WP_p (x := .bool (rightI ((itemsP ys).set k { (itemAt ys k) with price := c4 }))) (by exact refGoods_spec H.toGoodsLib ((vz _ hzl _ _).into) (by rw [hzl]; decide) hsm2) (gd _ _ (by simp))).2 ?_
    simp (disch := first | (simp only [ne_eq, reduceCtorEq, not_false_eq_true, implies_true, List.getElem?_cons_zero, List.getElem?_cons_succ]; done) | omega) only [WS, St.guard, St.put, evalO, reduceCtorEq, reduceIte, Nat.reduceAdd, Nat.reduceEqDiff, hb]
    refine (WP_p (x := .int .i64 ((2 : Nat) : Int)) (by exact hmod) (gd _ _ (by simp))).2 ?_
    simp (disch := first | (simp only [ne_eq, reduceCtorEq, not_false_eq_true, implies_true, List.getElem?_cons_zero, List.getElem?_cons_succ]; done) | omega) only [WS, St.guard, St.put, evalO, reduceCtorEq, reduceIte, Nat.reduceAdd, Nat.reduceEqDiff, Int.reduceBNe, Int.reduceBEq]
    refine (WP_p (x := .int .i64 ((2 : Nat) : Int)) (by exact hmod) (gd _ _ (by simp))).2 ?_
    simp (disch := first | (simp only [ne_eq, reduceCtorEq, not_false_eq_true, implies_true, List.getElem?_cons_zero, List.getElem?_cons_succ]; done) | omega) only [WS, St.guard, St.put, evalO, reduceCtorEq, reduceIte, Nat.reduceAdd, Nat.reduceEqDiff, Int.reduceBNe, Int.reduceBEq, fin_tmp, leave_v]
    simp
  · have vk := vz (itemsP ys) itemsP_len none [none]
    have q := (it_at vk hPk).ld
    have ep : elemPtr (.own (.l 1) 32 0 8 4 none) 4 k = .ptr (.l 1) 32 (0 + k * 4) := rfl
    rw [ep] at q
    simp (disch := first | (simp only [ne_eq, reduceCtorEq, not_false_eq_true, implies_true, List.getElem?_cons_zero, List.getElem?_cons_succ]; done) | omega) only [WS, St.guard, St.put, evalO, reduceCtorEq, reduceIte, Nat.reduceAdd, Nat.reduceEqDiff, ix, Int.reduceBEq, q]
    refine (WR_eq (build_T (T := itEnc) (x := itemAt ys k) rfl rfl)).2 ?_
    simp (disch := first | (simp only [ne_eq, reduceCtorEq, not_false_eq_true, implies_true, List.getElem?_cons_zero, List.getElem?_cons_succ]; done) | omega) only [WS, St.guard, St.put, evalO, reduceCtorEq, reduceIte, Nat.reduceAdd, Nat.reduceEqDiff]
    have ap := append_T (T := itEnc) (G := []) (L := [none, some (dBlk (itEnc.row (itemsP ys)) true false), some (dBlk (itEnc.E (itemAt ys k)) false false)]) (site := 0) (j := 1) (m := 2) (bytes := 48) (xs := itemsP ys) (x := itemAt ys k) (v := false) (cap := some 1) rfl rfl (by rw [itemsP_len]; unfold room; omega) (by simp)
    rw [itemsP_len] at ap
    refine (WR_eq (by exact ap)).2 ?_
    simp (disch := first | (simp only [ne_eq, reduceCtorEq, not_false_eq_true, implies_true, List.getElem?_cons_zero, List.getElem?_cons_succ]; done) | omega) only [WS, St.guard, St.put, evalO, reduceCtorEq, reduceIte, Nat.reduceAdd, Nat.reduceEqDiff]
    have v9 : ∀ b0 T, TView itEnc ⟨[], b0 :: some (dBlk (itEnc.row (itemsP ys ++ [itemAt ys k])) true false) :: T⟩ (.own (.l 1) ((8 + 1) * itEnc.esz) 0 (8 + 1) itEnc.esz none) (itemsP ys ++ [itemAt ys k]) := fun b0 T => by
      have := own_T (T := itEnc) (G := []) (L := b0 :: some (dBlk (itEnc.row (itemsP ys ++ [itemAt ys k])) true false) :: T) (j := 1) (xs := itemsP ys ++ [itemAt ys k]) (o := true) (v := false) (cap := none) rfl (by simp)
      rw [show (itemsP ys ++ [itemAt ys k]).length = 8 + 1 from by rw [List.length_append, itemsP_len]; rfl] at this
      exact this
    have hsm2 : smallI (itemsP ys ++ [itemAt ys k]) := fun x hx => by
      rcases List.mem_append.1 hx with hx | hx
      · exact itemsP_small x hx
      · rw [List.mem_singleton.1 hx]; exact psm
    have hln : (itemsP ys ++ [itemAt ys k]).length ≤ maxLen := by rw [List.length_append, itemsP_len]; show 8 + 1 ≤ _; decide
    refine (WP_p (x := .bool (rightI (itemsP ys ++ [itemAt ys k]))) (by exact goodsRight_spec H.toGoodsLib ((v9 _ _).into) hln) (gd _ _ dBlk_l)).2 ?_
    simp (disch := first | (simp only [ne_eq, reduceCtorEq, not_false_eq_true, implies_true, List.getElem?_cons_zero, List.getElem?_cons_succ]; done) | omega) only [WS, St.guard, St.put, evalO, reduceCtorEq, reduceIte, Nat.reduceAdd, Nat.reduceEqDiff]
    refine (WP_p (x := .bool true) (by exact awake10 H (.inr (.inr (.inl rfl)))) (gd _ _ dBlk_l)).2 ?_
    simp (disch := first | (simp only [ne_eq, reduceCtorEq, not_false_eq_true, implies_true, List.getElem?_cons_zero, List.getElem?_cons_succ]; done) | omega) only [WS, St.guard, St.put, evalO, reduceCtorEq, reduceIte, Nat.reduceAdd, Nat.reduceEqDiff]
    refine (WP_p (x := .bool (rightI (itemsP ys ++ [itemAt ys k]))) (by exact refGoods_spec H.toGoodsLib ((v9 _ _).into) hln hsm2) (gd _ _ dBlk_l)).2 ?_
    simp (disch := first | (simp only [ne_eq, reduceCtorEq, not_false_eq_true, implies_true, List.getElem?_cons_zero, List.getElem?_cons_succ]; done) | omega) only [WS, St.guard, St.put, evalO, reduceCtorEq, reduceIte, Nat.reduceAdd, Nat.reduceEqDiff, hb]
    refine (WP_p (x := .int .i64 ((3 : Nat) : Int)) (by exact hmod) (gd _ _ dBlk_l)).2 ?_
    simp (disch := first | (simp only [ne_eq, reduceCtorEq, not_false_eq_true, implies_true, List.getElem?_cons_zero, List.getElem?_cons_succ]; done) | omega) only [WS, St.guard, St.put, evalO, reduceCtorEq, reduceIte, Nat.reduceAdd, Nat.reduceEqDiff, Int.reduceBNe, Int.reduceBEq, right_app hk]
    refine (WP_p (x := .int .i64 ((3 : Nat) : Int)) (by exact hmod) (gd _ _ dBlk_l)).2 ?_
    simp (disch := first | (simp only [ne_eq, reduceCtorEq, not_false_eq_true, implies_true, List.getElem?_cons_zero, List.getElem?_cons_succ]; done) | omega) only [WS, St.guard, St.put, evalO, reduceCtorEq, reduceIte, Nat.reduceAdd, Nat.reduceEqDiff, Int.reduceBNe, Int.reduceBEq, fin_tmp, leave_v]
    simp
  · have vk := vz (itemsP ys) itemsP_len none [none]
    have q := (it_at vk hPk).ld
    have q0 := (it_at vk hP0).ld
    rw [show elemPtr (.own (.l 1) 32 0 8 4 none) 4 k = .ptr (.l 1) 32 (0 + k * 4) from rfl] at q
    rw [show elemPtr (.own (.l 1) 32 0 8 4 none) 4 0 = .ptr (.l 1) 32 (0 + 0 * 4) from rfl] at q0
    have stw : ∀ (zs : List ItemD) (j : Nat) (z' : ItemD), zs.length = 8 → j < 8 → prim ⟨[], [none, some (dBlk (itEnc.row zs) true false), none]⟩ (.store 4 false) [.ptr (.l 1) 32 (0 + j * 4), .agg z'.cells] =
        some (.v undef, ⟨[], [none, some (dBlk (itEnc.row (zs.set j z')) true false), none]⟩) := fun zs j z' hz hj => by
      rw [store_d (j := 1) (sz := 4) (xs := z'.cells) rfl rfl (rl _ hz) rfl (by omega) (itEnc.lf z'), Nat.zero_add, show j * 4 = j * itEnc.esz from rfl, show z'.cells = itEnc.E z' from rfl, row_setw (T := itEnc) (by omega)]; rfl
    simp (disch := first | (simp only [ne_eq, reduceCtorEq, not_false_eq_true, implies_true, List.getElem?_cons_zero, List.getElem?_cons_succ]; done) | omega) only [WS, St.guard, St.put, evalO, reduceCtorEq, reduceIte, Nat.reduceAdd, Nat.reduceEqDiff, ix, ix0, Int.reduceBEq, q, q0]
    refine WDP_er (gd _ _ (by simp)) rfl ?_
    simp (disch := first | (simp only [ne_eq, reduceCtorEq, not_false_eq_true, implies_true, List.getElem?_cons_zero, List.getElem?_cons_succ]; done) | omega) only [WDX_some, reduceIte, if_true, if_false, Bool.and_true, Bool.true_and, true_and, Bool.false_eq_true, false_or, true_or, Hp.over, AM.over, over_nil, List.foldl_cons, List.foldl_nil, List.set_cons_zero, List.set_cons_succ, List.getElem?_cons_zero, List.getElem?_cons_succ, Option.join_some, List.length_cons, List.length_nil, Prim.sites, List.cons_append, List.nil_append]
    rw [stw _ _ _ itemsP_len hk]
    simp (disch := first | (simp only [ne_eq, reduceCtorEq, not_false_eq_true, implies_true, List.getElem?_cons_zero, List.getElem?_cons_succ]; done) | omega) only [WDX_some, reduceIte, if_true, if_false, Bool.and_true, Bool.true_and, true_and, Bool.false_eq_true, false_or, true_or, Hp.over, AM.over, over_nil, List.foldl_cons, List.foldl_nil, List.set_cons_zero, List.set_cons_succ, List.getElem?_cons_zero, List.getElem?_cons_succ, Option.join_some, List.length_cons, List.length_nil, Prim.sites, List.cons_append, List.nil_append]
    simp (disch := first | (simp only [ne_eq, reduceCtorEq, not_false_eq_true, implies_true, List.getElem?_cons_zero, List.getElem?_cons_succ]; done) | omega) only [WS, St.guard, St.put, evalO, reduceCtorEq, reduceIte, Nat.reduceAdd, Nat.reduceEqDiff, ix0]
    refine WDP_er (gd _ _ (by simp)) rfl ?_
    simp (disch := first | (simp only [ne_eq, reduceCtorEq, not_false_eq_true, implies_true, List.getElem?_cons_zero, List.getElem?_cons_succ]; done) | omega) only [WDX_some, reduceIte, if_true, if_false, Bool.and_true, Bool.true_and, true_and, Bool.false_eq_true, false_or, true_or, Hp.over, AM.over, over_nil, List.foldl_cons, List.foldl_nil, List.set_cons_zero, List.set_cons_succ, List.getElem?_cons_zero, List.getElem?_cons_succ, Option.join_some, List.length_cons, List.length_nil, Prim.sites, List.cons_append, List.nil_append]
    rw [stw _ 0 _ (by rw [List.length_set, itemsP_len]) (by omega)]
    simp (disch := first | (simp only [ne_eq, reduceCtorEq, not_false_eq_true, implies_true, List.getElem?_cons_zero, List.getElem?_cons_succ]; done) | omega) only [WDX_some, reduceIte, if_true, if_false, Bool.and_true, Bool.true_and, true_and, Bool.false_eq_true, false_or, true_or, Hp.over, AM.over, over_nil, List.foldl_cons, List.foldl_nil, List.set_cons_zero, List.set_cons_succ, List.getElem?_cons_zero, List.getElem?_cons_succ, Option.join_some, List.length_cons, List.length_nil, Prim.sites, List.cons_append, List.nil_append]
    simp (disch := first | (simp only [ne_eq, reduceCtorEq, not_false_eq_true, implies_true, List.getElem?_cons_zero, List.getElem?_cons_succ]; done) | omega) only [WS, St.guard, St.put, evalO, reduceCtorEq, reduceIte, Nat.reduceAdd, Nat.reduceEqDiff]
    have hzl : (((itemsP ys).set k (itemAt ys 0)).set 0 (itemAt ys k)).length = 8 := by rw [List.length_set, List.length_set, itemsP_len]
    have hsm2 : smallI (((itemsP ys).set k (itemAt ys 0)).set 0 (itemAt ys k)) := fun x hx => by
      rcases List.mem_or_eq_of_mem_set hx with hx | rfl
      · rcases List.mem_or_eq_of_mem_set hx with hx | rfl
        · exact itemsP_small x hx
        · exact itemsP_small _ (List.mem_of_getElem? hP0)
      · exact psm
    have hk0 : decide (k = 0) = ((k : Int) == 0) := by rw [Bool.eq_iff_iff]; simp
    refine (WP_p (x := .bool (rightI (((itemsP ys).set k (itemAt ys 0)).set 0 (itemAt ys k)))) (by exact goodsRight_spec H.toGoodsLib ((vz _ hzl _ _).into) (by rw [hzl]; decide)) (gd _ _ (by simp))).2 ?_
    simp (disch := first | (simp only [ne_eq, reduceCtorEq, not_false_eq_true, implies_true, List.getElem?_cons_zero, List.getElem?_cons_succ]; done) | omega) only [WS, St.guard, St.put, evalO, reduceCtorEq, reduceIte, Nat.reduceAdd, Nat.reduceEqDiff]
    refine (WP_p (x := .bool true) (by exact awake10 H (.inr (.inr (.inl rfl)))) (gd _ _ (by simp))).2 ?_
    simp (disch := first | (simp only [ne_eq, reduceCtorEq, not_false_eq_true, implies_true, List.getElem?_cons_zero, List.getElem?_cons_succ]; done) | omega) only [WS, St.guard, St.put, evalO, reduceCtorEq, reduceIte, Nat.reduceAdd, Nat.reduceEqDiff]
    refine (WP_p (x := .bool (rightI (((itemsP ys).set k (itemAt ys 0)).set 0 (itemAt ys k)))) (by exact refGoods_spec H.toGoodsLib ((vz _ hzl _ _).into) (by rw [hzl]; decide) hsm2) (gd _ _ (by simp))).2 ?_
    simp (disch := first | (simp only [ne_eq, reduceCtorEq, not_false_eq_true, implies_true, List.getElem?_cons_zero, List.getElem?_cons_succ]; done) | omega) only [WS, St.guard, St.put, evalO, reduceCtorEq, reduceIte, Nat.reduceAdd, Nat.reduceEqDiff, hb]
    refine (WP_p (x := .int .i64 ((4 : Nat) : Int)) (by exact hmod) (gd _ _ (by simp))).2 ?_
    simp (disch := first | (simp only [ne_eq, reduceCtorEq, not_false_eq_true, implies_true, List.getElem?_cons_zero, List.getElem?_cons_succ]; done) | omega) only [WS, St.guard, St.put, evalO, reduceCtorEq, reduceIte, Nat.reduceAdd, Nat.reduceEqDiff, Int.reduceBNe, Int.reduceBEq]
    refine (WP_p (x := .int .i64 ((4 : Nat) : Int)) (by exact hmod) (gd _ _ (by simp))).2 ?_
    simp (disch := first | (simp only [ne_eq, reduceCtorEq, not_false_eq_true, implies_true, List.getElem?_cons_zero, List.getElem?_cons_succ]; done) | omega) only [WS, St.guard, St.put, evalO, reduceCtorEq, reduceIte, Nat.reduceAdd, Nat.reduceEqDiff, Int.reduceBNe, Int.reduceBEq, fin_tmp, leave_v, right_swap hk, hk0, hb]
    simp
end Go.AM

/- The laws of goods: so many, and no more. -/
namespace Go.AM
variable {prog : String → Option IFn}

def mkSku (i : Nat) : Txt := [97 + UInt8.ofNat (i / 26), 97 + UInt8.ofNat (i % 26)]
def mkItem (i : Nat) : ItemD := ⟨mkSku i, [120], 0, false⟩
def mks (n : Nat) : List ItemD := (List.range n).map mkItem
theorem mks_len {n} : (mks n).length = n := by simp [mks]
theorem mks_succ {n} : mks (n + 1) = mks n ++ [mkItem n] := by simp [mks, List.range_succ]
theorem mks_at {n i} (h : i < n) : (mks n)[i]? = some (mkItem i) := by simp [mks, h]
theorem mk_fact : ((List.range 501).all fun i => lessT (mkSku i) (mkSku (i + 1)) && nameOK (mkSku i)) = true := by kernel_rfl
theorem mk_less {i} (h : i < 501) : lessT (mkSku i) (mkSku (i + 1)) = true ∧ nameOK (mkSku i) = true := by
  have := List.all_eq_true.1 mk_fact i (by simpa using h)
  simpa using this
theorem mks_right {n} (h : n ≤ 501) : rightI (mks n) = decide (n ≤ 500) := by
  unfold rightI
  rw [mks_len, all_of fun j x hx => ?_, rise_of fun i a b h1 h2 => ?_, Bool.and_true, Bool.and_true]
  · unfold skus at h1 h2
    have hl := lt_of_get h2
    rw [List.length_map, mks_len] at hl
    rw [List.getElem?_map, mks_at (by omega)] at h1
    rw [List.getElem?_map, mks_at hl] at h2
    cases h1; cases h2
    exact (mk_less (by omega)).1
  · have hl := lt_of_get hx
    rw [mks_len] at hl
    rw [mks_at hl] at hx
    cases hx
    unfold okItem mkItem
    rw [(mk_less (by omega)).2]
    have e2 : nameOK [120] = true := by decide
    show (true && (nameOK [120] && _)) = true
    rw [e2]; rfl
theorem three_right {p : Int} (h : 0 ≤ p) : rightI [mkItem 0, { mkItem 1 with price := p }, mkItem 2] = decide (p ≤ 1000000000) := by
  have e : ∀ i, i < 501 → nameOK (mkSku i) = true := fun i h => (mk_less h).2
  unfold rightI skus
  simp only [List.all_cons, List.all_nil, okItem, mkItem, e 0 (by omega), e 1 (by omega), e 2 (by omega), decide_eq_true h]
  have e2 : nameOK [120] = true := by decide
  rw [e2]
  have e3 : rise (List.map ItemD.sku [⟨mkSku 0, [120], 0, false⟩, ⟨mkSku 1, [120], p, false⟩, ⟨mkSku 2, [120], 0, false⟩]) = true := by
    show rise [mkSku 0, mkSku 1, mkSku 2] = true
    decide
  rw [e3]
  simp

theorem GoodsMany_law (H : Law10 prog) (hp : prog "haberdash/haberdashlaw10.GoodsMany" = some f_law10_GoodsMany) {as} (h : IsAll [.int .i64, .int .i64] as) :
    ∃ G2, Ev prog (.call "haberdash/haberdashlaw10.GoodsMany" as []) (.ret (.v (.bool true)) G2) := by
  rcases as with _ | ⟨a0, _ | ⟨a1, _ | _⟩⟩ <;> try (simp [IsAll] at h; done)
  obtain ⟨⟨c0', h0, rfl⟩, ⟨c1', h1, rfl⟩, _⟩ := h
  obtain ⟨c0, rfl, hc0⟩ := is_i64 h0
  obtain ⟨c1, rfl, hc1⟩ := is_i64 h1
  refine ⟨[], call_of_fin hp ?_⟩
  have gn : Good ⟨[], [none, none, none, none, none]⟩ := trivial
  simp only [f_law10_GoodsMany_B, enter, List.length_cons, List.length_nil, List.replicate, Nat.reduceAdd, Nat.reduceSub, List.cons_append, List.nil_append, Ty.arg, intAV]
  simp (disch := first | (simp only [ne_eq, reduceCtorEq, not_false_eq_true, implies_true, List.getElem?_cons_zero, List.getElem?_cons_succ]; done) | omega) only [WS, St.guard, St.put, evalO, reduceCtorEq, reduceIte, Nat.reduceAdd, Nat.reduceEqDiff, new_s, virtBlk_eq, box_s, box_vs, box_vi, box_vb, px_load_l, px_load_o, loadB_s, storeX, storeB_s, alloc_s, lay, whole, Option.join_some, List.drop_zero, List.drop_succ_cons, List.take_succ_cons, List.take_zero, List.drop_nil, List.nil_append, List.cons_append, Nat.reduceLeDiff, Nat.zero_add, and_self, and_true, cells_int, cells_bool, cells_str, cells_string, cells_agg, cells_own, cells_ro, cells_ptr, cells_nil, AV.lf.lfs, AV.lf, px_build, fills, build_string, build_str, build_int, WDR_some, Nat.reduceLeDiff, Nat.le_refl, Bool.and_self]
  refine (WP_p (x := .int .i64 (umod c0 4 : Nat)) (by exact Mod_spec H.play.mod 4 rfl (by omega) (by omega)) gn).2 ?_
  have hm0 := umod_lt (c := c0) (n := 4) (by omega)
  generalize umod c0 4 = m0 at *
  have e0 : (498 : Int) + (m0 : Int) = ((498 + m0 : Nat) : Int) := by omega
  simp (disch := first | (simp only [ne_eq, reduceCtorEq, not_false_eq_true, implies_true, List.getElem?_cons_zero, List.getElem?_cons_succ]; done) | omega) only [WS, St.guard, St.put, evalO, reduceCtorEq, reduceIte, Nat.reduceAdd, Nat.reduceEqDiff, vBin_add_i64, e0]
  obtain ⟨n, hn⟩ : ∃ n, n = 498 + m0 := ⟨_, rfl⟩
  rw [← hn]
  refine (WP_p (x := .int .i64 (umod c1 4 : Nat)) (by exact Mod64_spec H.mod64 4 rfl (by omega) (by omega)) gn).2 ?_
  have hm1 := umod_lt (c := c1) (n := 4) (by omega)
  generalize umod c1 4 = m1 at *
  have e1 : (999999998 : Int) + (m1 : Int) = ((999999998 + m1 : Nat) : Int) := by omega
  simp (disch := first | (simp only [ne_eq, reduceCtorEq, not_false_eq_true, implies_true, List.getElem?_cons_zero, List.getElem?_cons_succ]; done) | omega) only [WS, St.guard, St.put, evalO, reduceCtorEq, reduceIte, Nat.reduceAdd, Nat.reduceEqDiff, new_s, virtBlk_eq, box_s, box_vs, box_vi, box_vb, px_load_l, px_load_o, loadB_s, storeX, storeB_s, alloc_s, lay, whole, Option.join_some, List.drop_zero, List.drop_succ_cons, List.take_succ_cons, List.take_zero, List.drop_nil, List.nil_append, List.cons_append, Nat.reduceLeDiff, Nat.zero_add, and_self, and_true, cells_int, cells_bool, cells_str, cells_string, cells_agg, cells_own, cells_ro, cells_ptr, cells_nil, AV.lf.lfs, AV.lf, px_build, fills, build_string, build_str, build_int, WDR_some, Nat.reduceLeDiff, Nat.le_refl, Bool.and_self, vBin_add_i64, e1]
  obtain ⟨p, hpp⟩ : ∃ p, p = 999999998 + m1 := ⟨_, rfl⟩
  rw [← hpp]
  refine WC_count (fun i => ⟨f_law10_GoodsMany_H0 (.v (.int .i64 (n : Nat))) (.v (.int .i64 (p : Nat))) (.own (.l 1) ((mks i).length * 4) 0 (mks i).length 4 none) (.v (.int .i64 (i : Nat))),
    ⟨[], [none, some (dBlk (itEnc.row (mks i)) true (decide (i = 0))), none, none, none]⟩⟩) n ?_ (fun i hi => ?_) ?_
  · exact clear_fre (by simp only [clear_nil, List.foldl_cons, List.foldl_nil, Option.some.injEq, List.map_cons, List.map_nil, List.getD_cons_zero, List.getD_cons_succ, List.set_cons_zero, List.set_cons_succ, Option.map_some, Option.bind_some, ne_eq, reduceCtorEq, not_false_eq_true, implies_true, beq_self_eq_true, BEq.rfl, if_true, if_false, Bool.false_eq_true, not_true_eq_false, Option.some.injEq, reduceIte, Bool.not_true, Bool.not_false, beq_true, beq_false, Bool.true_and, Bool.and_true, Bool.false_and, Bool.and_false, true_and, List.getElem?_cons_zero, List.getElem?_cons_succ, List.length_cons, List.length_nil, Nat.reduceAdd]; rfl) (by rfl) (by rfl) (by rfl)
  · have hlt' : (i : Int) < (n : Int) := by omega
    have q1 : vBin .quo (.int .i64 (i : Int)) (.int .i64 26) = some (.int .i64 ((i / 26 : Nat) : Int)) := by
      simp only [vBin, ne_eq, not_true_eq_false, if_false]
      rw [if_neg (by decide), show ((i : Int)).tdiv 26 = ((i / 26 : Nat) : Int) from rfl, wrap_i64_nat (by omega)]
    have q2 : vBin .rem (.int .i64 (i : Int)) (.int .i64 26) = some (.int .i64 ((i % 26 : Nat) : Int)) := by
      simp only [vBin, ne_eq, not_true_eq_false, if_false]
      rw [if_neg (by decide)]; rfl
    simp (disch := first | (simp only [ne_eq, reduceCtorEq, not_false_eq_true, implies_true, List.getElem?_cons_zero, List.getElem?_cons_succ]; done) | omega) only [f_law10_GoodsMany_L0, f_law10_GoodsMany_H0, WS, St.guard, St.put, evalO, reduceCtorEq, reduceIte, Nat.reduceAdd, Nat.reduceEqDiff, hlt', decide_true, q1, q2, cvU8, u97, addU8]
    refine (WR_eq (build1 (n := 2) (xs := (mkSku i).map byteAV) (by rfl) (by rfl) (by rfl) cells_bytes bytes_lfs)).2 ?_
    simp (disch := first | (simp only [ne_eq, reduceCtorEq, not_false_eq_true, implies_true, List.getElem?_cons_zero, List.getElem?_cons_succ]; done) | omega) only [WS, St.guard, St.put, evalO, reduceCtorEq, reduceIte, Nat.reduceAdd, Nat.reduceEqDiff]
    have vb : ∀ L, View ⟨[], some (dBlk ((mkSku i).map byteAV) false false) :: L⟩ (.own (.l 0) 2 0 2 1 (some 2)) 1 (mkSku i).length ((mkSku i).map byteAV) := fun L => own_view1 (j := 0) rfl rfl (by simp)
    refine (WR_eq ((vb _).bytesStr)).2 ?_
    simp (disch := first | (simp only [ne_eq, reduceCtorEq, not_false_eq_true, implies_true, List.getElem?_cons_zero, List.getElem?_cons_succ]; done) | omega) only [WS, St.guard, St.put, evalO, reduceCtorEq, reduceIte, Nat.reduceAdd, Nat.reduceEqDiff, new_s, virtBlk_eq, box_s, box_vs, box_vi, box_vb, px_load_l, px_load_o, loadB_s, storeX, storeB_s, alloc_s, lay, whole, Option.join_some, List.drop_zero, List.drop_succ_cons, List.take_succ_cons, List.take_zero, List.drop_nil, List.nil_append, List.cons_append, Nat.reduceLeDiff, Nat.zero_add, and_self, and_true, cells_int, cells_bool, cells_str, cells_string, cells_agg, cells_own, cells_ro, cells_ptr, cells_nil, AV.lf.lfs, AV.lf, px_build, fills, build_string, build_str, build_int, WDR_some, Nat.reduceLeDiff, Nat.le_refl, Bool.and_self]
    refine (WR_eq (build_T (T := itEnc) (x := mkItem i) rfl rfl)).2 ?_
    simp (disch := first | (simp only [ne_eq, reduceCtorEq, not_false_eq_true, implies_true, List.getElem?_cons_zero, List.getElem?_cons_succ]; done) | omega) only [WS, St.guard, St.put, evalO, reduceCtorEq, reduceIte, Nat.reduceAdd, Nat.reduceEqDiff, new_s, virtBlk_eq, box_s, box_vs, box_vi, box_vb, px_load_l, px_load_o, loadB_s, storeX, storeB_s, alloc_s, lay, whole, Option.join_some, List.drop_zero, List.drop_succ_cons, List.take_succ_cons, List.take_zero, List.drop_nil, List.nil_append, List.cons_append, Nat.reduceLeDiff, Nat.zero_add, and_self, and_true, cells_int, cells_bool, cells_str, cells_string, cells_agg, cells_own, cells_ro, cells_ptr, cells_nil, AV.lf.lfs, AV.lf, px_build, fills, build_string, build_str, build_int, WDR_some, Nat.reduceLeDiff, Nat.le_refl, Bool.and_self]
    refine (WR_eq (append_T (T := itEnc) (j := 1) (m := 2) (xs := mks i) (x := mkItem i) (v := decide (i = 0)) (by exact rfl) (by exact rfl) (by rw [mks_len]; unfold room; omega) (by simp))).2 ?_
    simp (disch := first | (simp only [ne_eq, reduceCtorEq, not_false_eq_true, implies_true, List.getElem?_cons_zero, List.getElem?_cons_succ]; done) | omega) only [WS, St.guard, St.put, evalO, reduceCtorEq, reduceIte, Nat.reduceAdd, Nat.reduceEqDiff, new_s, virtBlk_eq, box_s, box_vs, box_vi, box_vb, px_load_l, px_load_o, loadB_s, storeX, storeB_s, alloc_s, lay, whole, Option.join_some, List.drop_zero, List.drop_succ_cons, List.take_succ_cons, List.take_zero, List.drop_nil, List.nil_append, List.cons_append, Nat.reduceLeDiff, Nat.zero_add, and_self, and_true, cells_int, cells_bool, cells_str, cells_string, cells_agg, cells_own, cells_ro, cells_ptr, cells_nil, AV.lf.lfs, AV.lf, px_build, fills, build_string, build_str, build_int, WDR_some, Nat.reduceLeDiff, Nat.le_refl, Bool.and_self, vBin_add_i64]
    exact clear_fre (by simp only [clear_nil, List.foldl_cons, List.foldl_nil, Option.some.injEq, List.map_cons, List.map_nil, List.getD_cons_zero, List.getD_cons_succ, List.set_cons_zero, List.set_cons_succ, Option.map_some, Option.bind_some, ne_eq, reduceCtorEq, not_false_eq_true, implies_true, beq_self_eq_true, BEq.rfl, if_true, if_false, Bool.false_eq_true, not_true_eq_false, Option.some.injEq, reduceIte, Bool.not_true, Bool.not_false, beq_true, beq_false, Bool.true_and, Bool.and_true, Bool.false_and, Bool.and_false, true_and, List.getElem?_cons_zero, List.getElem?_cons_succ, List.length_cons, List.length_nil, Nat.reduceAdd, mks_len]; rfl) (by rw [mks_succ]; rfl) (by simp only [f_law10_GoodsMany_H0, mks_len, List.all_cons, List.all_nil, noRef_v, noRef_dead, noRef_own, noRef_ptr, noRef_nil, Bool.and_true, Bool.true_and, Bool.and_self, List.contains_cons, List.contains_nil, Bool.or_false, Nat.reduceBEq, Bool.not_false]) (by rfl)
  · have hn3 : 498 ≤ n := by omega
    have v := own_T (T := itEnc) (G := []) (L := [none, some (dBlk (itEnc.row (mks n)) true (decide (n = 0))), none, none, none]) (j := 1) (xs := mks n) (cap := none) rfl (by simp)
    rw [it_esz] at v
    have s1 := View.sliceHi v (k := .i64) (j := 3) (by rw [mks_len]; omega)
    have v3 := TView.sub v (Nat.zero_le 3) (by rw [mks_len]; omega)
    rw [it_esz] at s1 v3
    have h3 : ((mks n).drop 0).take (3 - 0) = [mkItem 0, mkItem 1, mkItem 2] := by
      rw [List.drop_zero, Nat.sub_zero]; unfold mks; rw [← List.map_take, List.take_range, Nat.min_eq_left (by omega)]; rfl
    rw [h3] at v3
    simp (disch := first | (simp only [ne_eq, reduceCtorEq, not_false_eq_true, implies_true, List.getElem?_cons_zero, List.getElem?_cons_succ]; done) | omega) only [f_law10_GoodsMany_L0, f_law10_GoodsMany_H0, WS, St.guard, St.put, evalO, reduceCtorEq, reduceIte, Nat.reduceAdd, Nat.reduceEqDiff, decide_false]
    refine (WP_p (x := .bool (rightI (mks n))) (by exact goodsRight_spec H.toGoodsLib (v.into) (by rw [mks_len]; unfold maxLen; omega)) (by unfold Good; dsimp only; repeat (first | exact trivial | rw [goodN] | refine ⟨dBlk_good, ?_⟩ | refine goodD (by assumption) ?_ | refine ⟨sBlk_good (by first | rfl | assumption | (simp [AV.labs.labss, AV.labs, refLt]; done)), ?_⟩))).2 ?_
    have s1' : prim ⟨[], [none, some (dBlk (itEnc.row (mks n)) true (decide (n = 0))), none, none, none]⟩ (.slice 4 false true false) [.own (.l 1) ((mks n).length * 4) 0 (mks n).length 4 none, .v (.int .i64 3)] = _ := s1
    generalize hA : AM.sub (.own (.l 1) ((mks n).length * 4) 0 (mks n).length 4 none) 4 0 3 = A at *
    rw [mks_right (by omega)]
    simp (disch := first | (simp only [ne_eq, reduceCtorEq, not_false_eq_true, implies_true, List.getElem?_cons_zero, List.getElem?_cons_succ]; done) | omega) only [WS, St.guard, St.put, evalO, reduceCtorEq, reduceIte, Nat.reduceAdd, Nat.reduceEqDiff, s1']
    refine (WR_eq (append_nil (esz := 4) (len := 3) v3 (itEnc.row_lf _) (by rfl) (by omega) (by unfold room; omega))).2 ?_
    have ix : ∀ h, prim h (.indexAddr 4) [.own (.l 4) (3 * 4) 0 3 4 none, .v (.int .i64 1)] = some (.ptr (.l 4) (3 * 4) (0 + 1 * 4), h) := fun h => rfl
    simp (disch := first | (simp only [ne_eq, reduceCtorEq, not_false_eq_true, implies_true, List.getElem?_cons_zero, List.getElem?_cons_succ]; done) | omega) only [WS, St.guard, St.put, evalO, reduceCtorEq, reduceIte, Nat.reduceAdd, Nat.reduceEqDiff, ix]
    refine (WR_eq (store_data (j := 4) (by exact rfl) (by rfl) (by omega) rfl rfl)).2 ?_
    have es : (itEnc.row [mkItem 0, mkItem 1, mkItem 2]).set (0 + 1 * 4 + 2) (.v (.int .i64 (p : Nat))) = itEnc.row [mkItem 0, { mkItem 1 with price := (p : Int) }, mkItem 2] := rfl
    rw [es]
    have vf : TView itEnc ⟨[], [none, some (dBlk (itEnc.row (mks n)) true (decide (n = 0))), none, none, some (dBlk (itEnc.row [mkItem 0, { mkItem 1 with price := (p : Int) }, mkItem 2]) true false)]⟩ (.own (.l 4) (3 * 4) 0 3 4 none) [mkItem 0, { mkItem 1 with price := (p : Int) }, mkItem 2] :=
      own_T (T := itEnc) (G := []) (L := [none, some (dBlk (itEnc.row (mks n)) true (decide (n = 0))), none, none, some (dBlk (itEnc.row [mkItem 0, { mkItem 1 with price := (p : Int) }, mkItem 2]) true false)]) (j := 4) (xs := [mkItem 0, { mkItem 1 with price := (p : Int) }, mkItem 2]) (o := true) (v := false) (cap := none) rfl (by intro c h; cases h)
    simp (disch := first | (simp only [ne_eq, reduceCtorEq, not_false_eq_true, implies_true, List.getElem?_cons_zero, List.getElem?_cons_succ]; done) | omega) only [WS, St.guard, St.put, evalO, reduceCtorEq, reduceIte, Nat.reduceAdd, Nat.reduceEqDiff]
    refine (WP_p (x := .bool true) (by exact awake10 H (.inr (.inr (.inr rfl)))) (by unfold Good; dsimp only; repeat (first | exact trivial | rw [goodN] | refine ⟨dBlk_good, ?_⟩ | refine goodD (by assumption) ?_ | refine ⟨sBlk_good (by first | rfl | assumption | (simp [AV.labs.labss, AV.labs, refLt]; done)), ?_⟩))).2 ?_
    have hb : ∀ b : Bool, (b == b) = true := fun b => by cases b <;> rfl
    have d1 : decide (n ≤ 500) = decide ((n : Int) ≤ 500) := by rw [decide_eq_decide]; omega
    simp (disch := first | (simp only [ne_eq, reduceCtorEq, not_false_eq_true, implies_true, List.getElem?_cons_zero, List.getElem?_cons_succ]; done) | omega) only [WS, St.guard, St.put, evalO, reduceCtorEq, reduceIte, Nat.reduceAdd, Nat.reduceEqDiff, d1, hb]
    refine (WP_p (x := .bool (rightI [mkItem 0, { mkItem 1 with price := (p : Int) }, mkItem 2])) (by exact goodsRight_spec H.toGoodsLib (vf.into) (by show 3 ≤ _; decide)) (by unfold Good; dsimp only; repeat (first | exact trivial | rw [goodN] | refine ⟨dBlk_good, ?_⟩ | refine goodD (by assumption) ?_ | refine ⟨sBlk_good (by first | rfl | assumption | (simp [AV.labs.labss, AV.labs, refLt]; done)), ?_⟩))).2 ?_
    rw [three_right (by omega)]
    simp (disch := first | (simp only [ne_eq, reduceCtorEq, not_false_eq_true, implies_true, List.getElem?_cons_zero, List.getElem?_cons_succ]; done) | omega) only [WS, St.guard, St.put, evalO, reduceCtorEq, reduceIte, Nat.reduceAdd, Nat.reduceEqDiff, hb, fin_tmp, leave_v]
    simp
end Go.AM
