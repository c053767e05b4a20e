import Derived.Test.YtikbagggffehkaaSortA
import Derived.Test.YtikbagggffehkaaPlayA
import Derived.Test.YtikbagggffehkaaScopeB
import Derived.KernelRfl
set_option linter.unusedVariables false
set_option linter.unusedSimpArgs false
namespace Go.AM
variable {prog : String → Option IFn}
structure FindLib (prog : String → Option IFn) : Prop where
  rin : prog "haberdash/haberdashref10.in" = some f_ref10_in
  find : prog "haberdash/goods.Find" = some f_goods_Find
  find1 : prog "haberdash/goods.Find$1" = some f_goods_Find_1
  rfind : prog "haberdash/haberdashref10.Find" = some f_ref10_Find
  bySku : prog "haberdash/goods.bySku" = some f_goods_bySku
  cmp : prog "cmp.Compare[string]" = some f_cmp_Compare_string_
  nan : prog "cmp.isNaN[string]" = some f_cmp_isNaN_string_
  sorted : prog "slices.IsSortedFunc[[]haberdash/api.Item,haberdash/api.Item]" = some f_slices_IsSortedFunc___api_Item_api_Item_
  search : prog "slices.BinarySearchFunc[[]haberdash/api.Item,haberdash/api.Item,haberdash/api.Item]" = some f_slices_BinarySearchFunc___api_Item_api_Item_api_Item_
  indexF : prog "slices.IndexFunc[[]haberdash/api.Item,haberdash/api.Item]" = some f_slices_IndexFunc___api_Item_api_Item_
theorem itEnc_av {x : ItemD} : itEnc.av x = .agg x.cells := rfl
def skus (xs : List ItemD) : List Txt := xs.map ItemD.sku
end Go.AM
namespace Go.AM
variable {prog : String → Option IFn}
structure ItAt (h : Hp) (a : AV) (i : Nat) (x : ItemD) : Prop where
  ix : prim h (.indexAddr 4) [a, .v (.int .i64 (i : Int))] = some (elemPtr a 4 i, h)
  ld : prim h (.load 4 true) [elemPtr a 4 i] = some (.agg x.cells, h)
  f0 : prim h (.fieldAddr 0) [elemPtr a 4 i] = some (fldPtr a 4 i 0, h)
  f1 : prim h (.fieldAddr 1) [elemPtr a 4 i] = some (fldPtr a 4 i 1, h)
  f2 : prim h (.fieldAddr 2) [elemPtr a 4 i] = some (fldPtr a 4 i 2, h)
  f3 : prim h (.fieldAddr 3) [elemPtr a 4 i] = some (fldPtr a 4 i 3, h)
  l0 : prim h (.load 1 false) [fldPtr a 4 i 0] = some (.v (str x.sku), h)
  l1 : prim h (.load 1 false) [fldPtr a 4 i 1] = some (.v (str x.cat), h)
  l2 : prim h (.load 1 false) [fldPtr a 4 i 2] = some (.v (.int .i64 x.price), h)
  l3 : prim h (.load 1 false) [fldPtr a 4 i 3] = some (.v (.bool x.used), h)
theorem it_at {h : Hp} {a} {xs : List ItemD} (v : TView itEnc h a xs) {i : Nat} {x : ItemD} (hx : xs[i]? = some x) : ItAt h a i x := by
  have hi := lt_of_get hx
  have vv : View h a 4 xs.length (itEnc.row xs) := v
  have ch : ((itEnc.row xs).drop (i * 4)).take 4 = x.cells := itEnc.row_chunk hx
  have hc : ∀ (f : Nat) (y : AV), f < 4 → x.cells[f]? = some y → (itEnc.row xs)[i * 4 + f]? = some y := fun f y hf hy => by
    rw [← ch, List.getElem?_take, if_pos hf, List.getElem?_drop] at hy
    exact hy
  exact ⟨v.index hi, v.load hx, vv.field hi, vv.field hi, vv.field hi, vv.field hi, vv.loadF hi (by omega) (hc 0 _ (by omega) rfl), vv.loadF hi (by omega) (hc 1 _ (by omega) rfl),
    vv.loadF hi (by omega) (hc 2 _ (by omega) rfl), vv.loadF hi (by omega) (hc 3 _ (by omega) rfl)⟩
def smallI (xs : List ItemD) : Prop := ∀ x ∈ xs, x.sku.length ≤ 9223372036854775807 ∧ x.cat.length ≤ 9223372036854775807
theorem in_spec (hf : prog "haberdash/haberdashref10.in" = some f_ref10_in) {G} {x m : Int} :
    Ev prog (.call "haberdash/haberdashref10.in" [.v (.int .i64 x), .v (.int .i64 m)] G) (.ret (.v (.bool (decide (0 ≤ x) && decide (x ≤ m)))) G) := by
  refine call_of_fin hf ?_
  simp only [f_ref10_in_B, enter, List.length_cons, List.length_nil, List.replicate, Nat.reduceAdd, Nat.reduceSub, List.cons_append, List.nil_append]
  by_cases h0 : x ≥ 0
  · have e : decide (0 ≤ x) = true := decide_eq_true h0
    simp (disch := first | (simp only [DS, reduceCtorEq]; done) | omega) only [WS, St.guard, St.put, evalO, reduceCtorEq, reduceIte, Nat.reduceAdd, Nat.reduceEqDiff, h0, decide_true, fin_tmp, leave_v, e]
    simp
  · have e : decide (0 ≤ x) = false := decide_eq_false h0
    simp (disch := first | (simp only [DS, reduceCtorEq]; done) | omega) only [WS, St.guard, St.put, evalO, reduceCtorEq, reduceIte, Nat.reduceAdd, Nat.reduceEqDiff, h0, decide_false, fin_tmp, leave_v, e]
    simp
theorem refFind_spec (H : FindLib prog) {G a} {xs : List ItemD} {s : Txt} (v : ∀ L, TView itEnc ⟨G, L⟩ a xs) (hl : xs.length ≤ maxLen) :
    Ev prog (.call "haberdash/haberdashref10.Find" [a, .v (str s)] G) (.ret (.v (.int .i64 (findV (skus xs) s))) G) := by
  have hml : xs.length ≤ 9223372036854775807 := hl
  refine call_of_fin H.rfind ?_
  simp only [f_ref10_Find_B, enter, List.length_cons, List.length_nil, List.replicate, Nat.reduceAdd, Nat.reduceSub, List.cons_append, List.nil_append]
  simp (disch := first | (simp only [DS, reduceCtorEq]; done) | omega) only [WS, St.guard, St.put, evalO, reduceCtorEq, reduceIte, Nat.reduceAdd, Nat.reduceEqDiff]
  refine WC_countP (fun i => ∀ (j : Nat) x, j < i → xs[j]? = some x → x.sku ≠ s) (fun i => ⟨f_ref10_Find_H0 a (.v (str s)) (.v (.int .i64 (i : Nat))), ⟨G, []⟩⟩) xs.length ?_ (fun j x h => by omega) (fun i hi hp => ?_) (fun hp => ?_)
  · simp only [clear_nil, List.foldl_cons, List.foldl_nil, Option.some.injEq, LS, reduceCtorEq, reduceIte, Nat.reduceAdd]; rfl
  · have hlt' : (i : Int) < (xs.length : Int) := by omega
    have hx : xs[i]? = some xs[i] := List.getElem?_eq_getElem hi
    generalize xs[i] = x at *
    have q := it_at (v []) hx
    simp (disch := first | (simp only [DS, reduceCtorEq]; done) | omega) only [f_ref10_Find_L0, f_ref10_Find_H0, WS, St.guard, St.put, evalO, reduceCtorEq, reduceIte, Nat.reduceAdd, Nat.reduceEqDiff, (v _).lenSlice, hlt', decide_true, q.ix, q.f0, q.l0, vBin_eql_str]
    by_cases hc : x.sku = s
    · have e : fstB (skus xs) s = i := findIdx_is (by simp [skus]; omega) (fun j y hj hy => by
        unfold skus at hy
        rw [List.getElem?_map] at hy
        obtain ⟨z, hz, rfl⟩ := Option.map_eq_some_iff.1 hy
        exact decide_eq_false (hp j z hj hz)) (fun y hy => by
        unfold skus at hy
        rw [List.getElem?_map, hx] at hy
        cases hy; exact decide_eq_true hc)
      have e2 : findV (skus xs) s = (i : Int) := by unfold findV; rw [e, if_pos (by simpa [skus] using hi)]
      simp (disch := first | (simp only [DS, reduceCtorEq]; done) | omega) only [WS, St.guard, St.put, evalO, reduceCtorEq, reduceIte, Nat.reduceAdd, Nat.reduceEqDiff, decide_eq_true hc, fin_tmp, leave_v, e2]
      simp
    · simp (disch := first | (simp only [DS, reduceCtorEq]; done) | omega) only [WS, St.guard, St.put, evalO, reduceCtorEq, reduceIte, Nat.reduceAdd, Nat.reduceEqDiff, decide_eq_false hc, vBin_add_i64, clear_nil, List.foldl_cons, List.foldl_nil, Option.some.injEq]
      refine ⟨rfl, fun j y hj h1 => ?_⟩
      by_cases hji : j < i
      · exact hp j y hji h1
      · obtain rfl : j = i := by omega
        rw [hx] at h1; cases h1; exact hc
  · have e : fstB (skus xs) s = (skus xs).length := findIdx_is (Nat.le_refl _) (fun j y hj hy => by
        unfold skus at hy
        rw [List.getElem?_map] at hy
        obtain ⟨z, hz, rfl⟩ := Option.map_eq_some_iff.1 hy
        exact decide_eq_false (hp j z (lt_of_get hz) hz)) (fun y hy => by simp at hy)
    have e2 : findV (skus xs) s = -1 := by unfold findV; rw [e, if_neg (by omega)]
    simp (disch := first | (simp only [DS, reduceCtorEq]; done) | omega) only [f_ref10_Find_L0, f_ref10_Find_H0, WS, St.guard, St.put, evalO, reduceCtorEq, reduceIte, Nat.reduceAdd, Nat.reduceEqDiff, (v _).lenSlice, decide_false, fin_tmp, leave_v, e2]
    simp
theorem bySku_spec (H : FindLib prog) {G} (x y : ItemD) : Ev prog (.call "haberdash/goods.bySku" [itEnc.av x, itEnc.av y] G) (.ret (.v (.int .i64 (cmpT x.sku y.sku))) G) := by
  refine call_of_fin H.bySku ?_
  simp only [f_goods_bySku_B, enter, List.length_cons, List.length_nil, List.replicate, Nat.reduceAdd, Nat.reduceSub, List.cons_append, List.nil_append, itEnc_av, ItemD.cells]
  simp (disch := first | (simp only [DS, reduceCtorEq]; done) | omega) only [WS, St.guard, St.put, evalO, reduceCtorEq, reduceIte, Nat.reduceAdd, Nat.reduceEqDiff, new_s, virtBlk_eq, box_s, box_vs, box_vi, box_vb, px_load_l, px_load_o, loadB_s, storeX, storeB_s, alloc_s, lay, whole, Option.join_some, List.drop_zero, List.drop_succ_cons, List.take_succ_cons, List.take_zero, List.drop_nil, List.nil_append, List.cons_append, Nat.reduceLeDiff, Nat.zero_add, and_self, and_true, cells_int, cells_bool, cells_str, cells_string, cells_agg, cells_own, cells_ro, cells_ptr, cells_nil, AV.lf.lfs, AV.lf, px_build, fills, build_string, build_str, build_int, WDR_some, Nat.reduceLeDiff, Nat.le_refl, Bool.and_self]
  refine (WP_p (x := .int .i64 (cmpT x.sku y.sku)) (by exact Compare_spec H.cmp H.nan) (by unfold Good; dsimp only; repeat (first | exact trivial | rw [goodN] | refine ⟨dBlk_good, ?_⟩ | refine goodD (by assumption) ?_ | refine ⟨sBlk_good (by first | rfl | assumption | (simp [AV.labs.labss, AV.labs, refLt]; done)), ?_⟩))).2 ?_
  simp (disch := first | (simp only [DS, reduceCtorEq]; done) | omega) only [WS, St.guard, St.put, evalO, reduceCtorEq, reduceIte, Nat.reduceAdd, Nat.reduceEqDiff, fin_tmp, leave_v]
  simp
theorem find1_spec (H : FindLib prog) {G} {p : Nat} {s : Txt} {d} (x : ItemD) (hp : G[p]? = some (some (sBlk [.v (str s)] d))) :
    Ev prog (.call "haberdash/goods.Find$1" [itEnc.av x, .ptr (.o p) 1 0] G) (.ret (.v (.bool (decide (x.sku = s)))) G) := by
  refine call_of_fin H.find1 ?_
  simp only [f_goods_Find_1_B, enter, List.length_cons, List.length_nil, List.replicate, Nat.reduceAdd, Nat.reduceSub, List.cons_append, List.nil_append, itEnc_av, ItemD.cells]
  simp (disch := first | (simp only [DS, reduceCtorEq]; done) | omega) only [WS, St.guard, St.put, evalO, reduceCtorEq, reduceIte, Nat.reduceAdd, Nat.reduceEqDiff, new_s, virtBlk_eq, box_s, box_vs, box_vi, box_vb, px_load_l, px_load_o, loadB_s, storeX, storeB_s, alloc_s, lay, whole, Option.join_some, List.drop_zero, List.drop_succ_cons, List.take_succ_cons, List.take_zero, List.drop_nil, List.nil_append, List.cons_append, Nat.reduceLeDiff, Nat.zero_add, and_self, and_true, cells_int, cells_bool, cells_str, cells_string, cells_agg, cells_own, cells_ro, cells_ptr, cells_nil, AV.lf.lfs, AV.lf, px_build, fills, build_string, build_str, build_int, WDR_some, Nat.reduceLeDiff, Nat.le_refl, Bool.and_self, hp, vBin_eql_str, fin_tmp, leave_v]
  simp
theorem findIdx_map' {α β : Type} {f : α → β} {p : β → Bool} : ∀ (xs : List α), (xs.map f).findIdx p = xs.findIdx (fun x => p (f x))
  | [] => rfl
  | x :: xs => by simp only [List.map_cons, List.findIdx_cons, findIdx_map' xs]
theorem into_nil {G : List (Option Blk)} : (⟨G, []⟩ : Hp).into = G := by simp [Hp.into]
theorem Find_spec (H : FindLib prog) {G a} {xs : List ItemD} {s : Txt} (v : ∀ L, TView itEnc ⟨G, L⟩ a xs) (hl : xs.length < 2 ^ 62) :
    Ev prog (.call "haberdash/goods.Find" [a, .v (str s)] G) (.ret (.v (.int .i64 (findV (skus xs) s))) G) := by
  have hml : xs.length ≤ maxLen := by unfold maxLen; omega
  refine call_of_fin H.find ?_
  simp only [f_goods_Find_B, enter, List.length_cons, List.length_nil, List.replicate, Nat.reduceAdd, Nat.reduceSub, List.cons_append, List.nil_append]
  simp (disch := first | (simp only [DS, reduceCtorEq]; done) | omega) only [WS, St.guard, St.put, evalO, reduceCtorEq, reduceIte, Nat.reduceAdd, Nat.reduceEqDiff, new_s, virtBlk_eq, box_s, box_vs, box_vi, box_vb, px_load_l, px_load_o, loadB_s, storeX, storeB_s, alloc_s, lay, whole, Option.join_some, List.drop_zero, List.drop_succ_cons, List.take_succ_cons, List.take_zero, List.drop_nil, List.nil_append, List.cons_append, Nat.reduceLeDiff, Nat.zero_add, and_self, and_true, cells_int, cells_bool, cells_str, cells_string, cells_agg, cells_own, cells_ro, cells_ptr, cells_nil, AV.lf.lfs, AV.lf, px_build, fills, build_string, build_str, build_int, WDR_some, Nat.reduceLeDiff, Nat.le_refl, Bool.and_self]
  refine (WP_p (x := .bool (sortedB (skus xs))) (by exact gSorted_spec (T := itEnc) rfl H.sorted ItemD.sku ((v _).into) hml (fun x y => bySku_spec H x y)) (by unfold Good; dsimp only; repeat (first | exact trivial | rw [goodN] | refine ⟨dBlk_good, ?_⟩ | refine goodD (by assumption) ?_ | refine ⟨sBlk_good (by first | rfl | assumption | (simp [AV.labs.labss, AV.labs, refLt]; done)), ?_⟩))).2 ?_
  cases hs : sortedB (skus xs)
  · simp (disch := first | (simp only [DS, reduceCtorEq]; done) | omega) only [WS, St.guard, St.put, evalO, reduceCtorEq, reduceIte, Nat.reduceAdd, Nat.reduceEqDiff, new_s, virtBlk_eq, box_s, box_vs, box_vi, box_vb, px_load_l, px_load_o, loadB_s, storeX, storeB_s, alloc_s, lay, whole, Option.join_some, List.drop_zero, List.drop_succ_cons, List.take_succ_cons, List.take_zero, List.drop_nil, List.nil_append, List.cons_append, Nat.reduceLeDiff, Nat.zero_add, and_self, and_true, cells_int, cells_bool, cells_str, cells_string, cells_agg, cells_own, cells_ro, cells_ptr, cells_nil, AV.lf.lfs, AV.lf, px_build, fills, build_string, build_str, build_int, WDR_some, Nat.reduceLeDiff, Nat.le_refl, Bool.and_self, px_makeFunc]
    have hG : (⟨G, [some (sBlk [.v (str s)] true), some (sBlk [.v (str s), .v (.string ⟨#[]⟩), .v (.int .i64 0), .v (.bool false)] true)]⟩ : Hp).into[G.length + 0]? = some (some (sBlk [.v (str s)] true)) :=
      into_data (h := ⟨G, [some (sBlk [.v (str s)] true), some (sBlk [.v (str s), .v (.string ⟨#[]⟩), .v (.int .i64 0), .v (.bool false)] true)]⟩) (j := 0) rfl rfl
    have e : (.int .i64 (if xs.findIdx (fun x => decide (x.sku = s)) < xs.length then (xs.findIdx (fun x => decide (x.sku = s)) : Int) else -1) : Value) = .int .i64 (findV (skus xs) s) := by
      unfold findV fstB skus
      rw [findIdx_map', List.length_map]
    refine (WP_p (x := .int .i64 (findV (skus xs) s)) (by
      rw [← e]
      refine gIndexF_spec (T := itEnc) rfl H.indexF (fun x => decide (x.sku = s)) ((v _).into) hml (.fn "haberdash/goods.Find$1" [] [.ptr (.o (G.length + 0)) 1 0]) fun x => ?_
      refine .opCallV rfl (r := .v (.bool (decide (x.sku = s)))) (G2 := (⟨_, []⟩ : Hp).into) ?_ (back_pure rfl)
      simp only [List.nil_append, List.cons_append, List.map_cons, List.map_nil, av_ren]
      exact find1_spec H x (by rw [into_nil]; exact hG)) (by unfold Good; dsimp only; repeat (first | exact trivial | rw [goodN] | refine ⟨dBlk_good, ?_⟩ | refine goodD (by assumption) ?_ | refine ⟨sBlk_good (by first | rfl | assumption | (simp [AV.labs.labss, AV.labs, refLt]; done)), ?_⟩))).2 ?_
    simp (disch := first | (simp only [DS, reduceCtorEq]; done) | omega) only [WS, St.guard, St.put, evalO, reduceCtorEq, reduceIte, Nat.reduceAdd, Nat.reduceEqDiff, fin_tmp, leave_v]
    simp
  · simp (disch := first | (simp only [DS, reduceCtorEq]; done) | omega) only [WS, St.guard, St.put, evalO, reduceCtorEq, reduceIte, Nat.reduceAdd, Nat.reduceEqDiff, new_s, virtBlk_eq, box_s, box_vs, box_vi, box_vb, px_load_l, px_load_o, loadB_s, storeX, storeB_s, alloc_s, lay, whole, Option.join_some, List.drop_zero, List.drop_succ_cons, List.take_succ_cons, List.take_zero, List.drop_nil, List.nil_append, List.cons_append, Nat.reduceLeDiff, Nat.zero_add, and_self, and_true, cells_int, cells_bool, cells_str, cells_string, cells_agg, cells_own, cells_ro, cells_ptr, cells_nil, AV.lf.lfs, AV.lf, px_build, fills, build_string, build_str, build_int, WDR_some, Nat.reduceLeDiff, Nat.le_refl, Bool.and_self]
    refine (WP_r (r := .tup [.v (.int .i64 (lowB (skus xs) s : Nat)), .v (.bool (decide ((skus xs)[lowB (skus xs) s]? = some s)))]) (by
      exact gSearch_spec (T := itEnc) (x0 := ⟨s, [], 0, false⟩) rfl H.search ItemD.sku ((v _).into) hl (sortedB_iff.1 hs) (fun x y => bySku_spec H x y)) rfl (by unfold Good; dsimp only; repeat (first | exact trivial | rw [goodN] | refine ⟨dBlk_good, ?_⟩ | refine goodD (by assumption) ?_ | refine ⟨sBlk_good (by first | rfl | assumption | (simp [AV.labs.labss, AV.labs, refLt]; done)), ?_⟩))).2 ?_
    have e := fst_low (s := s) (sortedB_iff.1 hs)
    by_cases hl2 : (skus xs)[lowB (skus xs) s]? = some s
    · rw [if_pos hl2] at e
      rw [decide_eq_true hl2]
      simp (disch := first | (simp only [DS, reduceCtorEq]; done) | omega) only [WS, St.guard, St.put, evalO, reduceCtorEq, reduceIte, Nat.reduceAdd, Nat.reduceEqDiff, fin_tmp, leave_v, e]
      simp
    · rw [if_neg hl2] at e
      rw [decide_eq_false hl2]
      simp (disch := first | (simp only [DS, reduceCtorEq]; done) | omega) only [WS, St.guard, St.put, evalO, reduceCtorEq, reduceIte, Nat.reduceAdd, Nat.reduceEqDiff, fin_tmp, leave_v, e]
      simp
end Go.AM
namespace Go.AM
variable {prog : String → Option IFn}
section
variable {α : Type} {T : Enc α}
theorem build_T {G L} {j : Nat} {zs : List Value} {x : α} (hz : zs.length = T.esz) (hL : L[j]? = some none) :
    prim ⟨G, L⟩ (.buildSlice j false T.esz 1 zs [(0, T.esz)]) [T.av x] = some (.own (.l j) T.esz 0 1 T.esz (some 1), ⟨G, L.set j (some (dBlk (T.E x) false false))⟩) := by
  rw [px_buildSlice]
  have hl : ((List.replicate 1 (zs.map AV.v)).flatten).length = T.esz := by simp [hz]
  have hf : fills [(0, T.esz)] ((List.replicate 1 (zs.map AV.v)).flatten) [T.av x] = some (T.E x) := by
    simp only [fills, T.cellsOf, T.len]
    rw [if_pos ⟨trivial, by omega⟩]
    congr 1
    unfold lay
    rw [List.take_zero, List.nil_append, Nat.zero_add, T.len, List.drop_of_length_le (by omega), List.append_nil]
  simp only [Hp.mayFreeze, Bool.false_eq_true, if_false, Option.bind_some, hf]
  refine (if_pos (by rw [T.len, Nat.one_mul])).trans ?_
  rw [newBlk_data (T.lf x)]
  simp only [Hp.new, hL, Option.map_some, Nat.one_mul]
theorem append_T {G L} {site j m bytes : Nat} {xs : List α} {x : α} {v o2 v2 : Bool} {cap} (hL : L[j]? = some (some (dBlk (T.row xs) true v))) (hm : L[m]? = some (some (dBlk (T.E x) o2 v2))) (hr : (xs.length + 1) * bytes ≤ room) (hcap : ∀ c, cap = some c → 1 ≤ c) :
    prim ⟨G, L⟩ (.append site false T.esz bytes) [.own (.l j) (xs.length * T.esz) 0 xs.length T.esz none, .own (.l m) T.esz 0 1 T.esz cap] =
      some (.own (.l j) ((xs.length + 1) * T.esz) 0 (xs.length + 1) T.esz none, ⟨G, L.set j (some (dBlk (T.row (xs ++ [x])) true false))⟩) := by
  have hv : View ⟨G, L⟩ (.own (.l m) T.esz 0 1 T.esz cap) T.esz 1 (T.E x) := own_viewC hm (T.len x) (by omega) T.pos hcap
  have := append_own (site := site) (bytes := bytes) hL (T.row_len xs) hv (T.lf x) (by omega) hr
  rw [T.row_append, show T.row [x] = T.E x from by simp [Enc.row]]
  exact this
theorem own_T {G L} {j : Nat} {xs : List α} {o v : Bool} {cap} (hL : L[j]? = some (some (dBlk (T.row xs) o v))) (hc : ∀ c, cap = some c → xs.length ≤ c) : TView T ⟨G, L⟩ (.own (.l j) (xs.length * T.esz) 0 xs.length T.esz cap) xs :=
  own_viewC hL (T.row_len xs) rfl T.pos hc
end
theorem Mod64_spec (hf : prog "haberdash/haberdashplay.Mod64" = some f_play_Mod64) {G} {c z : Int} (n : Nat) (hz : z = n) (h0 : 0 < n) (hn : n < 9223372036854775808) :
    Ev prog (.call "haberdash/haberdashplay.Mod64" [.v (.int .i64 c), .v (.int .i64 z)] G) (.ret (.v (.int .i64 (umod c n : Nat))) G) := by
  refine call_of_fin hf ?_
  have := umod_lt (c := c) h0
  simp only [f_play_Mod64_B, enter, List.length_cons, List.length_nil, List.replicate, Nat.reduceAdd, Nat.reduceSub, List.cons_append, List.nil_append]
  simp (disch := first | (simp only [DS, reduceCtorEq]; done) | omega) only [WS, St.guard, St.put, evalO, reduceCtorEq, reduceIte, Nat.reduceAdd, Nat.reduceEqDiff]
  rw [vRem_u64 n hz h0 hn]
  simp (disch := first | (simp only [DS, reduceCtorEq]; done) | omega) only [WS, St.guard, St.put, evalO, reduceCtorEq, reduceIte, Nat.reduceAdd, Nat.reduceEqDiff, wrap_i64_nat, fin_tmp, leave_v]
  simp
def itemAt (xs : List ItemD) (k : Nat) : ItemD := match xs[k]? with
  | none => ⟨skuN k, catN k, 100 + 37 * (k : Int), false⟩
  | some x => ⟨skuN k, catAt (umod (pickV x.cat (min x.cat.length 8)) 3), (umod x.price 4000 : Nat), x.used && k == 7⟩
def itemsP (xs : List ItemD) : List ItemD := (List.range 8).map (itemAt xs)
def itemsN (xs : List ItemD) (k : Nat) : List ItemD := (List.range k).map (itemAt xs)
theorem itemsN_len {xs k} : (itemsN xs k).length = k := by simp [itemsN]
theorem itemsN_succ {xs k} : itemsN xs (k + 1) = itemsN xs k ++ [itemAt xs k] := by simp [itemsN, List.range_succ]
theorem Items_spec (H : PlayBase prog) (hf : prog "haberdash/haberdashplay.Items" = some f_play_Items) (h64 : prog "haberdash/haberdashplay.Mod64" = some f_play_Mod64) {G a} {xs : List ItemD} (v : ∀ L, TView itEnc ⟨G, L⟩ a xs) :
    Ev prog (.call "haberdash/haberdashplay.Items" [a] G) (.ret (.own (.o G.length) 32 0 8 4 none) (G ++ [some (dBlk (itEnc.row (itemsP xs)) true false)])) := by
  have na : ∀ ks, noRef ks a = true := fun ks => noRef_out (View.out (v []))
  refine call_of_fin hf ?_
  simp only [f_play_Items_B, enter, List.length_cons, List.length_nil, List.replicate, Nat.reduceAdd, Nat.reduceSub, List.cons_append, List.nil_append]
  simp (disch := first | (simp only [DS, reduceCtorEq]; done) | omega) only [WS, St.guard, St.put, evalO, reduceCtorEq, reduceIte, Nat.reduceAdd, Nat.reduceEqDiff, new_s, virtBlk_eq, box_s, box_vs, box_vi, box_vb, px_load_l, px_load_o, loadB_s, storeX, storeB_s, alloc_s, lay, whole, Option.join_some, List.drop_zero, List.drop_succ_cons, List.take_succ_cons, List.take_zero, List.drop_nil, List.nil_append, List.cons_append, Nat.reduceLeDiff, Nat.zero_add, and_self, and_true, cells_int, cells_bool, cells_str, cells_string, cells_agg, cells_own, cells_ro, cells_ptr, cells_nil, AV.lf.lfs, AV.lf, px_build, fills, build_string, build_str, build_int, WDR_some, Nat.reduceLeDiff, Nat.le_refl, Bool.and_self]
  refine WC_count (fun k => ⟨f_play_Items_H0 a (.own (.l 0) ((itemsN xs k).length * 4) 0 (itemsN xs k).length 4 none) (.v (.int .i64 (k : Nat))), ⟨G, [some (dBlk (itEnc.row (itemsN xs k)) true (decide (k = 0))), none, none, none]⟩⟩) 8 ?_ (fun k hk => ?_) ?_
  · exact clear_fre (by simp only [clear_nil, List.foldl_cons, List.foldl_nil, Option.some.injEq, LS, reduceCtorEq, reduceIte, Nat.reduceAdd]; rfl) (by rfl) (by simp only [f_play_Items_H0, List.all_cons, List.all_nil, noRef_v, noRef_dead, noRef_own, noRef_ptr, noRef_nil, Bool.and_true, Bool.true_and, Bool.and_self, List.contains_cons, List.contains_nil, Bool.or_false, Nat.reduceBEq, Bool.not_false, na]) (by rfl)
  · have hlt' : (k : Int) < 8 := by omega
    have e1 : IntKind.i64.wrap (37 * (k : Int)) = 37 * (k : Int) := wrap_i64_of (by omega) (by omega)
    simp (disch := first | (simp only [DS, reduceCtorEq]; done) | omega) only [f_play_Items_L0, f_play_Items_H0, WS, St.guard, St.put, evalO, reduceCtorEq, reduceIte, Nat.reduceAdd, Nat.reduceEqDiff, new_s, virtBlk_eq, box_s, box_vs, box_vi, box_vb, px_load_l, px_load_o, loadB_s, storeX, storeB_s, alloc_s, lay, whole, Option.join_some, List.drop_zero, List.drop_succ_cons, List.take_succ_cons, List.take_zero, List.drop_nil, List.nil_append, List.cons_append, Nat.reduceLeDiff, Nat.zero_add, and_self, and_true, cells_int, cells_bool, cells_str, cells_string, cells_agg, cells_own, cells_ro, cells_ptr, cells_nil, AV.lf.lfs, AV.lf, px_build, fills, build_string, build_str, build_int, WDR_some, Nat.reduceLeDiff, Nat.le_refl, Bool.and_self, hlt', decide_true]
    refine (WP_p (x := str (skuN k)) (by exact Sku_spec H.sku H.mod) (by unfold Good; dsimp only; repeat (first | exact trivial | rw [goodN] | refine ⟨dBlk_good, ?_⟩ | refine goodD (by assumption) ?_ | refine ⟨sBlk_good (by first | rfl | assumption | (simp [AV.labs.labss, AV.labs, refLt]; done)), ?_⟩))).2 ?_
    simp (disch := first | (simp only [DS, reduceCtorEq]; done) | omega) only [WS, St.guard, St.put, evalO, reduceCtorEq, reduceIte, Nat.reduceAdd, Nat.reduceEqDiff, new_s, virtBlk_eq, box_s, box_vs, box_vi, box_vb, px_load_l, px_load_o, loadB_s, storeX, storeB_s, alloc_s, lay, whole, Option.join_some, List.drop_zero, List.drop_succ_cons, List.take_succ_cons, List.take_zero, List.drop_nil, List.nil_append, List.cons_append, Nat.reduceLeDiff, Nat.zero_add, and_self, and_true, cells_int, cells_bool, cells_str, cells_string, cells_agg, cells_own, cells_ro, cells_ptr, cells_nil, AV.lf.lfs, AV.lf, px_build, fills, build_string, build_str, build_int, WDR_some, Nat.reduceLeDiff, Nat.le_refl, Bool.and_self]
    refine (WP_p (x := str (catN k)) (by exact Category_spec H.cat H.mod) (by unfold Good; dsimp only; repeat (first | exact trivial | rw [goodN] | refine ⟨dBlk_good, ?_⟩ | refine goodD (by assumption) ?_ | refine ⟨sBlk_good (by first | rfl | assumption | (simp [AV.labs.labss, AV.labs, refLt]; done)), ?_⟩))).2 ?_
    simp (disch := first | (simp only [DS, reduceCtorEq]; done) | omega) only [WS, St.guard, St.put, evalO, reduceCtorEq, reduceIte, Nat.reduceAdd, Nat.reduceEqDiff, new_s, virtBlk_eq, box_s, box_vs, box_vi, box_vb, px_load_l, px_load_o, loadB_s, storeX, storeB_s, alloc_s, lay, whole, Option.join_some, List.drop_zero, List.drop_succ_cons, List.take_succ_cons, List.take_zero, List.drop_nil, List.nil_append, List.cons_append, Nat.reduceLeDiff, Nat.zero_add, and_self, and_true, cells_int, cells_bool, cells_str, cells_string, cells_agg, cells_own, cells_ro, cells_ptr, cells_nil, AV.lf.lfs, AV.lf, px_build, fills, build_string, build_str, build_int, WDR_some, Nat.reduceLeDiff, Nat.le_refl, Bool.and_self, vBin_mul_i64, vBin_add_i64, (v _).lenSlice]
    have k7 : (k == 7) = ((k : Int) == 7) := by rw [Bool.eq_iff_iff]; simp; omega
    by_cases hkl : k < xs.length
    · have hkl' : (k : Int) < (xs.length : Int) := by omega
      have hx : xs[k]? = some xs[k] := List.getElem?_eq_getElem hkl
      generalize xs[k] = x at *
      have q := fun L => it_at (v L) hx
      simp (disch := first | (simp only [DS, reduceCtorEq]; done) | omega) only [WS, St.guard, St.put, evalO, reduceCtorEq, reduceIte, Nat.reduceAdd, Nat.reduceEqDiff, new_s, virtBlk_eq, box_s, box_vs, box_vi, box_vb, px_load_l, px_load_o, loadB_s, storeX, storeB_s, alloc_s, lay, whole, Option.join_some, List.drop_zero, List.drop_succ_cons, List.take_succ_cons, List.take_zero, List.drop_nil, List.nil_append, List.cons_append, Nat.reduceLeDiff, Nat.zero_add, and_self, and_true, cells_int, cells_bool, cells_str, cells_string, cells_agg, cells_own, cells_ro, cells_ptr, cells_nil, AV.lf.lfs, AV.lf, px_build, fills, build_string, build_str, build_int, WDR_some, Nat.reduceLeDiff, Nat.le_refl, Bool.and_self, hkl', decide_true, (q _).ix, (q _).f1, (q _).l1]
      refine WDP_r (r := .v (.int .i64 (pickV x.cat (min x.cat.length 8)))) (fun X _ => by exact pick_spec H.pick) rfl (by unfold Good; dsimp only; repeat (first | exact trivial | rw [goodN] | refine ⟨dBlk_good, ?_⟩ | refine goodD (by assumption) ?_ | refine ⟨sBlk_good (by first | rfl | assumption | (simp [AV.labs.labss, AV.labs, refLt]; done)), ?_⟩)) ?_
      simp (disch := first | (simp only [DS, reduceCtorEq]; done) | omega) only [WS, St.guard, St.put, evalO, reduceCtorEq, reduceIte, Nat.reduceAdd, Nat.reduceEqDiff, new_s, virtBlk_eq, box_s, box_vs, box_vi, box_vb, px_load_l, px_load_o, loadB_s, storeX, storeB_s, alloc_s, lay, whole, Option.join_some, List.drop_zero, List.drop_succ_cons, List.take_succ_cons, List.take_zero, List.drop_nil, List.nil_append, List.cons_append, Nat.reduceLeDiff, Nat.zero_add, and_self, and_true, cells_int, cells_bool, cells_str, cells_string, cells_agg, cells_own, cells_ro, cells_ptr, cells_nil, AV.lf.lfs, AV.lf, px_build, fills, build_string, build_str, build_int, WDR_some, Nat.reduceLeDiff, Nat.le_refl, Bool.and_self]
      refine WDP_r (r := .v (str (catAt (umod (pickV x.cat (min x.cat.length 8)) 3)))) (fun X _ => by exact Category_spec H.cat H.mod) rfl (by unfold Good; dsimp only; repeat (first | exact trivial | rw [goodN] | refine ⟨dBlk_good, ?_⟩ | refine goodD (by assumption) ?_ | refine ⟨sBlk_good (by first | rfl | assumption | (simp [AV.labs.labss, AV.labs, refLt]; done)), ?_⟩)) ?_
      simp (disch := first | (simp only [DS, reduceCtorEq]; done) | omega) only [WS, St.guard, St.put, evalO, reduceCtorEq, reduceIte, Nat.reduceAdd, Nat.reduceEqDiff, new_s, virtBlk_eq, box_s, box_vs, box_vi, box_vb, px_load_l, px_load_o, loadB_s, storeX, storeB_s, alloc_s, lay, whole, Option.join_some, List.drop_zero, List.drop_succ_cons, List.take_succ_cons, List.take_zero, List.drop_nil, List.nil_append, List.cons_append, Nat.reduceLeDiff, Nat.zero_add, and_self, and_true, cells_int, cells_bool, cells_str, cells_string, cells_agg, cells_own, cells_ro, cells_ptr, cells_nil, AV.lf.lfs, AV.lf, px_build, fills, build_string, build_str, build_int, WDR_some, Nat.reduceLeDiff, Nat.le_refl, Bool.and_self, (q _).ix, (q _).f2, (q _).l2]
      refine WDP_r (r := .v (.int .i64 (umod x.price 4000 : Nat))) (fun X _ => by exact Mod64_spec h64 4000 rfl (by omega) (by omega)) rfl (by unfold Good; dsimp only; repeat (first | exact trivial | rw [goodN] | refine ⟨dBlk_good, ?_⟩ | refine goodD (by assumption) ?_ | refine ⟨sBlk_good (by first | rfl | assumption | (simp [AV.labs.labss, AV.labs, refLt]; done)), ?_⟩)) ?_
      cases hu : x.used
      · simp (disch := first | (simp only [DS, reduceCtorEq]; done) | omega) only [WS, St.guard, St.put, evalO, reduceCtorEq, reduceIte, Nat.reduceAdd, Nat.reduceEqDiff, new_s, virtBlk_eq, box_s, box_vs, box_vi, box_vb, px_load_l, px_load_o, loadB_s, storeX, storeB_s, alloc_s, lay, whole, Option.join_some, List.drop_zero, List.drop_succ_cons, List.take_succ_cons, List.take_zero, List.drop_nil, List.nil_append, List.cons_append, Nat.reduceLeDiff, Nat.zero_add, and_self, and_true, cells_int, cells_bool, cells_str, cells_string, cells_agg, cells_own, cells_ro, cells_ptr, cells_nil, AV.lf.lfs, AV.lf, px_build, fills, build_string, build_str, build_int, WDR_some, Nat.reduceLeDiff, Nat.le_refl, Bool.and_self, (q _).ix, (q _).f3, (q _).l3, hu]
        refine WDP_er (by unfold Good; dsimp only; repeat (first | exact trivial | rw [goodN] | refine ⟨dBlk_good, ?_⟩ | refine goodD (by assumption) ?_ | refine ⟨sBlk_good (by first | rfl | assumption | (simp [AV.labs.labss, AV.labs, refLt]; done)), ?_⟩)) rfl ?_
        simp (disch := first | (simp only [DS, reduceCtorEq]; done) | omega) only [WS, St.guard, St.put, evalO, reduceCtorEq, reduceIte, Nat.reduceAdd, Nat.reduceEqDiff, WDX_some, reduceIte, if_true, if_false, Bool.and_true, Bool.true_and, true_and, Bool.false_eq_true, false_or, true_or, Hp.over, AM.over, over_nil, List.foldl_cons, List.foldl_nil, List.set_cons_zero, List.set_cons_succ, List.getElem?_cons_zero, List.getElem?_cons_succ, Option.join_some, List.length_cons, List.length_nil, Prim.sites, List.cons_append, List.nil_append, new_s, virtBlk_eq, box_s, box_vs, box_vi, box_vb, px_load_l, px_load_o, loadB_s, storeX, storeB_s, alloc_s, lay, whole, Option.join_some, List.drop_zero, List.drop_succ_cons, List.take_succ_cons, List.take_zero, List.drop_nil, List.nil_append, List.cons_append, Nat.reduceLeDiff, Nat.zero_add, and_self, and_true, cells_int, cells_bool, cells_str, cells_string, cells_agg, cells_own, cells_ro, cells_ptr, cells_nil, AV.lf.lfs, AV.lf, px_build, fills, build_string, build_str, build_int, WDR_some, Nat.reduceLeDiff, Nat.le_refl, Bool.and_self]
        refine ⟨⟨rfl, (by unfold Good; dsimp only; repeat (first | exact trivial | rw [goodN] | refine ⟨dBlk_good, ?_⟩ | refine goodD (by assumption) ?_ | refine ⟨sBlk_good (by first | rfl | assumption | (simp [AV.labs.labss, AV.labs, refLt]; done)), ?_⟩))⟩, ?_⟩
        refine WDP_er (by unfold Good; dsimp only; repeat (first | exact trivial | rw [goodN] | refine ⟨dBlk_good, ?_⟩ | refine goodD (by assumption) ?_ | refine ⟨sBlk_good (by first | rfl | assumption | (simp [AV.labs.labss, AV.labs, refLt]; done)), ?_⟩)) rfl ?_
        simp (disch := first | (simp only [DS, reduceCtorEq]; done) | omega) only [WS, St.guard, St.put, evalO, reduceCtorEq, reduceIte, Nat.reduceAdd, Nat.reduceEqDiff, WDX_some, reduceIte, if_true, if_false, Bool.and_true, Bool.true_and, true_and, Bool.false_eq_true, false_or, true_or, Hp.over, AM.over, over_nil, List.foldl_cons, List.foldl_nil, List.set_cons_zero, List.set_cons_succ, List.getElem?_cons_zero, List.getElem?_cons_succ, Option.join_some, List.length_cons, List.length_nil, Prim.sites, List.cons_append, List.nil_append, new_s, virtBlk_eq, box_s, box_vs, box_vi, box_vb, px_load_l, px_load_o, loadB_s, storeX, storeB_s, alloc_s, lay, whole, Option.join_some, List.drop_zero, List.drop_succ_cons, List.take_succ_cons, List.take_zero, List.drop_nil, List.nil_append, List.cons_append, Nat.reduceLeDiff, Nat.zero_add, and_self, and_true, cells_int, cells_bool, cells_str, cells_string, cells_agg, cells_own, cells_ro, cells_ptr, cells_nil, AV.lf.lfs, AV.lf, px_build, fills, build_string, build_str, build_int, WDR_some, Nat.reduceLeDiff, Nat.le_refl, Bool.and_self]
        refine ⟨⟨rfl, (by unfold Good; dsimp only; repeat (first | exact trivial | rw [goodN] | refine ⟨dBlk_good, ?_⟩ | refine goodD (by assumption) ?_ | refine ⟨sBlk_good (by first | rfl | assumption | (simp [AV.labs.labss, AV.labs, refLt]; done)), ?_⟩))⟩, ?_⟩
        refine WDP_er (by unfold Good; dsimp only; repeat (first | exact trivial | rw [goodN] | refine ⟨dBlk_good, ?_⟩ | refine goodD (by assumption) ?_ | refine ⟨sBlk_good (by first | rfl | assumption | (simp [AV.labs.labss, AV.labs, refLt]; done)), ?_⟩)) rfl ?_
        simp (disch := first | (simp only [DS, reduceCtorEq]; done) | omega) only [WS, St.guard, St.put, evalO, reduceCtorEq, reduceIte, Nat.reduceAdd, Nat.reduceEqDiff, WDX_some, reduceIte, if_true, if_false, Bool.and_true, Bool.true_and, true_and, Bool.false_eq_true, false_or, true_or, Hp.over, AM.over, over_nil, List.foldl_cons, List.foldl_nil, List.set_cons_zero, List.set_cons_succ, List.getElem?_cons_zero, List.getElem?_cons_succ, Option.join_some, List.length_cons, List.length_nil, Prim.sites, List.cons_append, List.nil_append, new_s, virtBlk_eq, box_s, box_vs, box_vi, box_vb, px_load_l, px_load_o, loadB_s, storeX, storeB_s, alloc_s, lay, whole, Option.join_some, List.drop_zero, List.drop_succ_cons, List.take_succ_cons, List.take_zero, List.drop_nil, List.nil_append, List.cons_append, Nat.reduceLeDiff, Nat.zero_add, and_self, and_true, cells_int, cells_bool, cells_str, cells_string, cells_agg, cells_own, cells_ro, cells_ptr, cells_nil, AV.lf.lfs, AV.lf, px_build, fills, build_string, build_str, build_int, WDR_some, Nat.reduceLeDiff, Nat.le_refl, Bool.and_self]
        refine ⟨⟨rfl, (by unfold Good; dsimp only; repeat (first | exact trivial | rw [goodN] | refine ⟨dBlk_good, ?_⟩ | refine goodD (by assumption) ?_ | refine ⟨sBlk_good (by first | rfl | assumption | (simp [AV.labs.labss, AV.labs, refLt]; done)), ?_⟩))⟩, ?_⟩
        refine (WR_eq (build_T (T := itEnc) (x := ⟨skuN k, catAt (umod (pickV x.cat (min x.cat.length 8)) 3), (umod x.price 4000 : Nat), false⟩) rfl rfl)).2 ?_
        simp (disch := first | (simp only [DS, reduceCtorEq]; done) | omega) only [WS, St.guard, St.put, evalO, reduceCtorEq, reduceIte, Nat.reduceAdd, Nat.reduceEqDiff, new_s, virtBlk_eq, box_s, box_vs, box_vi, box_vb, px_load_l, px_load_o, loadB_s, storeX, storeB_s, alloc_s, lay, whole, Option.join_some, List.drop_zero, List.drop_succ_cons, List.take_succ_cons, List.take_zero, List.drop_nil, List.nil_append, List.cons_append, Nat.reduceLeDiff, Nat.zero_add, and_self, and_true, cells_int, cells_bool, cells_str, cells_string, cells_agg, cells_own, cells_ro, cells_ptr, cells_nil, AV.lf.lfs, AV.lf, px_build, fills, build_string, build_str, build_int, WDR_some, Nat.reduceLeDiff, Nat.le_refl, Bool.and_self]
        refine (WR_eq (append_T (T := itEnc) (j := 0) (m := 2) (xs := itemsN xs k) (x := ⟨skuN k, catAt (umod (pickV x.cat (min x.cat.length 8)) 3), (umod x.price 4000 : Nat), false⟩) (v := decide (k = 0)) (by exact rfl) (by exact rfl) (by rw [itemsN_len]; unfold room; omega) (by simp))).2 ?_
        have hy : itemsN xs (k + 1) = itemsN xs k ++ [⟨skuN k, catAt (umod (pickV x.cat (min x.cat.length 8)) 3), (umod x.price 4000 : Nat), false⟩] := by rw [itemsN_succ]; congr 2; unfold itemAt; rw [hx]; simp [hu]
        simp (disch := first | (simp only [DS, reduceCtorEq]; done) | omega) only [WS, St.guard, St.put, evalO, reduceCtorEq, reduceIte, Nat.reduceAdd, Nat.reduceEqDiff, new_s, virtBlk_eq, box_s, box_vs, box_vi, box_vb, px_load_l, px_load_o, loadB_s, storeX, storeB_s, alloc_s, lay, whole, Option.join_some, List.drop_zero, List.drop_succ_cons, List.take_succ_cons, List.take_zero, List.drop_nil, List.nil_append, List.cons_append, Nat.reduceLeDiff, Nat.zero_add, and_self, and_true, cells_int, cells_bool, cells_str, cells_string, cells_agg, cells_own, cells_ro, cells_ptr, cells_nil, AV.lf.lfs, AV.lf, px_build, fills, build_string, build_str, build_int, WDR_some, Nat.reduceLeDiff, Nat.le_refl, Bool.and_self, vBin_add_i64]
        exact clear_fre (by simp only [clear_nil, List.foldl_cons, List.foldl_nil, Option.some.injEq, LS, reduceCtorEq, reduceIte, Nat.reduceAdd, itemsN_len]; rfl) (by rw [hy]; rfl) (by simp only [f_play_Items_H0, itemsN_len, List.all_cons, List.all_nil, noRef_v, noRef_dead, noRef_own, noRef_ptr, noRef_nil, Bool.and_true, Bool.true_and, Bool.and_self, List.contains_cons, List.contains_nil, Bool.or_false, Nat.reduceBEq, Bool.not_false, na]) (by rfl)
      · simp (disch := first | (simp only [DS, reduceCtorEq]; done) | omega) only [WS, St.guard, St.put, evalO, reduceCtorEq, reduceIte, Nat.reduceAdd, Nat.reduceEqDiff, new_s, virtBlk_eq, box_s, box_vs, box_vi, box_vb, px_load_l, px_load_o, loadB_s, storeX, storeB_s, alloc_s, lay, whole, Option.join_some, List.drop_zero, List.drop_succ_cons, List.take_succ_cons, List.take_zero, List.drop_nil, List.nil_append, List.cons_append, Nat.reduceLeDiff, Nat.zero_add, and_self, and_true, cells_int, cells_bool, cells_str, cells_string, cells_agg, cells_own, cells_ro, cells_ptr, cells_nil, AV.lf.lfs, AV.lf, px_build, fills, build_string, build_str, build_int, WDR_some, Nat.reduceLeDiff, Nat.le_refl, Bool.and_self, (q _).ix, (q _).f3, (q _).l3, hu]
        refine WDP_er (by unfold Good; dsimp only; repeat (first | exact trivial | rw [goodN] | refine ⟨dBlk_good, ?_⟩ | refine goodD (by assumption) ?_ | refine ⟨sBlk_good (by first | rfl | assumption | (simp [AV.labs.labss, AV.labs, refLt]; done)), ?_⟩)) rfl ?_
        simp (disch := first | (simp only [DS, reduceCtorEq]; done) | omega) only [WS, St.guard, St.put, evalO, reduceCtorEq, reduceIte, Nat.reduceAdd, Nat.reduceEqDiff, WDX_some, reduceIte, if_true, if_false, Bool.and_true, Bool.true_and, true_and, Bool.false_eq_true, false_or, true_or, Hp.over, AM.over, over_nil, List.foldl_cons, List.foldl_nil, List.set_cons_zero, List.set_cons_succ, List.getElem?_cons_zero, List.getElem?_cons_succ, Option.join_some, List.length_cons, List.length_nil, Prim.sites, List.cons_append, List.nil_append, new_s, virtBlk_eq, box_s, box_vs, box_vi, box_vb, px_load_l, px_load_o, loadB_s, storeX, storeB_s, alloc_s, lay, whole, Option.join_some, List.drop_zero, List.drop_succ_cons, List.take_succ_cons, List.take_zero, List.drop_nil, List.nil_append, List.cons_append, Nat.reduceLeDiff, Nat.zero_add, and_self, and_true, cells_int, cells_bool, cells_str, cells_string, cells_agg, cells_own, cells_ro, cells_ptr, cells_nil, AV.lf.lfs, AV.lf, px_build, fills, build_string, build_str, build_int, WDR_some, Nat.reduceLeDiff, Nat.le_refl, Bool.and_self]
        refine ⟨⟨rfl, (by unfold Good; dsimp only; repeat (first | exact trivial | rw [goodN] | refine ⟨dBlk_good, ?_⟩ | refine goodD (by assumption) ?_ | refine ⟨sBlk_good (by first | rfl | assumption | (simp [AV.labs.labss, AV.labs, refLt]; done)), ?_⟩))⟩, ?_⟩
        refine WDP_er (by unfold Good; dsimp only; repeat (first | exact trivial | rw [goodN] | refine ⟨dBlk_good, ?_⟩ | refine goodD (by assumption) ?_ | refine ⟨sBlk_good (by first | rfl | assumption | (simp [AV.labs.labss, AV.labs, refLt]; done)), ?_⟩)) rfl ?_
        simp (disch := first | (simp only [DS, reduceCtorEq]; done) | omega) only [WS, St.guard, St.put, evalO, reduceCtorEq, reduceIte, Nat.reduceAdd, Nat.reduceEqDiff, WDX_some, reduceIte, if_true, if_false, Bool.and_true, Bool.true_and, true_and, Bool.false_eq_true, false_or, true_or, Hp.over, AM.over, over_nil, List.foldl_cons, List.foldl_nil, List.set_cons_zero, List.set_cons_succ, List.getElem?_cons_zero, List.getElem?_cons_succ, Option.join_some, List.length_cons, List.length_nil, Prim.sites, List.cons_append, List.nil_append, new_s, virtBlk_eq, box_s, box_vs, box_vi, box_vb, px_load_l, px_load_o, loadB_s, storeX, storeB_s, alloc_s, lay, whole, Option.join_some, List.drop_zero, List.drop_succ_cons, List.take_succ_cons, List.take_zero, List.drop_nil, List.nil_append, List.cons_append, Nat.reduceLeDiff, Nat.zero_add, and_self, and_true, cells_int, cells_bool, cells_str, cells_string, cells_agg, cells_own, cells_ro, cells_ptr, cells_nil, AV.lf.lfs, AV.lf, px_build, fills, build_string, build_str, build_int, WDR_some, Nat.reduceLeDiff, Nat.le_refl, Bool.and_self]
        refine ⟨⟨rfl, (by unfold Good; dsimp only; repeat (first | exact trivial | rw [goodN] | refine ⟨dBlk_good, ?_⟩ | refine goodD (by assumption) ?_ | refine ⟨sBlk_good (by first | rfl | assumption | (simp [AV.labs.labss, AV.labs, refLt]; done)), ?_⟩))⟩, ?_⟩
        refine WDP_er (by unfold Good; dsimp only; repeat (first | exact trivial | rw [goodN] | refine ⟨dBlk_good, ?_⟩ | refine goodD (by assumption) ?_ | refine ⟨sBlk_good (by first | rfl | assumption | (simp [AV.labs.labss, AV.labs, refLt]; done)), ?_⟩)) rfl ?_
        simp (disch := first | (simp only [DS, reduceCtorEq]; done) | omega) only [WS, St.guard, St.put, evalO, reduceCtorEq, reduceIte, Nat.reduceAdd, Nat.reduceEqDiff, WDX_some, reduceIte, if_true, if_false, Bool.and_true, Bool.true_and, true_and, Bool.false_eq_true, false_or, true_or, Hp.over, AM.over, over_nil, List.foldl_cons, List.foldl_nil, List.set_cons_zero, List.set_cons_succ, List.getElem?_cons_zero, List.getElem?_cons_succ, Option.join_some, List.length_cons, List.length_nil, Prim.sites, List.cons_append, List.nil_append, new_s, virtBlk_eq, box_s, box_vs, box_vi, box_vb, px_load_l, px_load_o, loadB_s, storeX, storeB_s, alloc_s, lay, whole, Option.join_some, List.drop_zero, List.drop_succ_cons, List.take_succ_cons, List.take_zero, List.drop_nil, List.nil_append, List.cons_append, Nat.reduceLeDiff, Nat.zero_add, and_self, and_true, cells_int, cells_bool, cells_str, cells_string, cells_agg, cells_own, cells_ro, cells_ptr, cells_nil, AV.lf.lfs, AV.lf, px_build, fills, build_string, build_str, build_int, WDR_some, Nat.reduceLeDiff, Nat.le_refl, Bool.and_self]
        refine ⟨⟨rfl, (by unfold Good; dsimp only; repeat (first | exact trivial | rw [goodN] | refine ⟨dBlk_good, ?_⟩ | refine goodD (by assumption) ?_ | refine ⟨sBlk_good (by first | rfl | assumption | (simp [AV.labs.labss, AV.labs, refLt]; done)), ?_⟩))⟩, ?_⟩
        refine (WR_eq (build_T (T := itEnc) (x := ⟨skuN k, catAt (umod (pickV x.cat (min x.cat.length 8)) 3), (umod x.price 4000 : Nat), (k : Int) == 7⟩) rfl rfl)).2 ?_
        simp (disch := first | (simp only [DS, reduceCtorEq]; done) | omega) only [WS, St.guard, St.put, evalO, reduceCtorEq, reduceIte, Nat.reduceAdd, Nat.reduceEqDiff, new_s, virtBlk_eq, box_s, box_vs, box_vi, box_vb, px_load_l, px_load_o, loadB_s, storeX, storeB_s, alloc_s, lay, whole, Option.join_some, List.drop_zero, List.drop_succ_cons, List.take_succ_cons, List.take_zero, List.drop_nil, List.nil_append, List.cons_append, Nat.reduceLeDiff, Nat.zero_add, and_self, and_true, cells_int, cells_bool, cells_str, cells_string, cells_agg, cells_own, cells_ro, cells_ptr, cells_nil, AV.lf.lfs, AV.lf, px_build, fills, build_string, build_str, build_int, WDR_some, Nat.reduceLeDiff, Nat.le_refl, Bool.and_self]
        refine (WR_eq (append_T (T := itEnc) (j := 0) (m := 2) (xs := itemsN xs k) (x := ⟨skuN k, catAt (umod (pickV x.cat (min x.cat.length 8)) 3), (umod x.price 4000 : Nat), (k : Int) == 7⟩) (v := decide (k = 0)) (by exact rfl) (by exact rfl) (by rw [itemsN_len]; unfold room; omega) (by simp))).2 ?_
        have hy : itemsN xs (k + 1) = itemsN xs k ++ [⟨skuN k, catAt (umod (pickV x.cat (min x.cat.length 8)) 3), (umod x.price 4000 : Nat), (k : Int) == 7⟩] := by rw [itemsN_succ]; congr 2; unfold itemAt; rw [hx]; simp [hu]; exact k7
        simp (disch := first | (simp only [DS, reduceCtorEq]; done) | omega) only [WS, St.guard, St.put, evalO, reduceCtorEq, reduceIte, Nat.reduceAdd, Nat.reduceEqDiff, new_s, virtBlk_eq, box_s, box_vs, box_vi, box_vb, px_load_l, px_load_o, loadB_s, storeX, storeB_s, alloc_s, lay, whole, Option.join_some, List.drop_zero, List.drop_succ_cons, List.take_succ_cons, List.take_zero, List.drop_nil, List.nil_append, List.cons_append, Nat.reduceLeDiff, Nat.zero_add, and_self, and_true, cells_int, cells_bool, cells_str, cells_string, cells_agg, cells_own, cells_ro, cells_ptr, cells_nil, AV.lf.lfs, AV.lf, px_build, fills, build_string, build_str, build_int, WDR_some, Nat.reduceLeDiff, Nat.le_refl, Bool.and_self, vBin_add_i64]
        exact clear_fre (by simp only [clear_nil, List.foldl_cons, List.foldl_nil, Option.some.injEq, LS, reduceCtorEq, reduceIte, Nat.reduceAdd, itemsN_len]; rfl) (by rw [hy]; rfl) (by simp only [f_play_Items_H0, itemsN_len, List.all_cons, List.all_nil, noRef_v, noRef_dead, noRef_own, noRef_ptr, noRef_nil, Bool.and_true, Bool.true_and, Bool.and_self, List.contains_cons, List.contains_nil, Bool.or_false, Nat.reduceBEq, Bool.not_false, na]) (by rfl)
    · have hkl' : ¬ ((k : Int) < (xs.length : Int)) := by omega
      simp (disch := first | (simp only [DS, reduceCtorEq]; done) | omega) only [WS, St.guard, St.put, evalO, reduceCtorEq, reduceIte, Nat.reduceAdd, Nat.reduceEqDiff, new_s, virtBlk_eq, box_s, box_vs, box_vi, box_vb, px_load_l, px_load_o, loadB_s, storeX, storeB_s, alloc_s, lay, whole, Option.join_some, List.drop_zero, List.drop_succ_cons, List.take_succ_cons, List.take_zero, List.drop_nil, List.nil_append, List.cons_append, Nat.reduceLeDiff, Nat.zero_add, and_self, and_true, cells_int, cells_bool, cells_str, cells_string, cells_agg, cells_own, cells_ro, cells_ptr, cells_nil, AV.lf.lfs, AV.lf, px_build, fills, build_string, build_str, build_int, WDR_some, Nat.reduceLeDiff, Nat.le_refl, Bool.and_self, hkl', decide_false]
      refine (WR_eq (build_T (T := itEnc) (x := ⟨skuN k, catN k, 100 + 37 * (k : Int), false⟩) rfl rfl)).2 ?_
      simp (disch := first | (simp only [DS, reduceCtorEq]; done) | omega) only [WS, St.guard, St.put, evalO, reduceCtorEq, reduceIte, Nat.reduceAdd, Nat.reduceEqDiff, new_s, virtBlk_eq, box_s, box_vs, box_vi, box_vb, px_load_l, px_load_o, loadB_s, storeX, storeB_s, alloc_s, lay, whole, Option.join_some, List.drop_zero, List.drop_succ_cons, List.take_succ_cons, List.take_zero, List.drop_nil, List.nil_append, List.cons_append, Nat.reduceLeDiff, Nat.zero_add, and_self, and_true, cells_int, cells_bool, cells_str, cells_string, cells_agg, cells_own, cells_ro, cells_ptr, cells_nil, AV.lf.lfs, AV.lf, px_build, fills, build_string, build_str, build_int, WDR_some, Nat.reduceLeDiff, Nat.le_refl, Bool.and_self]
      refine (WR_eq (append_T (T := itEnc) (j := 0) (m := 2) (xs := itemsN xs k) (x := ⟨skuN k, catN k, 100 + 37 * (k : Int), false⟩) (v := decide (k = 0)) (by exact rfl) (by exact rfl) (by rw [itemsN_len]; unfold room; omega) (by simp))).2 ?_
      have hy : itemsN xs (k + 1) = itemsN xs k ++ [⟨skuN k, catN k, 100 + 37 * (k : Int), false⟩] := by rw [itemsN_succ]; congr 2; unfold itemAt; rw [List.getElem?_eq_none (by omega)]
      simp (disch := first | (simp only [DS, reduceCtorEq]; done) | omega) only [WS, St.guard, St.put, evalO, reduceCtorEq, reduceIte, Nat.reduceAdd, Nat.reduceEqDiff, new_s, virtBlk_eq, box_s, box_vs, box_vi, box_vb, px_load_l, px_load_o, loadB_s, storeX, storeB_s, alloc_s, lay, whole, Option.join_some, List.drop_zero, List.drop_succ_cons, List.take_succ_cons, List.take_zero, List.drop_nil, List.nil_append, List.cons_append, Nat.reduceLeDiff, Nat.zero_add, and_self, and_true, cells_int, cells_bool, cells_str, cells_string, cells_agg, cells_own, cells_ro, cells_ptr, cells_nil, AV.lf.lfs, AV.lf, px_build, fills, build_string, build_str, build_int, WDR_some, Nat.reduceLeDiff, Nat.le_refl, Bool.and_self, vBin_add_i64]
      exact clear_fre (by simp only [clear_nil, List.foldl_cons, List.foldl_nil, Option.some.injEq, LS, reduceCtorEq, reduceIte, Nat.reduceAdd, itemsN_len]; rfl) (by rw [hy]; rfl) (by simp only [f_play_Items_H0, itemsN_len, List.all_cons, List.all_nil, noRef_v, noRef_dead, noRef_own, noRef_ptr, noRef_nil, Bool.and_true, Bool.true_and, Bool.and_self, List.contains_cons, List.contains_nil, Bool.or_false, Nat.reduceBEq, Bool.not_false, na]) (by rfl)
  · simp (disch := first | (simp only [DS, reduceCtorEq]; done) | omega) only [f_play_Items_L0, f_play_Items_H0, WS, St.guard, St.put, evalO, reduceCtorEq, reduceIte, Nat.reduceAdd, Nat.reduceEqDiff, decide_false, fin_tmp, or_true, itemsN_len]
    exact leave_own1 (by rfl) (by rfl)
end Go.AM
namespace Go.AM
variable {prog : String → Option IFn}
instance instDecItemD : DecidableEq ItemD := fun a b =>
  if h : a.sku = b.sku ∧ (a.cat = b.cat ∧ (a.price = b.price ∧ a.used = b.used)) then isTrue (by cases a; cases b; simp only at h; obtain ⟨rfl, rfl, rfl, rfl⟩ := h; rfl)
  else isFalse (by rintro rfl; exact h ⟨rfl, rfl, rfl, rfl⟩)
theorem is_itemsS {cs : List AV} (h : (Ty.slice itemTy).Is cs) : ∃ a, ∃ xs : List ItemD, cs = [a] ∧ (∀ h, TView itEnc h a xs) ∧ xs.length ≤ maxLen ∧ smallI xs := by
  rcases h with rfl | ⟨es, rfl, h, hl⟩
  · exact ⟨_, [], rfl, fun h => view_nil' (by decide), by simp, by simp [smallI]⟩
  · obtain ⟨xs, hb, hs⟩ : ∃ xs : List ItemD, es = xs.map itEnc.E ∧ smallI xs := by
      clear hl
      induction es with
      | nil => exact ⟨[], rfl, by simp [smallI]⟩
      | cons e es ih =>
        obtain ⟨xs, hb, hs⟩ := ih fun x hx => h x (by simp [hx])
        obtain ⟨x, rfl, h1, h2, _⟩ := is_item (h e (by simp))
        exact ⟨x :: xs, by rw [hb]; rfl, fun y hy => by
          rcases List.mem_cons.1 hy with rfl | hy
          · exact ⟨h1, h2⟩
          · exact hs y hy⟩
    subst hb
    have e : (xs.map itEnc.E).flatten = itEnc.row xs := by rw [Enc.row, List.flatMap_def]
    refine ⟨_, xs, rfl, fun h => ?_, by simpa using hl, hs⟩
    rw [e, List.length_map]
    exact view_ro (by decide) (itEnc.row_len xs)
end Go.AM
