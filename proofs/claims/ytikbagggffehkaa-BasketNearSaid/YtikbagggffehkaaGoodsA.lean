import Derived.Test.YtikbagggffehkaaSortA
import Derived.Test.YtikbagggffehkaaPlayA
import Derived.Test.YtikbagggffehkaaScopeB
import Derived.KernelRfl
set_option linter.unusedVariables false
set_option linter.unusedSimpArgs false
namespace Go.AM
def gOwnB_L0 (esz byt : Nat) (z : List Value) : ICode :=
 (.seq
 (.seq
 (.ops [ iP 22 .id [.t 7], iP 23 .id [.t 6], iP 24 .lenSlice [.t 23], iP 25 (.bin .lss) [.t 22, .t 24]])
 (.cond (.t 25)
 .skip
 (.exit 0)))
 (.seq
 (.block 1
 (.ops [ iP 28 .id [.t 6], iP 29 .id [.t 7], iP 30 (.load esz true) [.t 3], iP 31 (.indexAddr esz) [.t 28, .t 29], iN (.store esz false) [.t 31, .t 30]]))
 (.ops [ iP 26 .id [.t 7], iP 27 (.bin .add) [.t 26, kI 1], iP 7 .id [.t 27]])))
def gOwnB_H0 (t3 t5 t6 t7 : AV) : List AV := [.dead, .dead, .dead, t3, .dead, t5, t6, t7, .dead, .dead, .dead, .dead, .dead, .dead, .dead, .dead, .dead, .dead, .dead, .dead, .dead, .dead, .dead, .dead, .dead, .dead, .dead, .dead, .dead, .dead, .dead, .dead, .dead]
def gOwnB_B (esz byt : Nat) (z : List Value) : ICode :=
 (.seq
 (.ops [ iP 3 (.box 0) [.t 1], iP 4 .id [.c (.slice none 0 0)]])
 (.seq
 (.ops [ iP 8 .id [.t 0], iP 9 .lenSlice [.t 8], iP 10 (.bin .add) [.t 9, kI 3], iP 11 (.makeSlice 1 esz byt z) [kI 0, .t 10], iP 5 .id [.t 11]])
 (.seq
 (.ops [ iP 12 .id [.t 5], iP 13 .id [.t 0], iP 14 (.append 2 false esz byt) [.t 12, .t 13], iP 5 .id [.t 14]])
 (.seq
 (.ops [ iP 15 .id [.t 5], iP 16 .id [.t 0], iP 17 .lenSlice [.t 16], iP 18 (.bin .add) [.t 17, kI 3], iP 19 (.slice esz false true false) [.t 15, .t 18], iP 6 .id [.t 19]])
 (.seq
 (.seq
 (.ops [ iP 20 .id [.t 0], iP 21 .lenSlice [.t 20], iP 7 .id [.t 21]])
 (.block 0
 (.loop [0, 1, 2, 4, 8, 9, 10, 11, 12, 13, 14, 15, 16, 17, 18, 19, 20, 21, 22, 23, 24, 25, 26, 27, 28, 29, 30, 31, 32] [] (gOwnB_L0 esz byt z))))
 (.seq
 (.ops [ iP 32 .id [.t 5], iP 4 .id [.t 32]])
 .ret))))))
def gOwnB (esz byt : Nat) (z : List Value) : IFn := ⟨33, 3, [.tmp 4], (gOwnB_B esz byt z)⟩
def gKeptB_L0 (plain : String) (esz : Nat) (cmp : Prim) : ICode :=
 (.seq
 (.seq
 (.ops [ iP 28 .id [.t 8], iP 29 .id [.t 7], iP 30 .lenSlice [.t 29], iP 31 (.bin .lss) [.t 28, .t 30]])
 (.cond (.t 31)
 .skip
 (.exit 0)))
 (.seq
 (.block 1
 (.seq
 (.draw [ iP 34 .id [.t 7], iP 35 .id [.t 8], iP 36 (.indexAddr esz) [.t 34, .t 35], iP 37 (.load esz true) [.t 36], iP 38 (.load esz true) [.t 5], iP 39 cmp [.t 37, .t 38]])
 (.cond (.t 39)
 (.seq
 (.ops [ iP 6 .id [.c (.bool false)]])
 .ret)
 .skip)))
 (.ops [ iP 32 .id [.t 8], iP 33 (.bin .add) [.t 32, kI 1], iP 8 .id [.t 33]])))
def gKeptB_H0 (t5 t7 t8 : AV) : List AV := [.dead, .dead, .dead, .dead, .dead, t5, .dead, t7, t8, .dead, .dead, .dead, .dead, .dead, .dead, .dead, .dead, .dead, .dead, .dead, .dead, .dead, .dead, .dead, .dead, .dead, .dead, .dead, .dead, .dead, .dead, .dead, .dead, .dead, .dead, .dead, .dead, .dead, .dead, .dead]
def gKeptB_B (plain : String) (esz : Nat) (cmp : Prim) : ICode :=
 (.seq
 (.ops [ iP 5 (.box 0) [.t 2], iP 6 .id [.c (.bool false)]])
 (.seq
 (.seq
 (.ops [ iP 9 .id [.t 0], iP 10 .id [.t 1], iP 11 (.call plain []) [.t 9, .t 10], iP 12 (.un .not) [.t 11], iP 13 .id [.t 12], iG 13 false 14 .id [.t 0], iG 13 false 15 .cap [.t 14], iG 13 false 16 .id [.t 1], iG 13 false 17 .lenSlice [.t 16], iG 13 false 18 (.bin .add) [.t 17, kI 3], iG 13 false 19 (.bin .lss) [.t 15, .t 18], iP 20 .pick [.t 13, .c (.bool true), .t 19]])
 (.cond (.t 20)
 (.seq
 (.ops [ iP 6 .id [.c (.bool false)]])
 .ret)
 .skip))
 (.seq
 (.ops [ iP 21 .id [.t 0], iP 22 .id [.t 1], iP 23 .lenSlice [.t 22], iP 24 (.bin .add) [.t 23, kI 3], iP 25 (.slice esz false true false) [.t 21, .t 24], iP 7 .id [.t 25]])
 (.seq
 (.seq
 (.ops [ iP 26 .id [.t 1], iP 27 .lenSlice [.t 26], iP 8 .id [.t 27]])
 (.block 0
 (.loop [0, 1, 2, 3, 4, 6, 9, 10, 11, 12, 13, 14, 15, 16, 17, 18, 19, 20, 21, 22, 23, 24, 25, 26, 27, 28, 29, 30, 31, 32, 33, 34, 35, 36, 37, 38, 39] [] (gKeptB_L0 plain esz cmp))))
 (.seq
 (.ops [ iP 6 .id [.c (.bool true)]])
 .ret)))))
def gKeptB (plain : String) (esz : Nat) (cmp : Prim) : IFn := ⟨40, 1, [.tmp 6], (gKeptB_B plain esz cmp)⟩
end Go.AM
namespace Go.AM
variable {prog : String → Option IFn}
structure FindLib (prog : String → Option IFn) : Prop where
  rin : prog "haberdash/haberdashref10.in" = some f_ref10_in
  find : prog "haberdash/goods.Find" = some f_goods_Find
  find1 : prog "haberdash/goods.Find$1" = some f_goods_Find_1
  rfind : prog "haberdash/haberdashref10.Find" = some f_ref10_Find
  bySku : prog "haberdash/goods.bySku" = some f_goods_bySku
  cmp : prog "cmp.Compare[string]" = some f_cmp_Compare_string_
  nan : prog "cmp.isNaN[string]" = some f_cmp_isNaN_string_
  sorted : prog "slices.IsSortedFunc[[]haberdash/api.Item,haberdash/api.Item]" = some f_slices_IsSortedFunc___api_Item_api_Item_
  search : prog "slices.BinarySearchFunc[[]haberdash/api.Item,haberdash/api.Item,haberdash/api.Item]" = some f_slices_BinarySearchFunc___api_Item_api_Item_api_Item_
  indexF : prog "slices.IndexFunc[[]haberdash/api.Item,haberdash/api.Item]" = some f_slices_IndexFunc___api_Item_api_Item_
structure GoodsLib (prog : String → Option IFn) : Prop extends FindLib prog where
  name : prog "haberdash/goods.Name" = some f_goods_Name
  rname : prog "haberdash/haberdashref10.Name" = some f_ref10_Name
  riseF : prog "haberdash/goods.Rise" = some f_goods_Rise
  right : prog "haberdash/goods.Right" = some f_goods_Right
  rgoods : prog "haberdash/haberdashref10.Goods" = some f_ref10_Goods
theorem itEnc_av {x : ItemD} : itEnc.av x = .agg x.cells := rfl
def skus (xs : List ItemD) : List Txt := xs.map ItemD.sku
end Go.AM
namespace Go.AM
variable {prog : String → Option IFn}
structure ItAt (h : Hp) (a : AV) (i : Nat) (x : ItemD) : Prop where
  ix : prim h (.indexAddr 4) [a, .v (.int .i64 (i : Int))] = some (elemPtr a 4 i, h)
  ld : prim h (.load 4 true) [elemPtr a 4 i] = some (.agg x.cells, h)
  f0 : prim h (.fieldAddr 0) [elemPtr a 4 i] = some (fldPtr a 4 i 0, h)
  f1 : prim h (.fieldAddr 1) [elemPtr a 4 i] = some (fldPtr a 4 i 1, h)
  f2 : prim h (.fieldAddr 2) [elemPtr a 4 i] = some (fldPtr a 4 i 2, h)
  f3 : prim h (.fieldAddr 3) [elemPtr a 4 i] = some (fldPtr a 4 i 3, h)
  l0 : prim h (.load 1 false) [fldPtr a 4 i 0] = some (.v (str x.sku), h)
  l1 : prim h (.load 1 false) [fldPtr a 4 i 1] = some (.v (str x.cat), h)
  l2 : prim h (.load 1 false) [fldPtr a 4 i 2] = some (.v (.int .i64 x.price), h)
  l3 : prim h (.load 1 false) [fldPtr a 4 i 3] = some (.v (.bool x.used), h)
theorem it_at {h : Hp} {a} {xs : List ItemD} (v : TView itEnc h a xs) {i : Nat} {x : ItemD} (hx : xs[i]? = some x) : ItAt h a i x := by
  have hi := lt_of_get hx
  have vv : View h a 4 xs.length (itEnc.row xs) := v
  have ch : ((itEnc.row xs).drop (i * 4)).take 4 = x.cells := itEnc.row_chunk hx
  have hc : ∀ (f : Nat) (y : AV), f < 4 → x.cells[f]? = some y → (itEnc.row xs)[i * 4 + f]? = some y := fun f y hf hy => by
    rw [← ch, List.getElem?_take, if_pos hf, List.getElem?_drop] at hy
    exact hy
  exact ⟨v.index hi, v.load hx, vv.field hi, vv.field hi, vv.field hi, vv.field hi, vv.loadF hi (by omega) (hc 0 _ (by omega) rfl), vv.loadF hi (by omega) (hc 1 _ (by omega) rfl),
    vv.loadF hi (by omega) (hc 2 _ (by omega) rfl), vv.loadF hi (by omega) (hc 3 _ (by omega) rfl)⟩
def smallI (xs : List ItemD) : Prop := ∀ x ∈ xs, x.sku.length ≤ 9223372036854775807 ∧ x.cat.length ≤ 9223372036854775807
theorem in_spec (hf : prog "haberdash/haberdashref10.in" = some f_ref10_in) {G} {x m : Int} :
    Ev prog (.call "haberdash/haberdashref10.in" [.v (.int .i64 x), .v (.int .i64 m)] G) (.ret (.v (.bool (decide (0 ≤ x) && decide (x ≤ m)))) G) := by
  refine call_of_fin hf ?_
  simp only [f_ref10_in_B, enter, List.length_cons, List.length_nil, List.replicate, Nat.reduceAdd, Nat.reduceSub, List.cons_append, List.nil_append]
  by_cases h0 : x ≥ 0
  · have e : decide (0 ≤ x) = true := decide_eq_true h0
    simp (disch := first | (simp only [DS, reduceCtorEq]; done) | omega) only [WS, St.guard, St.put, evalO, reduceCtorEq, reduceIte, Nat.reduceAdd, Nat.reduceEqDiff, h0, decide_true, fin_tmp, leave_v, e]
    simp
  · have e : decide (0 ≤ x) = false := decide_eq_false h0
    simp (disch := first | (simp only [DS, reduceCtorEq]; done) | omega) only [WS, St.guard, St.put, evalO, reduceCtorEq, reduceIte, Nat.reduceAdd, Nat.reduceEqDiff, h0, decide_false, fin_tmp, leave_v, e]
    simp
theorem refFind_spec (H : FindLib prog) {G a} {xs : List ItemD} {s : Txt} (v : ∀ L, TView itEnc ⟨G, L⟩ a xs) (hl : xs.length ≤ maxLen) :
    Ev prog (.call "haberdash/haberdashref10.Find" [a, .v (str s)] G) (.ret (.v (.int .i64 (findV (skus xs) s))) G) := by
  have hml : xs.length ≤ 9223372036854775807 := hl
  refine call_of_fin H.rfind ?_
  simp only [f_ref10_Find_B, enter, List.length_cons, List.length_nil, List.replicate, Nat.reduceAdd, Nat.reduceSub, List.cons_append, List.nil_append]
  simp (disch := first | (simp only [DS, reduceCtorEq]; done) | omega) only [WS, St.guard, St.put, evalO, reduceCtorEq, reduceIte, Nat.reduceAdd, Nat.reduceEqDiff]
  refine WC_countP (fun i => ∀ (j : Nat) x, j < i → xs[j]? = some x → x.sku ≠ s) (fun i => ⟨f_ref10_Find_H0 a (.v (str s)) (.v (.int .i64 (i : Nat))), ⟨G, []⟩⟩) xs.length ?_ (fun j x h => by omega) (fun i hi hp => ?_) (fun hp => ?_)
  · simp only [clear_nil, List.foldl_cons, List.foldl_nil, Option.some.injEq, LS, reduceCtorEq, reduceIte, Nat.reduceAdd]; rfl
  · have hlt' : (i : Int) < (xs.length : Int) := by omega
    have hx : xs[i]? = some xs[i] := List.getElem?_eq_getElem hi
    generalize xs[i] = x at *
    have q := it_at (v []) hx
    simp (disch := first | (simp only [DS, reduceCtorEq]; done) | omega) only [f_ref10_Find_L0, f_ref10_Find_H0, WS, St.guard, St.put, evalO, reduceCtorEq, reduceIte, Nat.reduceAdd, Nat.reduceEqDiff, (v _).lenSlice, hlt', decide_true, q.ix, q.f0, q.l0, vBin_eql_str]
    by_cases hc : x.sku = s
    · have e : fstB (skus xs) s = i := findIdx_is (by simp [skus]; omega) (fun j y hj hy => by
        unfold skus at hy
        rw [List.getElem?_map] at hy
        obtain ⟨z, hz, rfl⟩ := Option.map_eq_some_iff.1 hy
        exact decide_eq_false (hp j z hj hz)) (fun y hy => by
        unfold skus at hy
        rw [List.getElem?_map, hx] at hy
        cases hy; exact decide_eq_true hc)
      have e2 : findV (skus xs) s = (i : Int) := by unfold findV; rw [e, if_pos (by simpa [skus] using hi)]
      simp (disch := first | (simp only [DS, reduceCtorEq]; done) | omega) only [WS, St.guard, St.put, evalO, reduceCtorEq, reduceIte, Nat.reduceAdd, Nat.reduceEqDiff, decide_eq_true hc, fin_tmp, leave_v, e2]
      simp
    · simp (disch := first | (simp only [DS, reduceCtorEq]; done) | omega) only [WS, St.guard, St.put, evalO, reduceCtorEq, reduceIte, Nat.reduceAdd, Nat.reduceEqDiff, decide_eq_false hc, vBin_add_i64, clear_nil, List.foldl_cons, List.foldl_nil, Option.some.injEq]
      refine ⟨rfl, fun j y hj h1 => ?_⟩
      by_cases hji : j < i
      · exact hp j y hji h1
      · obtain rfl : j = i := by omega
        rw [hx] at h1; cases h1; exact hc
  · have e : fstB (skus xs) s = (skus xs).length := findIdx_is (Nat.le_refl _) (fun j y hj hy => by
        unfold skus at hy
        rw [List.getElem?_map] at hy
        obtain ⟨z, hz, rfl⟩ := Option.map_eq_some_iff.1 hy
        exact decide_eq_false (hp j z (lt_of_get hz) hz)) (fun y hy => by simp at hy)
    have e2 : findV (skus xs) s = -1 := by unfold findV; rw [e, if_neg (by omega)]
    simp (disch := first | (simp only [DS, reduceCtorEq]; done) | omega) only [f_ref10_Find_L0, f_ref10_Find_H0, WS, St.guard, St.put, evalO, reduceCtorEq, reduceIte, Nat.reduceAdd, Nat.reduceEqDiff, (v _).lenSlice, decide_false, fin_tmp, leave_v, e2]
    simp
theorem bySku_spec (H : FindLib prog) {G} (x y : ItemD) : Ev prog (.call "haberdash/goods.bySku" [itEnc.av x, itEnc.av y] G) (.ret (.v (.int .i64 (cmpT x.sku y.sku))) G) := by
  refine call_of_fin H.bySku ?_
  simp only [f_goods_bySku_B, enter, List.length_cons, List.length_nil, List.replicate, Nat.reduceAdd, Nat.reduceSub, List.cons_append, List.nil_append, itEnc_av, ItemD.cells]
  simp (disch := first | (simp only [DS, reduceCtorEq]; done) | omega) only [WS, St.guard, St.put, evalO, reduceCtorEq, reduceIte, Nat.reduceAdd, Nat.reduceEqDiff, new_s, virtBlk_eq, box_s, box_vs, box_vi, box_vb, px_load_l, px_load_o, loadB_s, storeX, storeB_s, alloc_s, lay, whole, Option.join_some, List.drop_zero, List.drop_succ_cons, List.take_succ_cons, List.take_zero, List.drop_nil, List.nil_append, List.cons_append, Nat.reduceLeDiff, Nat.zero_add, and_self, and_true, cells_int, cells_bool, cells_str, cells_string, cells_agg, cells_own, cells_ro, cells_ptr, cells_nil, AV.lf.lfs, AV.lf, px_build, fills, build_string, build_str, build_int, WDR_some, Nat.reduceLeDiff, Nat.le_refl, Bool.and_self]
  refine (WP_p (x := .int .i64 (cmpT x.sku y.sku)) (by exact Compare_spec H.cmp H.nan) (by unfold Good; dsimp only; repeat (first | exact trivial | rw [goodN] | refine ⟨dBlk_good, ?_⟩ | refine goodD (by assumption) ?_ | refine ⟨sBlk_good (by first | rfl | assumption | (simp [AV.labs.labss, AV.labs, refLt]; done)), ?_⟩))).2 ?_
  simp (disch := first | (simp only [DS, reduceCtorEq]; done) | omega) only [WS, St.guard, St.put, evalO, reduceCtorEq, reduceIte, Nat.reduceAdd, Nat.reduceEqDiff, fin_tmp, leave_v]
  simp
theorem find1_spec (H : FindLib prog) {G} {p : Nat} {s : Txt} {d} (x : ItemD) (hp : G[p]? = some (some (sBlk [.v (str s)] d))) :
    Ev prog (.call "haberdash/goods.Find$1" [itEnc.av x, .ptr (.o p) 1 0] G) (.ret (.v (.bool (decide (x.sku = s)))) G) := by
  refine call_of_fin H.find1 ?_
  simp only [f_goods_Find_1_B, enter, List.length_cons, List.length_nil, List.replicate, Nat.reduceAdd, Nat.reduceSub, List.cons_append, List.nil_append, itEnc_av, ItemD.cells]
  simp (disch := first | (simp only [DS, reduceCtorEq]; done) | omega) only [WS, St.guard, St.put, evalO, reduceCtorEq, reduceIte, Nat.reduceAdd, Nat.reduceEqDiff, new_s, virtBlk_eq, box_s, box_vs, box_vi, box_vb, px_load_l, px_load_o, loadB_s, storeX, storeB_s, alloc_s, lay, whole, Option.join_some, List.drop_zero, List.drop_succ_cons, List.take_succ_cons, List.take_zero, List.drop_nil, List.nil_append, List.cons_append, Nat.reduceLeDiff, Nat.zero_add, and_self, and_true, cells_int, cells_bool, cells_str, cells_string, cells_agg, cells_own, cells_ro, cells_ptr, cells_nil, AV.lf.lfs, AV.lf, px_build, fills, build_string, build_str, build_int, WDR_some, Nat.reduceLeDiff, Nat.le_refl, Bool.and_self, hp, vBin_eql_str, fin_tmp, leave_v]
  simp
theorem findIdx_map' {α β : Type} {f : α → β} {p : β → Bool} : ∀ (xs : List α), (xs.map f).findIdx p = xs.findIdx (fun x => p (f x))
  | [] => rfl
  | x :: xs => by simp only [List.map_cons, List.findIdx_cons, findIdx_map' xs]
theorem into_nil {G : List (Option Blk)} : (⟨G, []⟩ : Hp).into = G := by simp [Hp.into]
theorem Find_spec (H : FindLib prog) {G a} {xs : List ItemD} {s : Txt} (v : ∀ L, TView itEnc ⟨G, L⟩ a xs) (hl : xs.length < 2 ^ 62) :
    Ev prog (.call "haberdash/goods.Find" [a, .v (str s)] G) (.ret (.v (.int .i64 (findV (skus xs) s))) G) := by
  have hml : xs.length ≤ maxLen := by unfold maxLen; omega
  refine call_of_fin H.find ?_
  simp only [f_goods_Find_B, enter, List.length_cons, List.length_nil, List.replicate, Nat.reduceAdd, Nat.reduceSub, List.cons_append, List.nil_append]
  simp (disch := first | (simp only [DS, reduceCtorEq]; done) | omega) only [WS, St.guard, St.put, evalO, reduceCtorEq, reduceIte, Nat.reduceAdd, Nat.reduceEqDiff, new_s, virtBlk_eq, box_s, box_vs, box_vi, box_vb, px_load_l, px_load_o, loadB_s, storeX, storeB_s, alloc_s, lay, whole, Option.join_some, List.drop_zero, List.drop_succ_cons, List.take_succ_cons, List.take_zero, List.drop_nil, List.nil_append, List.cons_append, Nat.reduceLeDiff, Nat.zero_add, and_self, and_true, cells_int, cells_bool, cells_str, cells_string, cells_agg, cells_own, cells_ro, cells_ptr, cells_nil, AV.lf.lfs, AV.lf, px_build, fills, build_string, build_str, build_int, WDR_some, Nat.reduceLeDiff, Nat.le_refl, Bool.and_self]
  refine (WP_p (x := .bool (sortedB (skus xs))) (by exact gSorted_spec (T := itEnc) rfl H.sorted ItemD.sku ((v _).into) hml (fun x y => bySku_spec H x y)) (by unfold Good; dsimp only; repeat (first | exact trivial | rw [goodN] | refine ⟨dBlk_good, ?_⟩ | refine goodD (by assumption) ?_ | refine ⟨sBlk_good (by first | rfl | assumption | (simp [AV.labs.labss, AV.labs, refLt]; done)), ?_⟩))).2 ?_
  cases hs : sortedB (skus xs)
  · simp (disch := first | (simp only [DS, reduceCtorEq]; done) | omega) only [WS, St.guard, St.put, evalO, reduceCtorEq, reduceIte, Nat.reduceAdd, Nat.reduceEqDiff, new_s, virtBlk_eq, box_s, box_vs, box_vi, box_vb, px_load_l, px_load_o, loadB_s, storeX, storeB_s, alloc_s, lay, whole, Option.join_some, List.drop_zero, List.drop_succ_cons, List.take_succ_cons, List.take_zero, List.drop_nil, List.nil_append, List.cons_append, Nat.reduceLeDiff, Nat.zero_add, and_self, and_true, cells_int, cells_bool, cells_str, cells_string, cells_agg, cells_own, cells_ro, cells_ptr, cells_nil, AV.lf.lfs, AV.lf, px_build, fills, build_string, build_str, build_int, WDR_some, Nat.reduceLeDiff, Nat.le_refl, Bool.and_self, px_makeFunc]
    have hG : (⟨G, [some (sBlk [.v (str s)] true), some (sBlk [.v (str s), .v (.string ⟨#[]⟩), .v (.int .i64 0), .v (.bool false)] true)]⟩ : Hp).into[G.length + 0]? = some (some (sBlk [.v (str s)] true)) :=
      into_data (h := ⟨G, [some (sBlk [.v (str s)] true), some (sBlk [.v (str s), .v (.string ⟨#[]⟩), .v (.int .i64 0), .v (.bool false)] true)]⟩) (j := 0) rfl rfl
    have e : (.int .i64 (if xs.findIdx (fun x => decide (x.sku = s)) < xs.length then (xs.findIdx (fun x => decide (x.sku = s)) : Int) else -1) : Value) = .int .i64 (findV (skus xs) s) := by
      unfold findV fstB skus
      rw [findIdx_map', List.length_map]
    refine (WP_p (x := .int .i64 (findV (skus xs) s)) (by
      rw [← e]
      refine gIndexF_spec (T := itEnc) rfl H.indexF (fun x => decide (x.sku = s)) ((v _).into) hml (.fn "haberdash/goods.Find$1" [] [.ptr (.o (G.length + 0)) 1 0]) fun x => ?_
      refine .opCallV rfl (r := .v (.bool (decide (x.sku = s)))) (G2 := (⟨_, []⟩ : Hp).into) ?_ (back_pure rfl)
      simp only [List.nil_append, List.cons_append, List.map_cons, List.map_nil, av_ren]
      exact find1_spec H x (by rw [into_nil]; exact hG)) (by unfold Good; dsimp only; repeat (first | exact trivial | rw [goodN] | refine ⟨dBlk_good, ?_⟩ | refine goodD (by assumption) ?_ | refine ⟨sBlk_good (by first | rfl | assumption | (simp [AV.labs.labss, AV.labs, refLt]; done)), ?_⟩))).2 ?_
    simp (disch := first | (simp only [DS, reduceCtorEq]; done) | omega) only [WS, St.guard, St.put, evalO, reduceCtorEq, reduceIte, Nat.reduceAdd, Nat.reduceEqDiff, fin_tmp, leave_v]
    simp
  · simp (disch := first | (simp only [DS, reduceCtorEq]; done) | omega) only [WS, St.guard, St.put, evalO, reduceCtorEq, reduceIte, Nat.reduceAdd, Nat.reduceEqDiff, new_s, virtBlk_eq, box_s, box_vs, box_vi, box_vb, px_load_l, px_load_o, loadB_s, storeX, storeB_s, alloc_s, lay, whole, Option.join_some, List.drop_zero, List.drop_succ_cons, List.take_succ_cons, List.take_zero, List.drop_nil, List.nil_append, List.cons_append, Nat.reduceLeDiff, Nat.zero_add, and_self, and_true, cells_int, cells_bool, cells_str, cells_string, cells_agg, cells_own, cells_ro, cells_ptr, cells_nil, AV.lf.lfs, AV.lf, px_build, fills, build_string, build_str, build_int, WDR_some, Nat.reduceLeDiff, Nat.le_refl, Bool.and_self]
    refine (WP_r (r := .tup [.v (.int .i64 (lowB (skus xs) s : Nat)), .v (.bool (decide ((skus xs)[lowB (skus xs) s]? = some s)))]) (by
      exact gSearch_spec (T := itEnc) (x0 := ⟨s, [], 0, false⟩) rfl H.search ItemD.sku ((v _).into) hl (sortedB_iff.1 hs) (fun x y => bySku_spec H x y)) rfl (by unfold Good; dsimp only; repeat (first | exact trivial | rw [goodN] | refine ⟨dBlk_good, ?_⟩ | refine goodD (by assumption) ?_ | refine ⟨sBlk_good (by first | rfl | assumption | (simp [AV.labs.labss, AV.labs, refLt]; done)), ?_⟩))).2 ?_
    have e := fst_low (s := s) (sortedB_iff.1 hs)
    by_cases hl2 : (skus xs)[lowB (skus xs) s]? = some s
    · rw [if_pos hl2] at e
      rw [decide_eq_true hl2]
      simp (disch := first | (simp only [DS, reduceCtorEq]; done) | omega) only [WS, St.guard, St.put, evalO, reduceCtorEq, reduceIte, Nat.reduceAdd, Nat.reduceEqDiff, fin_tmp, leave_v, e]
      simp
    · rw [if_neg hl2] at e
      rw [decide_eq_false hl2]
      simp (disch := first | (simp only [DS, reduceCtorEq]; done) | omega) only [WS, St.guard, St.put, evalO, reduceCtorEq, reduceIte, Nat.reduceAdd, Nat.reduceEqDiff, fin_tmp, leave_v, e]
      simp
end Go.AM
namespace Go.AM
variable {prog : String → Option IFn}
section
variable {α : Type} {T : Enc α}
theorem build_T {G L} {j : Nat} {zs : List Value} {x : α} (hz : zs.length = T.esz) (hL : L[j]? = some none) :
    prim ⟨G, L⟩ (.buildSlice j false T.esz 1 zs [(0, T.esz)]) [T.av x] = some (.own (.l j) T.esz 0 1 T.esz (some 1), ⟨G, L.set j (some (dBlk (T.E x) false false))⟩) := by
  rw [px_buildSlice]
  have hl : ((List.replicate 1 (zs.map AV.v)).flatten).length = T.esz := by simp [hz]
  have hf : fills [(0, T.esz)] ((List.replicate 1 (zs.map AV.v)).flatten) [T.av x] = some (T.E x) := by
    simp only [fills, T.cellsOf, T.len]
    rw [if_pos ⟨trivial, by omega⟩]
    congr 1
    unfold lay
    rw [List.take_zero, List.nil_append, Nat.zero_add, T.len, List.drop_of_length_le (by omega), List.append_nil]
  simp only [Hp.mayFreeze, Bool.false_eq_true, if_false, Option.bind_some, hf]
  refine (if_pos (by rw [T.len, Nat.one_mul])).trans ?_
  rw [newBlk_data (T.lf x)]
  simp only [Hp.new, hL, Option.map_some, Nat.one_mul]
theorem append_T {G L} {site j m bytes : Nat} {xs : List α} {x : α} {v o2 v2 : Bool} {cap} (hL : L[j]? = some (some (dBlk (T.row xs) true v))) (hm : L[m]? = some (some (dBlk (T.E x) o2 v2))) (hr : (xs.length + 1) * bytes ≤ room) (hcap : ∀ c, cap = some c → 1 ≤ c) :
    prim ⟨G, L⟩ (.append site false T.esz bytes) [.own (.l j) (xs.length * T.esz) 0 xs.length T.esz none, .own (.l m) T.esz 0 1 T.esz cap] =
      some (.own (.l j) ((xs.length + 1) * T.esz) 0 (xs.length + 1) T.esz none, ⟨G, L.set j (some (dBlk (T.row (xs ++ [x])) true false))⟩) := by
  have hv : View ⟨G, L⟩ (.own (.l m) T.esz 0 1 T.esz cap) T.esz 1 (T.E x) := own_viewC hm (T.len x) (by omega) T.pos hcap
  have := append_own (site := site) (bytes := bytes) hL (T.row_len xs) hv (T.lf x) (by omega) hr
  rw [T.row_append, show T.row [x] = T.E x from by simp [Enc.row]]
  exact this
theorem own_T {G L} {j : Nat} {xs : List α} {o v : Bool} {cap} (hL : L[j]? = some (some (dBlk (T.row xs) o v))) (hc : ∀ c, cap = some c → xs.length ≤ c) : TView T ⟨G, L⟩ (.own (.l j) (xs.length * T.esz) 0 xs.length T.esz cap) xs :=
  own_viewC hL (T.row_len xs) rfl T.pos hc
end
theorem Mod64_spec (hf : prog "haberdash/haberdashplay.Mod64" = some f_play_Mod64) {G} {c z : Int} (n : Nat) (hz : z = n) (h0 : 0 < n) (hn : n < 9223372036854775808) :
    Ev prog (.call "haberdash/haberdashplay.Mod64" [.v (.int .i64 c), .v (.int .i64 z)] G) (.ret (.v (.int .i64 (umod c n : Nat))) G) := by
  refine call_of_fin hf ?_
  have := umod_lt (c := c) h0
  simp only [f_play_Mod64_B, enter, List.length_cons, List.length_nil, List.replicate, Nat.reduceAdd, Nat.reduceSub, List.cons_append, List.nil_append]
  simp (disch := first | (simp only [DS, reduceCtorEq]; done) | omega) only [WS, St.guard, St.put, evalO, reduceCtorEq, reduceIte, Nat.reduceAdd, Nat.reduceEqDiff]
  rw [vRem_u64 n hz h0 hn]
  simp (disch := first | (simp only [DS, reduceCtorEq]; done) | omega) only [WS, St.guard, St.put, evalO, reduceCtorEq, reduceIte, Nat.reduceAdd, Nat.reduceEqDiff, wrap_i64_nat, fin_tmp, leave_v]
  simp
def itemAt (xs : List ItemD) (k : Nat) : ItemD := match xs[k]? with
  | none => ⟨skuN k, catN k, 100 + 37 * (k : Int), false⟩
  | some x => ⟨skuN k, catAt (umod (pickV x.cat (min x.cat.length 8)) 3), (umod x.price 4000 : Nat), x.used && k == 7⟩
def itemsP (xs : List ItemD) : List ItemD := (List.range 8).map (itemAt xs)
def itemsN (xs : List ItemD) (k : Nat) : List ItemD := (List.range k).map (itemAt xs)
theorem itemsN_len {xs k} : (itemsN xs k).length = k := by simp [itemsN]
theorem itemsN_succ {xs k} : itemsN xs (k + 1) = itemsN xs k ++ [itemAt xs k] := by simp [itemsN, List.range_succ]
theorem Items_spec (H : PlayBase prog) (hf : prog "haberdash/haberdashplay.Items" = some f_play_Items) (h64 : prog "haberdash/haberdashplay.Mod64" = some f_play_Mod64) {G a} {xs : List ItemD} (v : ∀ L, TView itEnc ⟨G, L⟩ a xs) :
    Ev prog (.call "haberdash/haberdashplay.Items" [a] G) (.ret (.own (.o G.length) 32 0 8 4 none) (G ++ [some (dBlk (itEnc.row (itemsP xs)) true false)])) := by
  have na : ∀ ks, noRef ks a = true := fun ks => noRef_out (View.out (v []))
  refine call_of_fin hf ?_
  simp only [f_play_Items_B, enter, List.length_cons, List.length_nil, List.replicate, Nat.reduceAdd, Nat.reduceSub, List.cons_append, List.nil_append]
  simp (disch := first | (simp only [DS, reduceCtorEq]; done) | omega) only [WS, St.guard, St.put, evalO, reduceCtorEq, reduceIte, Nat.reduceAdd, Nat.reduceEqDiff, new_s, virtBlk_eq, box_s, box_vs, box_vi, box_vb, px_load_l, px_load_o, loadB_s, storeX, storeB_s, alloc_s, lay, whole, Option.join_some, List.drop_zero, List.drop_succ_cons, List.take_succ_cons, List.take_zero, List.drop_nil, List.nil_append, List.cons_append, Nat.reduceLeDiff, Nat.zero_add, and_self, and_true, cells_int, cells_bool, cells_str, cells_string, cells_agg, cells_own, cells_ro, cells_ptr, cells_nil, AV.lf.lfs, AV.lf, px_build, fills, build_string, build_str, build_int, WDR_some, Nat.reduceLeDiff, Nat.le_refl, Bool.and_self]
  refine WC_count (fun k => ⟨f_play_Items_H0 a (.own (.l 0) ((itemsN xs k).length * 4) 0 (itemsN xs k).length 4 none) (.v (.int .i64 (k : Nat))), ⟨G, [some (dBlk (itEnc.row (itemsN xs k)) true (decide (k = 0))), none, none, none]⟩⟩) 8 ?_ (fun k hk => ?_) ?_
  · exact clear_fre (by simp only [clear_nil, List.foldl_cons, List.foldl_nil, Option.some.injEq, LS, reduceCtorEq, reduceIte, Nat.reduceAdd]; rfl) (by rfl) (by simp only [f_play_Items_H0, List.all_cons, List.all_nil, noRef_v, noRef_dead, noRef_own, noRef_ptr, noRef_nil, Bool.and_true, Bool.true_and, Bool.and_self, List.contains_cons, List.contains_nil, Bool.or_false, Nat.reduceBEq, Bool.not_false, na]) (by rfl)
  · have hlt' : (k : Int) < 8 := by omega
    have e1 : IntKind.i64.wrap (37 * (k : Int)) = 37 * (k : Int) := wrap_i64_of (by omega) (by omega)
    simp (disch := first | (simp only [DS, reduceCtorEq]; done) | omega) only [f_play_Items_L0, f_play_Items_H0, WS, St.guard, St.put, evalO, reduceCtorEq, reduceIte, Nat.reduceAdd, Nat.reduceEqDiff, new_s, virtBlk_eq, box_s, box_vs, box_vi, box_vb, px_load_l, px_load_o, loadB_s, storeX, storeB_s, alloc_s, lay, whole, Option.join_some, List.drop_zero, List.drop_succ_cons, List.take_succ_cons, List.take_zero, List.drop_nil, List.nil_append, List.cons_append, Nat.reduceLeDiff, Nat.zero_add, and_self, and_true, cells_int, cells_bool, cells_str, cells_string, cells_agg, cells_own, cells_ro, cells_ptr, cells_nil, AV.lf.lfs, AV.lf, px_build, fills, build_string, build_str, build_int, WDR_some, Nat.reduceLeDiff, Nat.le_refl, Bool.and_self, hlt', decide_true]
    refine (WP_p (x := str (skuN k)) (by exact Sku_spec H.sku H.mod) (by unfold Good; dsimp only; repeat (first | exact trivial | rw [goodN] | refine ⟨dBlk_good, ?_⟩ | refine goodD (by assumption) ?_ | refine ⟨sBlk_good (by first | rfl | assumption | (simp [AV.labs.labss, AV.labs, refLt]; done)), ?_⟩))).2 ?_
    simp (disch := first | (simp only [DS, reduceCtorEq]; done) | omega) only [WS, St.guard, St.put, evalO, reduceCtorEq, reduceIte, Nat.reduceAdd, Nat.reduceEqDiff, new_s, virtBlk_eq, box_s, box_vs, box_vi, box_vb, px_load_l, px_load_o, loadB_s, storeX, storeB_s, alloc_s, lay, whole, Option.join_some, List.drop_zero, List.drop_succ_cons, List.take_succ_cons, List.take_zero, List.drop_nil, List.nil_append, List.cons_append, Nat.reduceLeDiff, Nat.zero_add, and_self, and_true, cells_int, cells_bool, cells_str, cells_string, cells_agg, cells_own, cells_ro, cells_ptr, cells_nil, AV.lf.lfs, AV.lf, px_build, fills, build_string, build_str, build_int, WDR_some, Nat.reduceLeDiff, Nat.le_refl, Bool.and_self]
    refine (WP_p (x := str (catN k)) (by exact Category_spec H.cat H.mod) (by unfold Good; dsimp only; repeat (first | exact trivial | rw [goodN] | refine ⟨dBlk_good, ?_⟩ | refine goodD (by assumption) ?_ | refine ⟨sBlk_good (by first | rfl | assumption | (simp [AV.labs.labss, AV.labs, refLt]; done)), ?_⟩))).2 ?_
    simp (disch := first | (simp only [DS, reduceCtorEq]; done) | omega) only [WS, St.guard, St.put, evalO, reduceCtorEq, reduceIte, Nat.reduceAdd, Nat.reduceEqDiff, new_s, virtBlk_eq, box_s, box_vs, box_vi, box_vb, px_load_l, px_load_o, loadB_s, storeX, storeB_s, alloc_s, lay, whole, Option.join_some, List.drop_zero, List.drop_succ_cons, List.take_succ_cons, List.take_zero, List.drop_nil, List.nil_append, List.cons_append, Nat.reduceLeDiff, Nat.zero_add, and_self, and_true, cells_int, cells_bool, cells_str, cells_string, cells_agg, cells_own, cells_ro, cells_ptr, cells_nil, AV.lf.lfs, AV.lf, px_build, fills, build_string, build_str, build_int, WDR_some, Nat.reduceLeDiff, Nat.le_refl, Bool.and_self, vBin_mul_i64, vBin_add_i64, (v _).lenSlice]
    have k7 : (k == 7) = ((k : Int) == 7) := by rw [Bool.eq_iff_iff]; simp; omega
    by_cases hkl : k < xs.length
    · have hkl' : (k : Int) < (xs.length : Int) := by omega
      have hx : xs[k]? = some xs[k] := List.getElem?_eq_getElem hkl
      generalize xs[k] = x at *
      have q := fun L => it_at (v L) hx
      simp (disch := first | (simp only [DS, reduceCtorEq]; done) | omega) only [WS, St.guard, St.put, evalO, reduceCtorEq, reduceIte, Nat.reduceAdd, Nat.reduceEqDiff, new_s, virtBlk_eq, box_s, box_vs, box_vi, box_vb, px_load_l, px_load_o, loadB_s, storeX, storeB_s, alloc_s, lay, whole, Option.join_some, List.drop_zero, List.drop_succ_cons, List.take_succ_cons, List.take_zero, List.drop_nil, List.nil_append, List.cons_append, Nat.reduceLeDiff, Nat.zero_add, and_self, and_true, cells_int, cells_bool, cells_str, cells_string, cells_agg, cells_own, cells_ro, cells_ptr, cells_nil, AV.lf.lfs, AV.lf, px_build, fills, build_string, build_str, build_int, WDR_some, Nat.reduceLeDiff, Nat.le_refl, Bool.and_self, hkl', decide_true, (q _).ix, (q _).f1, (q _).l1]
      refine WDP_r (r := .v (.int .i64 (pickV x.cat (min x.cat.length 8)))) (fun X _ => by exact pick_spec H.pick) rfl (by unfold Good; dsimp only; repeat (first | exact trivial | rw [goodN] | refine ⟨dBlk_good, ?_⟩ | refine goodD (by assumption) ?_ | refine ⟨sBlk_good (by first | rfl | assumption | (simp [AV.labs.labss, AV.labs, refLt]; done)), ?_⟩)) ?_
      simp (disch := first | (simp only [DS, reduceCtorEq]; done) | omega) only [WS, St.guard, St.put, evalO, reduceCtorEq, reduceIte, Nat.reduceAdd, Nat.reduceEqDiff, new_s, virtBlk_eq, box_s, box_vs, box_vi, box_vb, px_load_l, px_load_o, loadB_s, storeX, storeB_s, alloc_s, lay, whole, Option.join_some, List.drop_zero, List.drop_succ_cons, List.take_succ_cons, List.take_zero, List.drop_nil, List.nil_append, List.cons_append, Nat.reduceLeDiff, Nat.zero_add, and_self, and_true, cells_int, cells_bool, cells_str, cells_string, cells_agg, cells_own, cells_ro, cells_ptr, cells_nil, AV.lf.lfs, AV.lf, px_build, fills, build_string, build_str, build_int, WDR_some, Nat.reduceLeDiff, Nat.le_refl, Bool.and_self]
      refine WDP_r (r := .v (str (catAt (umod (pickV x.cat (min x.cat.length 8)) 3)))) (fun X _ => by exact Category_spec H.cat H.mod) rfl (by unfold Good; dsimp only; repeat (first | exact trivial | rw [goodN] | refine ⟨dBlk_good, ?_⟩ | refine goodD (by assumption) ?_ | refine ⟨sBlk_good (by first | rfl | assumption | (simp [AV.labs.labss, AV.labs, refLt]; done)), ?_⟩)) ?_
      simp (disch := first | (simp only [DS, reduceCtorEq]; done) | omega) only [WS, St.guard, St.put, evalO, reduceCtorEq, reduceIte, Nat.reduceAdd, Nat.reduceEqDiff, new_s, virtBlk_eq, box_s, box_vs, box_vi, box_vb, px_load_l, px_load_o, loadB_s, storeX, storeB_s, alloc_s, lay, whole, Option.join_some, List.drop_zero, List.drop_succ_cons, List.take_succ_cons, List.take_zero, List.drop_nil, List.nil_append, List.cons_append, Nat.reduceLeDiff, Nat.zero_add, and_self, and_true, cells_int, cells_bool, cells_str, cells_string, cells_agg, cells_own, cells_ro, cells_ptr, cells_nil, AV.lf.lfs, AV.lf, px_build, fills, build_string, build_str, build_int, WDR_some, Nat.reduceLeDiff, Nat.le_refl, Bool.and_self, (q _).ix, (q _).f2, (q _).l2]
      refine WDP_r (r := .v (.int .i64 (umod x.price 4000 : Nat))) (fun X _ => by exact Mod64_spec h64 4000 rfl (by omega) (by omega)) rfl (by unfold Good; dsimp only; repeat (first | exact trivial | rw [goodN] | refine ⟨dBlk_good, ?_⟩ | refine goodD (by assumption) ?_ | refine ⟨sBlk_good (by first | rfl | assumption | (simp [AV.labs.labss, AV.labs, refLt]; done)), ?_⟩)) ?_
      cases hu : x.used
      · simp (disch := first | (simp only [DS, reduceCtorEq]; done) | omega) only [WS, St.guard, St.put, evalO, reduceCtorEq, reduceIte, Nat.reduceAdd, Nat.reduceEqDiff, new_s, virtBlk_eq, box_s, box_vs, box_vi, box_vb, px_load_l, px_load_o, loadB_s, storeX, storeB_s, alloc_s, lay, whole, Option.join_some, List.drop_zero, List.drop_succ_cons, List.take_succ_cons, List.take_zero, List.drop_nil, List.nil_append, List.cons_append, Nat.reduceLeDiff, Nat.zero_add, and_self, and_true, cells_int, cells_bool, cells_str, cells_string, cells_agg, cells_own, cells_ro, cells_ptr, cells_nil, AV.lf.lfs, AV.lf, px_build, fills, build_string, build_str, build_int, WDR_some, Nat.reduceLeDiff, Nat.le_refl, Bool.and_self, (q _).ix, (q _).f3, (q _).l3, hu]
        refine WDP_er (by unfold Good; dsimp only; repeat (first | exact trivial | rw [goodN] | refine ⟨dBlk_good, ?_⟩ | refine goodD (by assumption) ?_ | refine ⟨sBlk_good (by first | rfl | assumption | (simp [AV.labs.labss, AV.labs, refLt]; done)), ?_⟩)) rfl ?_
        simp (disch := first | (simp only [DS, reduceCtorEq]; done) | omega) only [WS, St.guard, St.put, evalO, reduceCtorEq, reduceIte, Nat.reduceAdd, Nat.reduceEqDiff, WDX_some, reduceIte, if_true, if_false, Bool.and_true, Bool.true_and, true_and, Bool.false_eq_true, false_or, true_or, Hp.over, AM.over, over_nil, List.foldl_cons, List.foldl_nil, List.set_cons_zero, List.set_cons_succ, List.getElem?_cons_zero, List.getElem?_cons_succ, Option.join_some, List.length_cons, List.length_nil, Prim.sites, List.cons_append, List.nil_append, new_s, virtBlk_eq, box_s, box_vs, box_vi, box_vb, px_load_l, px_load_o, loadB_s, storeX, storeB_s, alloc_s, lay, whole, Option.join_some, List.drop_zero, List.drop_succ_cons, List.take_succ_cons, List.take_zero, List.drop_nil, List.nil_append, List.cons_append, Nat.reduceLeDiff, Nat.zero_add, and_self, and_true, cells_int, cells_bool, cells_str, cells_string, cells_agg, cells_own, cells_ro, cells_ptr, cells_nil, AV.lf.lfs, AV.lf, px_build, fills, build_string, build_str, build_int, WDR_some, Nat.reduceLeDiff, Nat.le_refl, Bool.and_self]
        refine ⟨⟨rfl, (by unfold Good; dsimp only; repeat (first | exact trivial | rw [goodN] | refine ⟨dBlk_good, ?_⟩ | refine goodD (by assumption) ?_ | refine ⟨sBlk_good (by first | rfl | assumption | (simp [AV.labs.labss, AV.labs, refLt]; done)), ?_⟩))⟩, ?_⟩
        refine WDP_er (by unfold Good; dsimp only; repeat (first | exact trivial | rw [goodN] | refine ⟨dBlk_good, ?_⟩ | refine goodD (by assumption) ?_ | refine ⟨sBlk_good (by first | rfl | assumption | (simp [AV.labs.labss, AV.labs, refLt]; done)), ?_⟩)) rfl ?_
        simp (disch := first | (simp only [DS, reduceCtorEq]; done) | omega) only [WS, St.guard, St.put, evalO, reduceCtorEq, reduceIte, Nat.reduceAdd, Nat.reduceEqDiff, WDX_some, reduceIte, if_true, if_false, Bool.and_true, Bool.true_and, true_and, Bool.false_eq_true, false_or, true_or, Hp.over, AM.over, over_nil, List.foldl_cons, List.foldl_nil, List.set_cons_zero, List.set_cons_succ, List.getElem?_cons_zero, List.getElem?_cons_succ, Option.join_some, List.length_cons, List.length_nil, Prim.sites, List.cons_append, List.nil_append, new_s, virtBlk_eq, box_s, box_vs, box_vi, box_vb, px_load_l, px_load_o, loadB_s, storeX, storeB_s, alloc_s, lay, whole, Option.join_some, List.drop_zero, List.drop_succ_cons, List.take_succ_cons, List.take_zero, List.drop_nil, List.nil_append, List.cons_append, Nat.reduceLeDiff, Nat.zero_add, and_self, and_true, cells_int, cells_bool, cells_str, cells_string, cells_agg, cells_own, cells_ro, cells_ptr, cells_nil, AV.lf.lfs, AV.lf, px_build, fills, build_string, build_str, build_int, WDR_some, Nat.reduceLeDiff, Nat.le_refl, Bool.and_self]
        refine ⟨⟨rfl, (by unfold Good; dsimp only; repeat (first | exact trivial | rw [goodN] | refine ⟨dBlk_good, ?_⟩ | refine goodD (by assumption) ?_ | refine ⟨sBlk_good (by first | rfl | assumption | (simp [AV.labs.labss, AV.labs, refLt]; done)), ?_⟩))⟩, ?_⟩
        refine WDP_er (by unfold Good; dsimp only; repeat (first | exact trivial | rw [goodN] | refine ⟨dBlk_good, ?_⟩ | refine goodD (by assumption) ?_ | refine ⟨sBlk_good (by first | rfl | assumption | (simp [AV.labs.labss, AV.labs, refLt]; done)), ?_⟩)) rfl ?_
        simp (disch := first | (simp only [DS, reduceCtorEq]; done) | omega) only [WS, St.guard, St.put, evalO, reduceCtorEq, reduceIte, Nat.reduceAdd, Nat.reduceEqDiff, WDX_some, reduceIte, if_true, if_false, Bool.and_true, Bool.true_and, true_and, Bool.false_eq_true, false_or, true_or, Hp.over, AM.over, over_nil, List.foldl_cons, List.foldl_nil, List.set_cons_zero, List.set_cons_succ, List.getElem?_cons_zero, List.getElem?_cons_succ, Option.join_some, List.length_cons, List.length_nil, Prim.sites, List.cons_append, List.nil_append, new_s, virtBlk_eq, box_s, box_vs, box_vi, box_vb, px_load_l, px_load_o, loadB_s, storeX, storeB_s, alloc_s, lay, whole, Option.join_some, List.drop_zero, List.drop_succ_cons, List.take_succ_cons, List.take_zero, List.drop_nil, List.nil_append, List.cons_append, Nat.reduceLeDiff, Nat.zero_add, and_self, and_true, cells_int, cells_bool, cells_str, cells_string, cells_agg, cells_own, cells_ro, cells_ptr, cells_nil, AV.lf.lfs, AV.lf, px_build, fills, build_string, build_str, build_int, WDR_some, Nat.reduceLeDiff, Nat.le_refl, Bool.and_self]
        refine ⟨⟨rfl, (by unfold Good; dsimp only; repeat (first | exact trivial | rw [goodN] | refine ⟨dBlk_good, ?_⟩ | refine goodD (by assumption) ?_ | refine ⟨sBlk_good (by first | rfl | assumption | (simp [AV.labs.labss, AV.labs, refLt]; done)), ?_⟩))⟩, ?_⟩
        refine (WR_eq (build_T (T := itEnc) (x := ⟨skuN k, catAt (umod (pickV x.cat (min x.cat.length 8)) 3), (umod x.price 4000 : Nat), false⟩) rfl rfl)).2 ?_
        simp (disch := first | (simp only [DS, reduceCtorEq]; done) | omega) only [WS, St.guard, St.put, evalO, reduceCtorEq, reduceIte, Nat.reduceAdd, Nat.reduceEqDiff, new_s, virtBlk_eq, box_s, box_vs, box_vi, box_vb, px_load_l, px_load_o, loadB_s, storeX, storeB_s, alloc_s, lay, whole, Option.join_some, List.drop_zero, List.drop_succ_cons, List.take_succ_cons, List.take_zero, List.drop_nil, List.nil_append, List.cons_append, Nat.reduceLeDiff, Nat.zero_add, and_self, and_true, cells_int, cells_bool, cells_str, cells_string, cells_agg, cells_own, cells_ro, cells_ptr, cells_nil, AV.lf.lfs, AV.lf, px_build, fills, build_string, build_str, build_int, WDR_some, Nat.reduceLeDiff, Nat.le_refl, Bool.and_self]
        refine (WR_eq (append_T (T := itEnc) (j := 0) (m := 2) (xs := itemsN xs k) (x := ⟨skuN k, catAt (umod (pickV x.cat (min x.cat.length 8)) 3), (umod x.price 4000 : Nat), false⟩) (v := decide (k = 0)) (by exact rfl) (by exact rfl) (by rw [itemsN_len]; unfold room; omega) (by simp))).2 ?_
        have hy : itemsN xs (k + 1) = itemsN xs k ++ [⟨skuN k, catAt (umod (pickV x.cat (min x.cat.length 8)) 3), (umod x.price 4000 : Nat), false⟩] := by rw [itemsN_succ]; congr 2; unfold itemAt; rw [hx]; simp [hu]
        simp (disch := first | (simp only [DS, reduceCtorEq]; done) | omega) only [WS, St.guard, St.put, evalO, reduceCtorEq, reduceIte, Nat.reduceAdd, Nat.reduceEqDiff, new_s, virtBlk_eq, box_s, box_vs, box_vi, box_vb, px_load_l, px_load_o, loadB_s, storeX, storeB_s, alloc_s, lay, whole, Option.join_some, List.drop_zero, List.drop_succ_cons, List.take_succ_cons, List.take_zero, List.drop_nil, List.nil_append, List.cons_append, Nat.reduceLeDiff, Nat.zero_add, and_self, and_true, cells_int, cells_bool, cells_str, cells_string, cells_agg, cells_own, cells_ro, cells_ptr, cells_nil, AV.lf.lfs, AV.lf, px_build, fills, build_string, build_str, build_int, WDR_some, Nat.reduceLeDiff, Nat.le_refl, Bool.and_self, vBin_add_i64]
        exact clear_fre (by simp only [clear_nil, List.foldl_cons, List.foldl_nil, Option.some.injEq, LS, reduceCtorEq, reduceIte, Nat.reduceAdd, itemsN_len]; rfl) (by rw [hy]; rfl) (by simp only [f_play_Items_H0, itemsN_len, List.all_cons, List.all_nil, noRef_v, noRef_dead, noRef_own, noRef_ptr, noRef_nil, Bool.and_true, Bool.true_and, Bool.and_self, List.contains_cons, List.contains_nil, Bool.or_false, Nat.reduceBEq, Bool.not_false, na]) (by rfl)
      · simp (disch := first | (simp only [DS, reduceCtorEq]; done) | omega) only [WS, St.guard, St.put, evalO, reduceCtorEq, reduceIte, Nat.reduceAdd, Nat.reduceEqDiff, new_s, virtBlk_eq, box_s, box_vs, box_vi, box_vb, px_load_l, px_load_o, loadB_s, storeX, storeB_s, alloc_s, lay, whole, Option.join_some, List.drop_zero, List.drop_succ_cons, List.take_succ_cons, List.take_zero, List.drop_nil, List.nil_append, List.cons_append, Nat.reduceLeDiff, Nat.zero_add, and_self, and_true, cells_int, cells_bool, cells_str, cells_string, cells_agg, cells_own, cells_ro, cells_ptr, cells_nil, AV.lf.lfs, AV.lf, px_build, fills, build_string, build_str, build_int, WDR_some, Nat.reduceLeDiff, Nat.le_refl, Bool.and_self, (q _).ix, (q _).f3, (q _).l3, hu]
        refine WDP_er (by unfold Good; dsimp only; repeat (first | exact trivial | rw [goodN] | refine ⟨dBlk_good, ?_⟩ | refine goodD (by assumption) ?_ | refine ⟨sBlk_good (by first | rfl | assumption | (simp [AV.labs.labss, AV.labs, refLt]; done)), ?_⟩)) rfl ?_
        simp (disch := first | (simp only [DS, reduceCtorEq]; done) | omega) only [WS, St.guard, St.put, evalO, reduceCtorEq, reduceIte, Nat.reduceAdd, Nat.reduceEqDiff, WDX_some, reduceIte, if_true, if_false, Bool.and_true, Bool.true_and, true_and, Bool.false_eq_true, false_or, true_or, Hp.over, AM.over, over_nil, List.foldl_cons, List.foldl_nil, List.set_cons_zero, List.set_cons_succ, List.getElem?_cons_zero, List.getElem?_cons_succ, Option.join_some, List.length_cons, List.length_nil, Prim.sites, List.cons_append, List.nil_append, new_s, virtBlk_eq, box_s, box_vs, box_vi, box_vb, px_load_l, px_load_o, loadB_s, storeX, storeB_s, alloc_s, lay, whole, Option.join_some, List.drop_zero, List.drop_succ_cons, List.take_succ_cons, List.take_zero, List.drop_nil, List.nil_append, List.cons_append, Nat.reduceLeDiff, Nat.zero_add, and_self, and_true, cells_int, cells_bool, cells_str, cells_string, cells_agg, cells_own, cells_ro, cells_ptr, cells_nil, AV.lf.lfs, AV.lf, px_build, fills, build_string, build_str, build_int, WDR_some, Nat.reduceLeDiff, Nat.le_refl, Bool.and_self]
        refine ⟨⟨rfl, (by unfold Good; dsimp only; repeat (first | exact trivial | rw [goodN] | refine ⟨dBlk_good, ?_⟩ | refine goodD (by assumption) ?_ | refine ⟨sBlk_good (by first | rfl | assumption | (simp [AV.labs.labss, AV.labs, refLt]; done)), ?_⟩))⟩, ?_⟩
        refine WDP_er (by unfold Good; dsimp only; repeat (first | exact trivial | rw [goodN] | refine ⟨dBlk_good, ?_⟩ | refine goodD (by assumption) ?_ | refine ⟨sBlk_good (by first | rfl | assumption | (simp [AV.labs.labss, AV.labs, refLt]; done)), ?_⟩)) rfl ?_
        simp (disch := first | (simp only [DS, reduceCtorEq]; done) | omega) only [WS, St.guard, St.put, evalO, reduceCtorEq, reduceIte, Nat.reduceAdd, Nat.reduceEqDiff, WDX_some, reduceIte, if_true, if_false, Bool.and_true, Bool.true_and, true_and, Bool.false_eq_true, false_or, true_or, Hp.over, AM.over, over_nil, List.foldl_cons, List.foldl_nil, List.set_cons_zero, List.set_cons_succ, List.getElem?_cons_zero, List.getElem?_cons_succ, Option.join_some, List.length_cons, List.length_nil, Prim.sites, List.cons_append, List.nil_append, new_s, virtBlk_eq, box_s, box_vs, box_vi, box_vb, px_load_l, px_load_o, loadB_s, storeX, storeB_s, alloc_s, lay, whole, Option.join_some, List.drop_zero, List.drop_succ_cons, List.take_succ_cons, List.take_zero, List.drop_nil, List.nil_append, List.cons_append, Nat.reduceLeDiff, Nat.zero_add, and_self, and_true, cells_int, cells_bool, cells_str, cells_string, cells_agg, cells_own, cells_ro, cells_ptr, cells_nil, AV.lf.lfs, AV.lf, px_build, fills, build_string, build_str, build_int, WDR_some, Nat.reduceLeDiff, Nat.le_refl, Bool.and_self]
        refine ⟨⟨rfl, (by unfold Good; dsimp only; repeat (first | exact trivial | rw [goodN] | refine ⟨dBlk_good, ?_⟩ | refine goodD (by assumption) ?_ | refine ⟨sBlk_good (by first | rfl | assumption | (simp [AV.labs.labss, AV.labs, refLt]; done)), ?_⟩))⟩, ?_⟩
        refine WDP_er (by unfold Good; dsimp only; repeat (first | exact trivial | rw [goodN] | refine ⟨dBlk_good, ?_⟩ | refine goodD (by assumption) ?_ | refine ⟨sBlk_good (by first | rfl | assumption | (simp [AV.labs.labss, AV.labs, refLt]; done)), ?_⟩)) rfl ?_
        simp (disch := first | (simp only [DS, reduceCtorEq]; done) | omega) only [WS, St.guard, St.put, evalO, reduceCtorEq, reduceIte, Nat.reduceAdd, Nat.reduceEqDiff, WDX_some, reduceIte, if_true, if_false, Bool.and_true, Bool.true_and, true_and, Bool.false_eq_true, false_or, true_or, Hp.over, AM.over, over_nil, List.foldl_cons, List.foldl_nil, List.set_cons_zero, List.set_cons_succ, List.getElem?_cons_zero, List.getElem?_cons_succ, Option.join_some, List.length_cons, List.length_nil, Prim.sites, List.cons_append, List.nil_append, new_s, virtBlk_eq, box_s, box_vs, box_vi, box_vb, px_load_l, px_load_o, loadB_s, storeX, storeB_s, alloc_s, lay, whole, Option.join_some, List.drop_zero, List.drop_succ_cons, List.take_succ_cons, List.take_zero, List.drop_nil, List.nil_append, List.cons_append, Nat.reduceLeDiff, Nat.zero_add, and_self, and_true, cells_int, cells_bool, cells_str, cells_string, cells_agg, cells_own, cells_ro, cells_ptr, cells_nil, AV.lf.lfs, AV.lf, px_build, fills, build_string, build_str, build_int, WDR_some, Nat.reduceLeDiff, Nat.le_refl, Bool.and_self]
        refine ⟨⟨rfl, (by unfold Good; dsimp only; repeat (first | exact trivial | rw [goodN] | refine ⟨dBlk_good, ?_⟩ | refine goodD (by assumption) ?_ | refine ⟨sBlk_good (by first | rfl | assumption | (simp [AV.labs.labss, AV.labs, refLt]; done)), ?_⟩))⟩, ?_⟩
        refine (WR_eq (build_T (T := itEnc) (x := ⟨skuN k, catAt (umod (pickV x.cat (min x.cat.length 8)) 3), (umod x.price 4000 : Nat), (k : Int) == 7⟩) rfl rfl)).2 ?_
        simp (disch := first | (simp only [DS, reduceCtorEq]; done) | omega) only [WS, St.guard, St.put, evalO, reduceCtorEq, reduceIte, Nat.reduceAdd, Nat.reduceEqDiff, new_s, virtBlk_eq, box_s, box_vs, box_vi, box_vb, px_load_l, px_load_o, loadB_s, storeX, storeB_s, alloc_s, lay, whole, Option.join_some, List.drop_zero, List.drop_succ_cons, List.take_succ_cons, List.take_zero, List.drop_nil, List.nil_append, List.cons_append, Nat.reduceLeDiff, Nat.zero_add, and_self, and_true, cells_int, cells_bool, cells_str, cells_string, cells_agg, cells_own, cells_ro, cells_ptr, cells_nil, AV.lf.lfs, AV.lf, px_build, fills, build_string, build_str, build_int, WDR_some, Nat.reduceLeDiff, Nat.le_refl, Bool.and_self]
        refine (WR_eq (append_T (T := itEnc) (j := 0) (m := 2) (xs := itemsN xs k) (x := ⟨skuN k, catAt (umod (pickV x.cat (min x.cat.length 8)) 3), (umod x.price 4000 : Nat), (k : Int) == 7⟩) (v := decide (k = 0)) (by exact rfl) (by exact rfl) (by rw [itemsN_len]; unfold room; omega) (by simp))).2 ?_
        have hy : itemsN xs (k + 1) = itemsN xs k ++ [⟨skuN k, catAt (umod (pickV x.cat (min x.cat.length 8)) 3), (umod x.price 4000 : Nat), (k : Int) == 7⟩] := by rw [itemsN_succ]; congr 2; unfold itemAt; rw [hx]; simp [hu]; exact k7
        simp (disch := first | (simp only [DS, reduceCtorEq]; done) | omega) only [WS, St.guard, St.put, evalO, reduceCtorEq, reduceIte, Nat.reduceAdd, Nat.reduceEqDiff, new_s, virtBlk_eq, box_s, box_vs, box_vi, box_vb, px_load_l, px_load_o, loadB_s, storeX, storeB_s, alloc_s, lay, whole, Option.join_some, List.drop_zero, List.drop_succ_cons, List.take_succ_cons, List.take_zero, List.drop_nil, List.nil_append, List.cons_append, Nat.reduceLeDiff, Nat.zero_add, and_self, and_true, cells_int, cells_bool, cells_str, cells_string, cells_agg, cells_own, cells_ro, cells_ptr, cells_nil, AV.lf.lfs, AV.lf, px_build, fills, build_string, build_str, build_int, WDR_some, Nat.reduceLeDiff, Nat.le_refl, Bool.and_self, vBin_add_i64]
        exact clear_fre (by simp only [clear_nil, List.foldl_cons, List.foldl_nil, Option.some.injEq, LS, reduceCtorEq, reduceIte, Nat.reduceAdd, itemsN_len]; rfl) (by rw [hy]; rfl) (by simp only [f_play_Items_H0, itemsN_len, List.all_cons, List.all_nil, noRef_v, noRef_dead, noRef_own, noRef_ptr, noRef_nil, Bool.and_true, Bool.true_and, Bool.and_self, List.contains_cons, List.contains_nil, Bool.or_false, Nat.reduceBEq, Bool.not_false, na]) (by rfl)
    · have hkl' : ¬ ((k : Int) < (xs.length : Int)) := by omega
      simp (disch := first | (simp only [DS, reduceCtorEq]; done) | omega) only [WS, St.guard, St.put, evalO, reduceCtorEq, reduceIte, Nat.reduceAdd, Nat.reduceEqDiff, new_s, virtBlk_eq, box_s, box_vs, box_vi, box_vb, px_load_l, px_load_o, loadB_s, storeX, storeB_s, alloc_s, lay, whole, Option.join_some, List.drop_zero, List.drop_succ_cons, List.take_succ_cons, List.take_zero, List.drop_nil, List.nil_append, List.cons_append, Nat.reduceLeDiff, Nat.zero_add, and_self, and_true, cells_int, cells_bool, cells_str, cells_string, cells_agg, cells_own, cells_ro, cells_ptr, cells_nil, AV.lf.lfs, AV.lf, px_build, fills, build_string, build_str, build_int, WDR_some, Nat.reduceLeDiff, Nat.le_refl, Bool.and_self, hkl', decide_false]
      refine (WR_eq (build_T (T := itEnc) (x := ⟨skuN k, catN k, 100 + 37 * (k : Int), false⟩) rfl rfl)).2 ?_
      simp (disch := first | (simp only [DS, reduceCtorEq]; done) | omega) only [WS, St.guard, St.put, evalO, reduceCtorEq, reduceIte, Nat.reduceAdd, Nat.reduceEqDiff, new_s, virtBlk_eq, box_s, box_vs, box_vi, box_vb, px_load_l, px_load_o, loadB_s, storeX, storeB_s, alloc_s, lay, whole, Option.join_some, List.drop_zero, List.drop_succ_cons, List.take_succ_cons, List.take_zero, List.drop_nil, List.nil_append, List.cons_append, Nat.reduceLeDiff, Nat.zero_add, and_self, and_true, cells_int, cells_bool, cells_str, cells_string, cells_agg, cells_own, cells_ro, cells_ptr, cells_nil, AV.lf.lfs, AV.lf, px_build, fills, build_string, build_str, build_int, WDR_some, Nat.reduceLeDiff, Nat.le_refl, Bool.and_self]
      refine (WR_eq (append_T (T := itEnc) (j := 0) (m := 2) (xs := itemsN xs k) (x := ⟨skuN k, catN k, 100 + 37 * (k : Int), false⟩) (v := decide (k = 0)) (by exact rfl) (by exact rfl) (by rw [itemsN_len]; unfold room; omega) (by simp))).2 ?_
      have hy : itemsN xs (k + 1) = itemsN xs k ++ [⟨skuN k, catN k, 100 + 37 * (k : Int), false⟩] := by rw [itemsN_succ]; congr 2; unfold itemAt; rw [List.getElem?_eq_none (by omega)]
      simp (disch := first | (simp only [DS, reduceCtorEq]; done) | omega) only [WS, St.guard, St.put, evalO, reduceCtorEq, reduceIte, Nat.reduceAdd, Nat.reduceEqDiff, new_s, virtBlk_eq, box_s, box_vs, box_vi, box_vb, px_load_l, px_load_o, loadB_s, storeX, storeB_s, alloc_s, lay, whole, Option.join_some, List.drop_zero, List.drop_succ_cons, List.take_succ_cons, List.take_zero, List.drop_nil, List.nil_append, List.cons_append, Nat.reduceLeDiff, Nat.zero_add, and_self, and_true, cells_int, cells_bool, cells_str, cells_string, cells_agg, cells_own, cells_ro, cells_ptr, cells_nil, AV.lf.lfs, AV.lf, px_build, fills, build_string, build_str, build_int, WDR_some, Nat.reduceLeDiff, Nat.le_refl, Bool.and_self, vBin_add_i64]
      exact clear_fre (by simp only [clear_nil, List.foldl_cons, List.foldl_nil, Option.some.injEq, LS, reduceCtorEq, reduceIte, Nat.reduceAdd, itemsN_len]; rfl) (by rw [hy]; rfl) (by simp only [f_play_Items_H0, itemsN_len, List.all_cons, List.all_nil, noRef_v, noRef_dead, noRef_own, noRef_ptr, noRef_nil, Bool.and_true, Bool.true_and, Bool.and_self, List.contains_cons, List.contains_nil, Bool.or_false, Nat.reduceBEq, Bool.not_false, na]) (by rfl)
  · simp (disch := first | (simp only [DS, reduceCtorEq]; done) | omega) only [f_play_Items_L0, f_play_Items_H0, WS, St.guard, St.put, evalO, reduceCtorEq, reduceIte, Nat.reduceAdd, Nat.reduceEqDiff, decide_false, fin_tmp, or_true, itemsN_len]
    exact leave_own1 (by rfl) (by rfl)
end Go.AM
namespace Go.AM
variable {prog : String → Option IFn}
variable {α : Type} {T : Enc α}
theorem ownB_spec {nm} (ht : T.agg = true) {byt : Nat} {z : List Value} (hz : z.length = T.esz) (hf : prog nm = some (gOwnB T.esz byt z)) {G a} {xs : List α} (x0 : α) (v : ∀ L, TView T ⟨G, L⟩ a xs) (hr : xs.length + 3 ≤ room) (hr2 : (xs.length + 3) * byt ≤ room) :
    Ev prog (.call nm [a, T.av x0] G) (.ret (.own (.o G.length) ((xs.length + 3) * T.esz) 0 xs.length T.esz (some (xs.length + 3))) (G ++ [some (dBlk (ownCells T xs x0) false false)])) := by
  refine call_of_fin hf ?_
  have hroom : room = 140737488355328 := rfl
  have hzl : (z.map AV.v).length = T.esz := by rw [List.length_map, hz]
  have hz0 : ∀ m, AV.lf.lfs ((List.replicate m (z.map AV.v)).flatten) = true := fun m => by
    rw [lfs_iff]; intro b hb; obtain ⟨y, hy, hby⟩ := List.mem_flatten.1 hb; rw [(List.mem_replicate.1 hy).2] at hby; exact lfs_iff.1 vals_lfs b hby
  have hp := T.pos
  simp only [gOwnB_B, enter, List.length_cons, List.length_nil, List.replicate, Nat.reduceAdd, Nat.reduceSub, List.cons_append, List.nil_append]
  simp (disch := first | (simp only [DS, reduceCtorEq]; done) | omega) only [WS, St.guard, St.put, evalO, reduceCtorEq, reduceIte, Nat.reduceAdd, Nat.reduceEqDiff]
  refine (WR_eq (box_T (T := T) (by rfl))).2 ?_
  simp (disch := first | (simp only [DS, reduceCtorEq]; done) | omega) only [WS, St.guard, St.put, evalO, reduceCtorEq, reduceIte, Nat.reduceAdd, Nat.reduceEqDiff, (v _).lenSlice, vBin_add_i64]
  have ldb : ∀ L, prim ⟨G, some (sBlk (T.E x0) true) :: L⟩ (.load T.esz true) [.ptr (.l 0) T.esz 0] = some (T.av x0, ⟨G, some (sBlk (T.E x0) true) :: L⟩) := fun L => by
    have := load_T (T := T) (G := G) (L := some (sBlk (T.E x0) true) :: L) (j := 0) (x := x0) (d := true) rfl
    rw [ht] at this; exact this
  have e3 : (xs.length : Int) + 3 = ((xs.length + 3 : Nat) : Int) := rfl
  have mk : prim ⟨G, [some (sBlk (T.E x0) true), none, none]⟩ (.makeSlice 1 T.esz byt z) [.v (.int .i64 0), .v (.int .i64 ((xs.length + 3 : Nat) : Int))] =
      some (.own (.l 1) ((xs.length + 3) * T.esz) 0 0 T.esz (some (xs.length + 3)), ⟨G, [some (sBlk (T.E x0) true), some (dBlk ((List.replicate (xs.length + 3) (z.map AV.v)).flatten) false false), none]⟩) := by
    rw [px_makeSlice, natOf_nat, show natOf (.v (.int .i64 0)) = some 0 from rfl]
    simp only [Option.bind_some]
    refine (if_pos ⟨by omega, hr, hr2, hz⟩).trans ?_
    rw [newBlk_data (hz0 _)]; rfl
  rw [e3, mk]
  simp (disch := first | (simp only [DS, reduceCtorEq]; done) | omega) only [WS, St.guard, St.put, evalO, reduceCtorEq, reduceIte, Nat.reduceAdd, Nat.reduceEqDiff]
  have ap : prim ⟨G, [some (sBlk (T.E x0) true), some (dBlk ((List.replicate (xs.length + 3) (z.map AV.v)).flatten) false false), none]⟩ (.append 2 false T.esz byt) [.own (.l 1) ((xs.length + 3) * T.esz) 0 0 T.esz (some (xs.length + 3)), a] =
      some (.own (.l 1) ((xs.length + 3) * T.esz) 0 xs.length T.esz (some (xs.length + 3)), ⟨G, [some (sBlk (T.E x0) true), some (dBlk (T.row xs ++ (List.replicate 3 (z.map AV.v)).flatten) false false), none]⟩) := by
    have hs := (v [some (sBlk (T.E x0) true), some (dBlk ((List.replicate (xs.length + 3) (z.map AV.v)).flatten) false false), none]).source
    have hcl := T.row_len xs
    simp only [prim, hs, Option.bind_some, Hp.mayFreeze, Bool.false_eq_true, if_false, Hp.append, hcl, if_true, Hp.get, List.getElem?_cons_zero, List.getElem?_cons_succ, Option.join_some, Nat.zero_add]
    have hbt : xs.length * byt ≤ room := Nat.le_trans (Nat.mul_le_mul_right _ (by omega)) hr2
    refine (if_pos ⟨rep_len hzl _, trivial, hbt, rfl⟩).trans ?_
    by_cases h0 : xs.length = 0
    · have : xs = [] := List.eq_nil_of_length_eq_zero h0
      subst this
      rfl
    · rw [if_neg h0, if_pos (show xs.length ≤ xs.length + 3 by omega), dBlk_wr, if_pos rfl]
      have hlay : lay (dBlk ((List.replicate (xs.length + 3) (z.map AV.v)).flatten) false false).cells (0 * T.esz) (T.row xs) = T.row xs ++ (List.replicate 3 (z.map AV.v)).flatten := by
        rw [dBlk_cells]
        have := lay_app (A := []) (C := (List.replicate (xs.length + 3) (z.map AV.v)).flatten) (new := T.row xs) (off := 0 * T.esz) (by simp)
        rw [List.nil_append, List.nil_append, hcl, drop_reps hzl] at this
        exact this
      rw [hlay, T.row_lf]
      rfl
  rw [ap]
  simp (disch := first | (simp only [DS, reduceCtorEq]; done) | omega) only [WS, St.guard, St.put, evalO, reduceCtorEq, reduceIte, Nat.reduceAdd, Nat.reduceEqDiff, (v _).lenSlice, vBin_add_i64]
  have sl : ∀ h, prim h (.slice T.esz false true false) [.own (.l 1) ((xs.length + 3) * T.esz) 0 xs.length T.esz (some (xs.length + 3)), .v (.int .i64 ((xs.length + 3 : Nat) : Int))] =
      some (.own (.l 1) ((xs.length + 3) * T.esz) 0 (xs.length + 3) T.esz (some (xs.length + 3)), h) := by
    intro h
    rw [px_slice_own, if_pos rfl]
    simp only [bounds, natOf_nat, Option.bind_some, AM.leCap, Nat.le_refl, decide_true, if_true, Nat.zero_le, Nat.zero_mul, Nat.zero_add, Nat.sub_zero]
  rw [e3, sl]
  simp (disch := first | (simp only [DS, reduceCtorEq]; done) | omega) only [WS, St.guard, St.put, evalO, reduceCtorEq, reduceIte, Nat.reduceAdd, Nat.reduceEqDiff, (v _).lenSlice]
  refine WC_count (fun j => ⟨gOwnB_H0 (.ptr (.l 0) T.esz 0) (.own (.l 1) ((xs.length + 3) * T.esz) 0 xs.length T.esz (some (xs.length + 3))) (.own (.l 1) ((xs.length + 3) * T.esz) 0 (xs.length + 3) T.esz (some (xs.length + 3))) (.v (.int .i64 ((xs.length + j : Nat) : Int))),
    ⟨G, [some (sBlk (T.E x0) true), some (dBlk (T.row (xs ++ List.replicate j x0) ++ (List.replicate (3 - j) (z.map AV.v)).flatten) false false), none]⟩⟩) 3 ?_ (fun j hj => ?_) ?_
  · simp only [clear_nil, List.foldl_cons, List.foldl_nil, Option.some.injEq, LS, reduceCtorEq, reduceIte, Nat.reduceAdd, List.replicate_zero, List.append_nil]; rfl
  · have hlt' : ((xs.length + j : Nat) : Int) < ((xs.length + 3 : Nat) : Int) := by omega
    have hj' : xs.length + j < xs.length + 3 := by omega
    have hcl : (T.row (xs ++ List.replicate j x0) ++ (List.replicate (3 - j) (z.map AV.v)).flatten).length = (xs.length + 3) * T.esz := by
      rw [List.length_append, T.row_len, rep_len hzl, ← Nat.add_mul]; congr 1; simp; omega
    have hoff : (xs.length + j) * T.esz + T.esz ≤ (xs.length + 3) * T.esz := by
      rw [← Nat.succ_mul]; exact Nat.mul_le_mul_right _ (by omega)
    simp (disch := first | (simp only [DS, reduceCtorEq]; done) | omega) only [gOwnB_L0, gOwnB_H0, WS, St.guard, St.put, evalO, reduceCtorEq, reduceIte, Nat.reduceAdd, Nat.reduceEqDiff, lenOf_own, Option.map_some, goInt, hlt', decide_true, px_indexAddr_own, natOf_nat, Option.bind_some, hj', and_self, Nat.zero_add, ldb]
    rw [store_d (j := 1) rfl (T.cellsOf x0) hcl (T.len x0) hoff (T.lf x0)]
    have hlay : lay (T.row (xs ++ List.replicate j x0) ++ (List.replicate (3 - j) (z.map AV.v)).flatten) ((xs.length + j) * T.esz) (T.E x0) = T.row (xs ++ List.replicate (j + 1) x0) ++ (List.replicate (3 - (j + 1)) (z.map AV.v)).flatten := by
      rw [lay_app (by rw [T.row_len]; simp), T.len, show 3 - j = (3 - (j + 1)) + 1 by omega, drop_rep hzl]
      congr 1
      rw [List.replicate_succ', ← List.append_assoc, T.row_append (xs ++ List.replicate j x0)]
      simp [Enc.row]
    rw [hlay]
    simp (disch := first | (simp only [DS, reduceCtorEq]; done) | omega) only [WS, St.guard, St.put, evalO, reduceCtorEq, reduceIte, Nat.reduceAdd, Nat.reduceEqDiff, vBin_add_i64, clear_nil, List.foldl_cons, List.foldl_nil, Option.some.injEq]
    rfl
  · simp (disch := first | (simp only [DS, reduceCtorEq]; done) | omega) only [gOwnB_L0, gOwnB_H0, WS, St.guard, St.put, evalO, reduceCtorEq, reduceIte, Nat.reduceAdd, Nat.reduceEqDiff, lenOf_own, Option.map_some, goInt, decide_false, fin_tmp]
    rw [leave_own1 (j := 1) (b := dBlk (T.row (xs ++ List.replicate 3 x0) ++ (List.replicate (3 - 3) (z.map AV.v)).flatten) false false) rfl rfl]
    simp [ownCells, List.replicate]
theorem keptB_spec [DecidableEq α] {nm plain cmp} (ht : T.agg = true) (hf : prog nm = some (gKeptB plain T.esz cmp)) (hpl : PlainOK prog plain T) (hcf : cmp.free = true) {x0 : α} (hcmp : ∀ h, prim h cmp [T.av x0, T.av x0] = some (.v (.bool false), h))
    {G p b} {xs : List α} (hp : G[p]? = some (some (dBlk (ownCells T xs x0) false false))) (w : ∀ L, TView T ⟨G, L⟩ b xs) (hx : xs.length < 2 ^ 61) :
    Ev prog (.call nm [.own (.o p) ((xs.length + 3) * T.esz) 0 xs.length T.esz (some (xs.length + 3)), b, T.av x0] G) (.ret (.v (.bool true)) G) := by
  have n1 : ∀ f sites, cmp ≠ .call f sites := by intro f ss e; subst e; cases hcf
  have n2 : ∀ sites, cmp ≠ .callV sites := by intro ss e; subst e; cases hcf
  have n3 : ∀ f sites, cmp ≠ .callIn f sites := by intro f ss e; subst e; cases hcf
  have hp0 := T.pos
  have e3 : (xs.length : Int) + 3 = ((xs.length + 3 : Nat) : Int) := rfl
  have v : ∀ L, TView T ⟨G, L⟩ (.own (.o p) ((xs.length + 3) * T.esz) 0 xs.length T.esz (some (xs.length + 3))) xs := by
    intro L
    refine ⟨rfl, ?_, T.row_len xs, rfl, by simp [capOK], hp0⟩
    simp only [Hp.sees, Hp.get, hp, Option.join_some, dBlk_cells, ownCells_len, if_true, List.drop_zero]
    rw [ownCells, T.row_append, List.take_append_of_le_length (by rw [T.row_len]; exact Nat.le_refl _), List.take_of_length_le (by rw [T.row_len]; exact Nat.le_refl _)]
  have vf : ∀ L, TView T ⟨G, L⟩ (.own (.o p) ((xs.length + 3) * T.esz) 0 (xs.length + 3) T.esz (some (xs.length + 3))) (xs ++ [x0, x0, x0]) := by
    intro L
    have hl : (xs ++ [x0, x0, x0]).length = xs.length + 3 := by simp
    unfold TView
    rw [hl]
    refine ⟨rfl, ?_, by rw [T.row_len, hl], rfl, by simp [capOK], hp0⟩
    simp only [Hp.sees, Hp.get, hp, Option.join_some, dBlk_cells, ownCells_len, if_true, List.drop_zero]
    rw [List.take_of_length_le (by rw [ownCells_len]; exact Nat.le_refl _)]; rfl
  refine call_of_fin hf ?_
  simp only [gKeptB_B, enter, List.length_cons, List.length_nil, List.replicate, Nat.reduceAdd, Nat.reduceSub, List.cons_append, List.nil_append]
  simp (disch := first | (simp only [DS, reduceCtorEq]; done) | omega) only [WS, St.guard, St.put, evalO, reduceCtorEq, reduceIte, Nat.reduceAdd, Nat.reduceEqDiff]
  refine (WR_eq (box_T (T := T) (by rfl))).2 ?_
  simp (disch := first | (simp only [DS, reduceCtorEq]; done) | omega) only [WS, St.guard, St.put, evalO, reduceCtorEq, reduceIte, Nat.reduceAdd, Nat.reduceEqDiff]
  have gdk : Good ⟨G, [some (sBlk (T.E x0) true)]⟩ := ⟨rfl, trivial⟩
  have ldb : prim ⟨G, [some (sBlk (T.E x0) true)]⟩ (.load T.esz true) [.ptr (.l 0) T.esz 0] = some (T.av x0, ⟨G, [some (sBlk (T.E x0) true)]⟩) := by
    have := load_T (T := T) (G := G) (L := [some (sBlk (T.E x0) true)]) (j := 0) (x := x0) (d := true) rfl
    rw [ht] at this; exact this
  have hpl1 := hpl (G := (⟨G, [some (sBlk (T.E x0) true)]⟩ : Hp).into) ((v _).into) ((w _).into) (by omega) (by omega)
  rw [decide_eq_true rfl] at hpl1
  rw [WP_p (x := .bool true) hpl1 (by exact gdk)]
  simp (disch := first | (simp only [DS, reduceCtorEq]; done) | omega) only [WS, St.guard, St.put, evalO, reduceCtorEq, reduceIte, Nat.reduceAdd, Nat.reduceEqDiff, (w _).lenSlice, vBin_add_i64, goInt]
  have hdec : decide (((xs.length + 3 : Nat) : Int) < (xs.length : Int) + 3) = false := by simp
  simp (disch := first | (simp only [DS, reduceCtorEq]; done) | omega) only [WS, St.guard, St.put, evalO, reduceCtorEq, reduceIte, Nat.reduceAdd, Nat.reduceEqDiff, hdec, (w _).lenSlice, vBin_add_i64]
  have sl : ∀ h, prim h (.slice T.esz false true false) [.own (.o p) ((xs.length + 3) * T.esz) 0 xs.length T.esz (some (xs.length + 3)), .v (.int .i64 ((xs.length + 3 : Nat) : Int))] =
      some (.own (.o p) ((xs.length + 3) * T.esz) 0 (xs.length + 3) T.esz (some (xs.length + 3)), h) := by
    intro h
    rw [px_slice_own, if_pos rfl]
    simp only [bounds, natOf_nat, Option.bind_some, AM.leCap, Nat.le_refl, decide_true, if_true, Nat.zero_le, Nat.zero_mul, Nat.zero_add, Nat.sub_zero]
  rw [e3, sl]
  simp (disch := first | (simp only [DS, reduceCtorEq]; done) | omega) only [WS, St.guard, St.put, evalO, reduceCtorEq, reduceIte, Nat.reduceAdd, Nat.reduceEqDiff, (w _).lenSlice]
  refine WC_count (fun j => ⟨gKeptB_H0 (.ptr (.l 0) T.esz 0) (.own (.o p) ((xs.length + 3) * T.esz) 0 (xs.length + 3) T.esz (some (xs.length + 3))) (.v (.int .i64 ((xs.length + j : Nat) : Int))), ⟨G, [some (sBlk (T.E x0) true)]⟩⟩) 3 ?_ (fun j hj => ?_) ?_
  · simp only [clear_nil, List.foldl_cons, List.foldl_nil, Option.some.injEq, LS, reduceCtorEq, reduceIte, Nat.reduceAdd]; rfl
  · have hlt' : ((xs.length + j : Nat) : Int) < ((xs.length + 3 : Nat) : Int) := by omega
    have hg : (xs ++ [x0, x0, x0])[xs.length + j]? = some x0 := by
      rw [List.getElem?_append_right (by omega), Nat.add_sub_cancel_left]
      have : j = 0 ∨ j = 1 ∨ j = 2 := by omega
      rcases this with rfl | rfl | rfl <;> rfl
    have hi : xs.length + j < (xs ++ [x0, x0, x0]).length := lt_of_get hg
    have vfl := fun L => (vf L).load hg
    rw [ht] at vfl
    simp (disch := first | (simp only [DS, reduceCtorEq]; done) | omega) only [gKeptB_L0, gKeptB_H0, WS, St.guard, St.put, evalO, reduceCtorEq, reduceIte, Nat.reduceAdd, Nat.reduceEqDiff, lenOf_own, Option.map_some, goInt, hlt', decide_true, (vf _).index hi, vfl, ldb]
    refine (WDP_free hcf).2 ?_
    rw [hcmp]
    simp (disch := first | (simp only [DS, reduceCtorEq]; done) | omega) only [WS, St.guard, St.put, evalO, reduceCtorEq, reduceIte, Nat.reduceAdd, Nat.reduceEqDiff, vBin_add_i64, clear_nil, List.foldl_cons, List.foldl_nil, Option.some.injEq]
    rfl
  · simp (disch := first | (simp only [DS, reduceCtorEq]; done) | omega) only [gKeptB_L0, gKeptB_H0, WS, St.guard, St.put, evalO, reduceCtorEq, reduceIte, Nat.reduceAdd, Nat.reduceEqDiff, lenOf_own, Option.map_some, goInt, decide_false, fin_tmp, leave_v]
    simp
end Go.AM
namespace Go.AM
variable {prog : String → Option IFn}
instance instDecItemD : DecidableEq ItemD := fun a b =>
  if h : a.sku = b.sku ∧ (a.cat = b.cat ∧ (a.price = b.price ∧ a.used = b.used)) then isTrue (by cases a; cases b; simp only at h; obtain ⟨rfl, rfl, rfl, rfl⟩ := h; rfl)
  else isFalse (by rintro rfl; exact h ⟨rfl, rfl, rfl, rfl⟩)
theorem item_eq {a b : ItemD} : decide (a = b) = (decide (a.sku = b.sku) && (decide (a.cat = b.cat) && (a.price == b.price && a.used == b.used))) := by
  rw [Bool.eq_iff_iff]
  simp only [decide_eq_true_eq, Bool.and_eq_true, beq_iff_eq]
  constructor
  · rintro rfl; exact ⟨rfl, rfl, rfl, rfl⟩
  · cases a; cases b; simp only; rintro ⟨rfl, rfl, rfl, rfl⟩; rfl
theorem cells_item {x y : ItemD} : cellsEq [.str, .str, .int, .bool] x.cells y.cells = some (decide (x = y)) := by
  have hs : ∀ a b : Txt, cellEq .str (.v (str a)) (.v (str b)) = some (decide (a = b)) := fun a b => by
    show some ((⟨a.toArray⟩ : ByteArray).toList == (⟨b.toArray⟩ : ByteArray).toList) = _
    rw [str_toList, str_toList]
    congr 1
    rw [Bool.eq_iff_iff]; simp
  have hi : ∀ a b : Int, cellEq .int (.v (.int .i64 a)) (.v (.int .i64 b)) = some (a == b) := fun a b => rfl
  have hb : ∀ a b : Bool, cellEq .bool (.v (.bool a)) (.v (.bool b)) = some (a == b) := fun a b => rfl
  unfold ItemD.cells
  simp only [cellsEq, hs, hi, hb, item_eq, Bool.and_true]
theorem eq_item {h neg} {x y : ItemD} : prim h (.eq neg [.str, .str, .int, .bool]) [.agg x.cells, .agg y.cells] = some (.v (.bool (decide (x = y) != neg)), h) := by
  rw [px_eq, cells_item]; rfl
structure Law10 (prog : String → Option IFn) : Prop extends GoodsLib prog where
  play : PlayBase prog
  items : prog "haberdash/haberdashplay.Items" = some f_play_Items
  mod64 : prog "haberdash/haberdashplay.Mod64" = some f_play_Mod64
  awake : prog "haberdash/haberdashlaw10.awake" = some f_law10_awake
  own : prog "haberdash/haberdashhelp.Own[haberdash/api.Item]" = some f_help_Own_api_Item_
  kept : prog "haberdash/haberdashhelp.Kept[haberdash/api.Item]" = some f_help_Kept_api_Item_
  same : prog "haberdash/haberdashhelp.Same[haberdash/api.Item]" = some f_help_Same_api_Item_
  plain : prog "haberdash/haberdashhelp.Plain[haberdash/api.Item]" = some f_help_Plain_api_Item_
  plain1 : prog "haberdash/haberdashhelp.Plain[haberdash/api.Item]$1" = some f_help_Plain_api_Item__1
def itZ : List Value := [.string ⟨#[]⟩, .string ⟨#[]⟩, .int .i64 0, .bool false]
theorem ownI (H : prog "haberdash/haberdashhelp.Own[haberdash/api.Item]" = some f_help_Own_api_Item_) {G a} {xs : List ItemD} (x0 : ItemD) (v : ∀ L, TView itEnc ⟨G, L⟩ a xs) (hr : (xs.length + 3) * 48 ≤ room) :
    Ev prog (.call "haberdash/haberdashhelp.Own[haberdash/api.Item]" [a, itEnc.av x0] G) (.ret (.own (.o G.length) ((xs.length + 3) * 4) 0 xs.length 4 (some (xs.length + 3))) (G ++ [some (dBlk (ownCells itEnc xs x0) false false)])) :=
  ownB_spec (prog := prog) (T := itEnc) rfl (byt := 48) (z := itZ) rfl (H.trans (congrArg some (by rfl))) x0 v (by omega) hr
theorem plainI (h1 : prog "haberdash/haberdashhelp.Plain[haberdash/api.Item]" = some f_help_Plain_api_Item_) (h2 : prog "haberdash/haberdashhelp.Same[haberdash/api.Item]" = some f_help_Same_api_Item_)
    (h3 : prog "haberdash/haberdashhelp.Plain[haberdash/api.Item]$1" = some f_help_Plain_api_Item__1) : PlainOK prog "haberdash/haberdashhelp.Plain[haberdash/api.Item]" itEnc := by
  refine plain_ok (same := "haberdash/haberdashhelp.Same[haberdash/api.Item]") (one := "haberdash/haberdashhelp.Plain[haberdash/api.Item]$1") (h1.trans (congrArg some (by rfl))) (h2.trans (congrArg some (by rfl))) fun {G} x y => ?_
  refine call_of_fin h3 ?_
  have x4 : ∀ x : ItemD, x.cells.length = 4 := fun _ => rfl
  have xt : ∀ x : ItemD, List.take 4 x.cells = x.cells := fun _ => rfl
  simp only [f_help_Plain_api_Item__1_B, enter, List.length_cons, List.length_nil, List.replicate, Nat.reduceAdd, Nat.reduceSub, List.cons_append, List.nil_append, itEnc_av]
  simp (disch := first | (simp only [DS, reduceCtorEq]; done) | omega) only [WS, St.guard, St.put, evalO, reduceCtorEq, reduceIte, Nat.reduceAdd, Nat.reduceEqDiff, new_s, virtBlk_eq, box_s, box_vs, box_vi, box_vb, px_load_l, px_load_o, loadB_s, storeX, storeB_s, alloc_s, lay, whole, Option.join_some, List.drop_zero, List.drop_succ_cons, List.take_succ_cons, List.take_zero, List.drop_nil, List.nil_append, List.cons_append, Nat.reduceLeDiff, Nat.zero_add, and_self, and_true, cells_int, cells_bool, cells_str, cells_string, cells_agg, cells_own, cells_ro, cells_ptr, cells_nil, AV.lf.lfs, AV.lf, px_build, fills, build_string, build_str, build_int, WDR_some, Nat.reduceLeDiff, Nat.le_refl, Bool.and_self, item_box, x4, xt, cells_item, fin_tmp, leave_v]
  simp
theorem keptI (H : Law10 prog) {G p b} {xs : List ItemD} (x0 : ItemD) (hp : G[p]? = some (some (dBlk (ownCells itEnc xs x0) false false))) (w : ∀ L, TView itEnc ⟨G, L⟩ b xs) (hx : xs.length < 2 ^ 61) :
    Ev prog (.call "haberdash/haberdashhelp.Kept[haberdash/api.Item]" [.own (.o p) ((xs.length + 3) * 4) 0 xs.length 4 (some (xs.length + 3)), b, itEnc.av x0] G) (.ret (.v (.bool true)) G) :=
  keptB_spec (prog := prog) (T := itEnc) (plain := "haberdash/haberdashhelp.Plain[haberdash/api.Item]") (cmp := .eq true [.str, .str, .int, .bool]) (x0 := x0) rfl (H.kept.trans (congrArg some (by rfl))) (plainI H.plain H.same H.plain1) rfl (fun h => by
    rw [itEnc_av, eq_item]; simp) hp w hx
def fs10 : List (String × IFn) := [
  ("haberdash/haberdashlaw10.awake", f_law10_awake), ("haberdash/goods.Name", f_goods_Name), ("haberdash/goods.Rise", f_goods_Rise), ("haberdash/goods.Right", f_goods_Right), ("haberdash/goods.Find", f_goods_Find),
  ("haberdash/goods.Find$1", f_goods_Find_1), ("haberdash/goods.bySku", f_goods_bySku), ("cmp.Compare[string]", f_cmp_Compare_string_), ("cmp.isNaN[string]", f_cmp_isNaN_string_),
  ("slices.IsSortedFunc[[]haberdash/api.Item,haberdash/api.Item]", f_slices_IsSortedFunc___api_Item_api_Item_),
  ("slices.BinarySearchFunc[[]haberdash/api.Item,haberdash/api.Item,haberdash/api.Item]", f_slices_BinarySearchFunc___api_Item_api_Item_api_Item_),
  ("slices.IndexFunc[[]haberdash/api.Item,haberdash/api.Item]", f_slices_IndexFunc___api_Item_api_Item_)]
theorem Law10.fs (H : Law10 prog) : Holds prog fs10 := ⟨H.awake, H.name, H.riseF, H.right, H.find, H.find1, H.bySku, H.cmp, H.nan, H.sorted, H.search, H.indexF, trivial⟩
theorem is_itemsS {cs : List AV} (h : (Ty.slice itemTy).Is cs) : ∃ a, ∃ xs : List ItemD, cs = [a] ∧ (∀ h, TView itEnc h a xs) ∧ xs.length ≤ maxLen ∧ smallI xs := by
  rcases h with rfl | ⟨es, rfl, h, hl⟩
  · exact ⟨_, [], rfl, fun h => view_nil' (by decide), by simp, by simp [smallI]⟩
  · obtain ⟨xs, hb, hs⟩ : ∃ xs : List ItemD, es = xs.map itEnc.E ∧ smallI xs := by
      clear hl
      induction es with
      | nil => exact ⟨[], rfl, by simp [smallI]⟩
      | cons e es ih =>
        obtain ⟨xs, hb, hs⟩ := ih fun x hx => h x (by simp [hx])
        obtain ⟨x, rfl, h1, h2, _⟩ := is_item (h e (by simp))
        exact ⟨x :: xs, by rw [hb]; rfl, fun y hy => by
          rcases List.mem_cons.1 hy with rfl | hy
          · exact ⟨h1, h2⟩
          · exact hs y hy⟩
    subst hb
    have e : (xs.map itEnc.E).flatten = itEnc.row xs := by rw [Enc.row, List.flatMap_def]
    refine ⟨_, xs, rfl, fun h => ?_, by simpa using hl, hs⟩
    rw [e, List.length_map]
    exact view_ro (by decide) (itEnc.row_len xs)
end Go.AM
