import Derived.Test.YtikbagggffehkaaSortA
import Derived.Test.YtikbagggffehkaaPlayA
import Derived.Test.YtikbagggffehkaaScopeB
import Derived.KernelRfl
set_option linter.unusedVariables false
set_option linter.unusedSimpArgs false
namespace Go.AM
variable {prog : String → Option IFn}
structure FindLib (prog : String → Option IFn) : Prop where
  rin : prog "haberdash/haberdashref10.in" = some f_ref10_in
  find : prog "haberdash/goods.Find" = some f_goods_Find
  find1 : prog "haberdash/goods.Find$1" = some f_goods_Find_1
  rfind : prog "haberdash/haberdashref10.Find" = some f_ref10_Find
  bySku : prog "haberdash/goods.bySku" = some f_goods_bySku
  cmp : prog "cmp.Compare[string]" = some f_cmp_Compare_string_
  nan : prog "cmp.isNaN[string]" = some f_cmp_isNaN_string_
  sorted : prog "slices.IsSortedFunc[[]haberdash/api.Item,haberdash/api.Item]" = some f_slices_IsSortedFunc___api_Item_api_Item_
  search : prog "slices.BinarySearchFunc[[]haberdash/api.Item,haberdash/api.Item,haberdash/api.Item]" = some f_slices_BinarySearchFunc___api_Item_api_Item_api_Item_
  indexF : prog "slices.IndexFunc[[]haberdash/api.Item,haberdash/api.Item]" = some f_slices_IndexFunc___api_Item_api_Item_
theorem itEnc_av {x : ItemD} : itEnc.av x = .agg x.cells := rfl
def skus (xs : List ItemD) : List Txt := xs.map ItemD.sku
end Go.AM
namespace Go.AM
variable {prog : String → Option IFn}
theorem bySku_spec (H : FindLib prog) {G} (x y : ItemD) : Ev prog (.call "haberdash/goods.bySku" [itEnc.av x, itEnc.av y] G) (.ret (.v (.int .i64 (cmpT x.sku y.sku))) G) := by
  refine call_of_fin H.bySku ?_
  simp only [f_goods_bySku_B, enter, List.length_cons, List.length_nil, List.replicate, Nat.reduceAdd, Nat.reduceSub, List.cons_append, List.nil_append, itEnc_av, ItemD.cells]
  simp (disch := first | (simp only [DS, reduceCtorEq]; done) | omega) only [WS, St.guard, St.put, evalO, reduceCtorEq, reduceIte, Nat.reduceAdd, Nat.reduceEqDiff, new_s, virtBlk_eq, box_s, box_vs, box_vi, box_vb, px_load_l, px_load_o, loadB_s, storeX, storeB_s, alloc_s, lay, whole, Option.join_some, List.drop_zero, List.drop_succ_cons, List.take_succ_cons, List.take_zero, List.drop_nil, List.nil_append, List.cons_append, Nat.reduceLeDiff, Nat.zero_add, and_self, and_true, cells_int, cells_bool, cells_str, cells_string, cells_agg, cells_own, cells_ro, cells_ptr, cells_nil, AV.lf.lfs, AV.lf, px_build, fills, build_string, build_str, build_int, WDR_some, Nat.reduceLeDiff, Nat.le_refl, Bool.and_self]
  refine (WP_p (x := .int .i64 (cmpT x.sku y.sku)) (by exact Compare_spec H.cmp H.nan) (by unfold Good; dsimp only; repeat (first | exact trivial | rw [goodN] | refine ⟨dBlk_good, ?_⟩ | refine goodD (by assumption) ?_ | refine ⟨sBlk_good (by first | rfl | assumption | (simp [AV.labs.labss, AV.labs, refLt]; done)), ?_⟩))).2 ?_
  simp (disch := first | (simp only [DS, reduceCtorEq]; done) | omega) only [WS, St.guard, St.put, evalO, reduceCtorEq, reduceIte, Nat.reduceAdd, Nat.reduceEqDiff, fin_tmp, leave_v]
  simp
theorem find1_spec (H : FindLib prog) {G} {p : Nat} {s : Txt} {d} (x : ItemD) (hp : G[p]? = some (some (sBlk [.v (str s)] d))) :
    Ev prog (.call "haberdash/goods.Find$1" [itEnc.av x, .ptr (.o p) 1 0] G) (.ret (.v (.bool (decide (x.sku = s)))) G) := by
  refine call_of_fin H.find1 ?_
  simp only [f_goods_Find_1_B, enter, List.length_cons, List.length_nil, List.replicate, Nat.reduceAdd, Nat.reduceSub, List.cons_append, List.nil_append, itEnc_av, ItemD.cells]
  simp (disch := first | (simp only [DS, reduceCtorEq]; done) | omega) only [WS, St.guard, St.put, evalO, reduceCtorEq, reduceIte, Nat.reduceAdd, Nat.reduceEqDiff, new_s, virtBlk_eq, box_s, box_vs, box_vi, box_vb, px_load_l, px_load_o, loadB_s, storeX, storeB_s, alloc_s, lay, whole, Option.join_some, List.drop_zero, List.drop_succ_cons, List.take_succ_cons, List.take_zero, List.drop_nil, List.nil_append, List.cons_append, Nat.reduceLeDiff, Nat.zero_add, and_self, and_true, cells_int, cells_bool, cells_str, cells_string, cells_agg, cells_own, cells_ro, cells_ptr, cells_nil, AV.lf.lfs, AV.lf, px_build, fills, build_string, build_str, build_int, WDR_some, Nat.reduceLeDiff, Nat.le_refl, Bool.and_self, hp, vBin_eql_str, fin_tmp, leave_v]
  simp
theorem findIdx_map' {α β : Type} {f : α → β} {p : β → Bool} : ∀ (xs : List α), (xs.map f).findIdx p = xs.findIdx (fun x => p (f x))
  | [] => rfl
  | x :: xs => by simp only [List.map_cons, List.findIdx_cons, findIdx_map' xs]
theorem into_nil {G : List (Option Blk)} : (⟨G, []⟩ : Hp).into = G := by simp [Hp.into]
theorem Find_spec (H : FindLib prog) {G a} {xs : List ItemD} {s : Txt} (v : ∀ L, TView itEnc ⟨G, L⟩ a xs) (hl : xs.length < 2 ^ 62) :
    Ev prog (.call "haberdash/goods.Find" [a, .v (str s)] G) (.ret (.v (.int .i64 (findV (skus xs) s))) G) := by
  have hml : xs.length ≤ maxLen := by unfold maxLen; omega
  refine call_of_fin H.find ?_
  simp only [f_goods_Find_B, enter, List.length_cons, List.length_nil, List.replicate, Nat.reduceAdd, Nat.reduceSub, List.cons_append, List.nil_append]
  simp (disch := first | (simp only [DS, reduceCtorEq]; done) | omega) only [WS, St.guard, St.put, evalO, reduceCtorEq, reduceIte, Nat.reduceAdd, Nat.reduceEqDiff, new_s, virtBlk_eq, box_s, box_vs, box_vi, box_vb, px_load_l, px_load_o, loadB_s, storeX, storeB_s, alloc_s, lay, whole, Option.join_some, List.drop_zero, List.drop_succ_cons, List.take_succ_cons, List.take_zero, List.drop_nil, List.nil_append, List.cons_append, Nat.reduceLeDiff, Nat.zero_add, and_self, and_true, cells_int, cells_bool, cells_str, cells_string, cells_agg, cells_own, cells_ro, cells_ptr, cells_nil, AV.lf.lfs, AV.lf, px_build, fills, build_string, build_str, build_int, WDR_some, Nat.reduceLeDiff, Nat.le_refl, Bool.and_self]
  refine (WP_p (x := .bool (sortedB (skus xs))) (by exact gSorted_spec (T := itEnc) rfl H.sorted ItemD.sku ((v _).into) hml (fun x y => bySku_spec H x y)) (by unfold Good; dsimp only; repeat (first | exact trivial | rw [goodN] | refine ⟨dBlk_good, ?_⟩ | refine goodD (by assumption) ?_ | refine ⟨sBlk_good (by first | rfl | assumption | (simp [AV.labs.labss, AV.labs, refLt]; done)), ?_⟩))).2 ?_
  cases hs : sortedB (skus xs)
  · simp (disch := first | (simp only [DS, reduceCtorEq]; done) | omega) only [WS, St.guard, St.put, evalO, reduceCtorEq, reduceIte, Nat.reduceAdd, Nat.reduceEqDiff, new_s, virtBlk_eq, box_s, box_vs, box_vi, box_vb, px_load_l, px_load_o, loadB_s, storeX, storeB_s, alloc_s, lay, whole, Option.join_some, List.drop_zero, List.drop_succ_cons, List.take_succ_cons, List.take_zero, List.drop_nil, List.nil_append, List.cons_append, Nat.reduceLeDiff, Nat.zero_add, and_self, and_true, cells_int, cells_bool, cells_str, cells_string, cells_agg, cells_own, cells_ro, cells_ptr, cells_nil, AV.lf.lfs, AV.lf, px_build, fills, build_string, build_str, build_int, WDR_some, Nat.reduceLeDiff, Nat.le_refl, Bool.and_self, px_makeFunc]
    have hG : (⟨G, [some (sBlk [.v (str s)] true), some (sBlk [.v (str s), .v (.string ⟨#[]⟩), .v (.int .i64 0), .v (.bool false)] true)]⟩ : Hp).into[G.length + 0]? = some (some (sBlk [.v (str s)] true)) :=
      into_data (h := ⟨G, [some (sBlk [.v (str s)] true), some (sBlk [.v (str s), .v (.string ⟨#[]⟩), .v (.int .i64 0), .v (.bool false)] true)]⟩) (j := 0) rfl rfl
    have e : (.int .i64 (if xs.findIdx (fun x => decide (x.sku = s)) < xs.length then (xs.findIdx (fun x => decide (x.sku = s)) : Int) else -1) : Value) = .int .i64 (findV (skus xs) s) := by
      unfold findV fstB skus
      rw [findIdx_map', List.length_map]
    refine (WP_p (x := .int .i64 (findV (skus xs) s)) (by
      rw [← e]
      refine gIndexF_spec (T := itEnc) rfl H.indexF (fun x => decide (x.sku = s)) ((v _).into) hml (.fn "haberdash/goods.Find$1" [] [.ptr (.o (G.length + 0)) 1 0]) fun x => ?_
      refine .opCallV rfl (r := .v (.bool (decide (x.sku = s)))) (G2 := (⟨_, []⟩ : Hp).into) ?_ (back_pure rfl)
      simp only [List.nil_append, List.cons_append, List.map_cons, List.map_nil, av_ren]
      exact find1_spec H x (by rw [into_nil]; exact hG)) (by unfold Good; dsimp only; repeat (first | exact trivial | rw [goodN] | refine ⟨dBlk_good, ?_⟩ | refine goodD (by assumption) ?_ | refine ⟨sBlk_good (by first | rfl | assumption | (simp [AV.labs.labss, AV.labs, refLt]; done)), ?_⟩))).2 ?_
    simp (disch := first | (simp only [DS, reduceCtorEq]; done) | omega) only [WS, St.guard, St.put, evalO, reduceCtorEq, reduceIte, Nat.reduceAdd, Nat.reduceEqDiff, fin_tmp, leave_v]
    simp
  · simp (disch := first | (simp only [DS, reduceCtorEq]; done) | omega) only [WS, St.guard, St.put, evalO, reduceCtorEq, reduceIte, Nat.reduceAdd, Nat.reduceEqDiff, new_s, virtBlk_eq, box_s, box_vs, box_vi, box_vb, px_load_l, px_load_o, loadB_s, storeX, storeB_s, alloc_s, lay, whole, Option.join_some, List.drop_zero, List.drop_succ_cons, List.take_succ_cons, List.take_zero, List.drop_nil, List.nil_append, List.cons_append, Nat.reduceLeDiff, Nat.zero_add, and_self, and_true, cells_int, cells_bool, cells_str, cells_string, cells_agg, cells_own, cells_ro, cells_ptr, cells_nil, AV.lf.lfs, AV.lf, px_build, fills, build_string, build_str, build_int, WDR_some, Nat.reduceLeDiff, Nat.le_refl, Bool.and_self]
    refine (WP_r (r := .tup [.v (.int .i64 (lowB (skus xs) s : Nat)), .v (.bool (decide ((skus xs)[lowB (skus xs) s]? = some s)))]) (by
      exact gSearch_spec (T := itEnc) (x0 := ⟨s, [], 0, false⟩) rfl H.search ItemD.sku ((v _).into) hl (sortedB_iff.1 hs) (fun x y => bySku_spec H x y)) rfl (by unfold Good; dsimp only; repeat (first | exact trivial | rw [goodN] | refine ⟨dBlk_good, ?_⟩ | refine goodD (by assumption) ?_ | refine ⟨sBlk_good (by first | rfl | assumption | (simp [AV.labs.labss, AV.labs, refLt]; done)), ?_⟩))).2 ?_
    have e := fst_low (s := s) (sortedB_iff.1 hs)
    by_cases hl2 : (skus xs)[lowB (skus xs) s]? = some s
    · rw [if_pos hl2] at e
      rw [decide_eq_true hl2]
      simp (disch := first | (simp only [DS, reduceCtorEq]; done) | omega) only [WS, St.guard, St.put, evalO, reduceCtorEq, reduceIte, Nat.reduceAdd, Nat.reduceEqDiff, fin_tmp, leave_v, e]
      simp
    · rw [if_neg hl2] at e
      rw [decide_eq_false hl2]
      simp (disch := first | (simp only [DS, reduceCtorEq]; done) | omega) only [WS, St.guard, St.put, evalO, reduceCtorEq, reduceIte, Nat.reduceAdd, Nat.reduceEqDiff, fin_tmp, leave_v, e]
      simp
end Go.AM
namespace Go.AM
variable {prog : String → Option IFn}
section
variable {α : Type} {T : Enc α}
theorem build_T {G L} {j : Nat} {zs : List Value} {x : α} (hz : zs.length = T.esz) (hL : L[j]? = some none) :
    prim ⟨G, L⟩ (.buildSlice j false T.esz 1 zs [(0, T.esz)]) [T.av x] = some (.own (.l j) T.esz 0 1 T.esz (some 1), ⟨G, L.set j (some (dBlk (T.E x) false false))⟩) := by
  rw [px_buildSlice]
  have hl : ((List.replicate 1 (zs.map AV.v)).flatten).length = T.esz := by simp [hz]
  have hf : fills [(0, T.esz)] ((List.replicate 1 (zs.map AV.v)).flatten) [T.av x] = some (T.E x) := by
    simp only [fills, T.cellsOf, T.len]
    rw [if_pos ⟨trivial, by omega⟩]
    congr 1
    unfold lay
    rw [List.take_zero, List.nil_append, Nat.zero_add, T.len, List.drop_of_length_le (by omega), List.append_nil]
  simp only [Hp.mayFreeze, Bool.false_eq_true, if_false, Option.bind_some, hf]
  refine (if_pos (by rw [T.len, Nat.one_mul])).trans ?_
  rw [newBlk_data (T.lf x)]
  simp only [Hp.new, hL, Option.map_some, Nat.one_mul]
theorem own_T {G L} {j : Nat} {xs : List α} {o v : Bool} {cap} (hL : L[j]? = some (some (dBlk (T.row xs) o v))) (hc : ∀ c, cap = some c → xs.length ≤ c) : TView T ⟨G, L⟩ (.own (.l j) (xs.length * T.esz) 0 xs.length T.esz cap) xs :=
  own_viewC hL (T.row_len xs) rfl T.pos hc
end
theorem Mod64_spec (hf : prog "haberdash/haberdashplay.Mod64" = some f_play_Mod64) {G} {c z : Int} (n : Nat) (hz : z = n) (h0 : 0 < n) (hn : n < 9223372036854775808) :
    Ev prog (.call "haberdash/haberdashplay.Mod64" [.v (.int .i64 c), .v (.int .i64 z)] G) (.ret (.v (.int .i64 (umod c n : Nat))) G) := by
  refine call_of_fin hf ?_
  have := umod_lt (c := c) h0
  simp only [f_play_Mod64_B, enter, List.length_cons, List.length_nil, List.replicate, Nat.reduceAdd, Nat.reduceSub, List.cons_append, List.nil_append]
  simp (disch := first | (simp only [DS, reduceCtorEq]; done) | omega) only [WS, St.guard, St.put, evalO, reduceCtorEq, reduceIte, Nat.reduceAdd, Nat.reduceEqDiff]
  rw [vRem_u64 n hz h0 hn]
  simp (disch := first | (simp only [DS, reduceCtorEq]; done) | omega) only [WS, St.guard, St.put, evalO, reduceCtorEq, reduceIte, Nat.reduceAdd, Nat.reduceEqDiff, wrap_i64_nat, fin_tmp, leave_v]
  simp
end Go.AM
namespace Go.AM
variable {prog : String → Option IFn}
instance instDecItemD : DecidableEq ItemD := fun a b =>
  if h : a.sku = b.sku ∧ (a.cat = b.cat ∧ (a.price = b.price ∧ a.used = b.used)) then isTrue (by cases a; cases b; simp only at h; obtain ⟨rfl, rfl, rfl, rfl⟩ := h; rfl)
  else isFalse (by rintro rfl; exact h ⟨rfl, rfl, rfl, rfl⟩)
def itZ : List Value := [.string ⟨#[]⟩, .string ⟨#[]⟩, .int .i64 0, .bool false]
end Go.AM
