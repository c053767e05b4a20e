import Derived.Test.YtikbagggffehkaaSortA
import Derived.Test.YtikbagggffehkaaPlayA
import Derived.Test.YtikbagggffehkaaScopeB
import Derived.KernelRfl
set_option linter.unusedVariables false
set_option linter.unusedSimpArgs false
namespace Go.AM
variable {prog : String → Option IFn}
structure FindLib (prog : String → Option IFn) : Prop where
  rin : prog "haberdash/haberdashref10.in" = some f_ref10_in
  find : prog "haberdash/goods.Find" = some f_goods_Find
  find1 : prog "haberdash/goods.Find$1" = some f_goods_Find_1
  rfind : prog "haberdash/haberdashref10.Find" = some f_ref10_Find
  bySku : prog "haberdash/goods.bySku" = some f_goods_bySku
  cmp : prog "cmp.Compare[string]" = some f_cmp_Compare_string_
  nan : prog "cmp.isNaN[string]" = some f_cmp_isNaN_string_
  sorted : prog "slices.IsSortedFunc[[]haberdash/api.Item,haberdash/api.Item]" = some f_slices_IsSortedFunc___api_Item_api_Item_
  search : prog "slices.BinarySearchFunc[[]haberdash/api.Item,haberdash/api.Item,haberdash/api.Item]" = some f_slices_BinarySearchFunc___api_Item_api_Item_api_Item_
  indexF : prog "slices.IndexFunc[[]haberdash/api.Item,haberdash/api.Item]" = some f_slices_IndexFunc___api_Item_api_Item_
end Go.AM
namespace Go.AM
variable {prog : String → Option IFn}
section
variable {α : Type} {T : Enc α}
theorem build_T {G L} {j : Nat} {zs : List Value} {x : α} (hz : zs.length = T.esz) (hL : L[j]? = some none) :
    prim ⟨G, L⟩ (.buildSlice j false T.esz 1 zs [(0, T.esz)]) [T.av x] = some (.own (.l j) T.esz 0 1 T.esz (some 1), ⟨G, L.set j (some (dBlk (T.E x) false false))⟩) := by
  rw [px_buildSlice]
  have hl : ((List.replicate 1 (zs.map AV.v)).flatten).length = T.esz := by simp [hz]
  have hf : fills [(0, T.esz)] ((List.replicate 1 (zs.map AV.v)).flatten) [T.av x] = some (T.E x) := by
    simp only [fills, T.cellsOf, T.len]
    rw [if_pos ⟨trivial, by omega⟩]
    congr 1
    unfold lay
    rw [List.take_zero, List.nil_append, Nat.zero_add, T.len, List.drop_of_length_le (by omega), List.append_nil]
  simp only [Hp.mayFreeze, Bool.false_eq_true, if_false, Option.bind_some, hf]
  refine (if_pos (by rw [T.len, Nat.one_mul])).trans ?_
  rw [newBlk_data (T.lf x)]
  simp only [Hp.new, hL, Option.map_some, Nat.one_mul]
theorem append_T {G L} {site j m bytes : Nat} {xs : List α} {x : α} {v o2 v2 : Bool} {cap} (hL : L[j]? = some (some (dBlk (T.row xs) true v))) (hm : L[m]? = some (some (dBlk (T.E x) o2 v2))) (hr : (xs.length + 1) * bytes ≤ room) (hcap : ∀ c, cap = some c → 1 ≤ c) :
    prim ⟨G, L⟩ (.append site false T.esz bytes) [.own (.l j) (xs.length * T.esz) 0 xs.length T.esz none, .own (.l m) T.esz 0 1 T.esz cap] =
      some (.own (.l j) ((xs.length + 1) * T.esz) 0 (xs.length + 1) T.esz none, ⟨G, L.set j (some (dBlk (T.row (xs ++ [x])) true false))⟩) := by
  have hv : View ⟨G, L⟩ (.own (.l m) T.esz 0 1 T.esz cap) T.esz 1 (T.E x) := own_viewC hm (T.len x) (by omega) T.pos hcap
  have := append_own (site := site) (bytes := bytes) hL (T.row_len xs) hv (T.lf x) (by omega) hr
  rw [T.row_append, show T.row [x] = T.E x from by simp [Enc.row]]
  exact this
theorem own_T {G L} {j : Nat} {xs : List α} {o v : Bool} {cap} (hL : L[j]? = some (some (dBlk (T.row xs) o v))) (hc : ∀ c, cap = some c → xs.length ≤ c) : TView T ⟨G, L⟩ (.own (.l j) (xs.length * T.esz) 0 xs.length T.esz cap) xs :=
  own_viewC hL (T.row_len xs) rfl T.pos hc
end
theorem Mod64_spec (hf : prog "haberdash/haberdashplay.Mod64" = some f_play_Mod64) {G} {c z : Int} (n : Nat) (hz : z = n) (h0 : 0 < n) (hn : n < 9223372036854775808) :
    Ev prog (.call "haberdash/haberdashplay.Mod64" [.v (.int .i64 c), .v (.int .i64 z)] G) (.ret (.v (.int .i64 (umod c n : Nat))) G) := by
  refine call_of_fin hf ?_
  have := umod_lt (c := c) h0
  simp only [f_play_Mod64_B, enter, List.length_cons, List.length_nil, List.replicate, Nat.reduceAdd, Nat.reduceSub, List.cons_append, List.nil_append]
  simp (disch := first | (simp only [DS, reduceCtorEq]; done) | omega) only [WS, St.guard, St.put, evalO, reduceCtorEq, reduceIte, Nat.reduceAdd, Nat.reduceEqDiff]
  rw [vRem_u64 n hz h0 hn]
  simp (disch := first | (simp only [DS, reduceCtorEq]; done) | omega) only [WS, St.guard, St.put, evalO, reduceCtorEq, reduceIte, Nat.reduceAdd, Nat.reduceEqDiff, wrap_i64_nat, fin_tmp, leave_v]
  simp
end Go.AM
namespace Go.AM
variable {prog : String → Option IFn}
instance instDecItemD : DecidableEq ItemD := fun a b =>
  if h : a.sku = b.sku ∧ (a.cat = b.cat ∧ (a.price = b.price ∧ a.used = b.used)) then isTrue (by cases a; cases b; simp only at h; obtain ⟨rfl, rfl, rfl, rfl⟩ := h; rfl)
  else isFalse (by rintro rfl; exact h ⟨rfl, rfl, rfl, rfl⟩)
end Go.AM
