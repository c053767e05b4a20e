import Derived.Test.YtdcnjckkcfoppaaLeafB
import Derived.Test.YtdcnjckkcfoppaaHelp
import Derived.Test.YtdcnjckkcfoppaaAMD
set_option linter.unusedVariables false
set_option linter.unusedSimpArgs false
namespace Go.AM
variable {prog : String → Option IFn}
theorem build0 {G L} {site : Nat} {z : Value} (hL : L[site]? = some none) : prim ⟨G, L⟩ (.buildSlice site false 1 0 [z] []) [] = some (.own (.l site) 0 0 0 1 (some 0), ⟨G, L.set site (some (dBlk [] false false))⟩) := by
  simp only [px_buildSlice, Hp.mayFreeze, Bool.false_eq_true, if_false, Option.bind_some, List.replicate_zero, List.flatten_nil, fills, Nat.zero_mul, List.length_nil, if_true, Hp.new, hL, Option.map_some]
  rfl
theorem append_cap0 {G L} {site j bytes k : Nat} {x : AV} {new : List AV} (hL : L[j]? = some (some (dBlk [] false false))) (hs : L[site]? = some none) (hv : View ⟨G, L⟩ x 1 k new) (hd : AV.lf.lfs new = true) (h0 : 0 < k) (hr : k * bytes ≤ room) :
    prim ⟨G, L⟩ (.append site false 1 bytes) [.own (.l j) 0 0 0 1 (some 0), x] = some (.own (.l site) k 0 k 1 none, ⟨G, L.set site (some (dBlk new true false))⟩) := by
  simp only [prim, hv.source, Option.bind_some, Hp.mayFreeze, Bool.false_eq_true, if_false, Hp.append, hv.hclen, if_true, Hp.get, hL, Option.join_some, dBlk_cells, Nat.zero_add]
  refine (if_pos ⟨rfl, trivial, hr, rfl⟩).trans ?_
  rw [if_neg (by omega), if_neg (by omega)]
  simp only [Hp.new, hs, Option.map_some, dBlk, hd, Nat.zero_mul, List.take_zero, List.drop_zero, List.nil_append, Bool.and_self, Nat.mul_one]
theorem Clone_specN {nm} (hf : prog nm = some f_bytes_Clone) {G a} {bs : List UInt8} {nb : Bool} (w : ∀ L, View ⟨G, L⟩ a 1 bs.length (bs.map byteAV)) (hn : ∀ L, (⟨G, L⟩ : Hp).isNil .slice a = some nb) (hb : nb = true → bs = []) (hr : bs.length ≤ room) :
    ∃ r Bs, Ev prog (.call nm [a] G) (.ret r (G ++ Bs)) ∧ RetSlice G r Bs 1 bs.length (bs.map byteAV) := by
  cases nb with
  | true =>
    have := hb rfl
    subst this
    refine ⟨_, _, call_of_fin hf ?_, retSlice_nil (by omega)⟩
    simp only [f_bytes_Clone_B, enter, List.length_cons, List.length_nil, List.replicate, Nat.reduceAdd, Nat.reduceSub, List.cons_append, List.nil_append]
    simp (disch := first | (simp only [DS, reduceCtorEq]; done) | omega) only [WS, St.guard, St.put, evalO, reduceCtorEq, reduceIte, Nat.reduceAdd, Nat.reduceEqDiff, isNilV, hn, fin_tmp, leave_v, List.append_nil]
    simp
  | false =>
    by_cases h0 : bs.length = 0
    · have : bs = [] := List.eq_nil_of_length_eq_zero h0
      subst this
      refine ⟨_, _, call_of_fin hf ?_, retSlice_own (cs := []) (o := false) (v := false) (n := 0) (off := 0) (len := 0) (cap := some 0) rfl rfl rfl (by omega) (Nat.le_refl _)⟩
      simp only [f_bytes_Clone_B, enter, List.length_cons, List.length_nil, List.replicate, Nat.reduceAdd, Nat.reduceSub, List.cons_append, List.nil_append]
      simp (disch := first | (simp only [DS, reduceCtorEq]; done) | omega) only [WS, St.guard, St.put, evalO, reduceCtorEq, reduceIte, Nat.reduceAdd, Nat.reduceEqDiff, isNilV, hn]
      rw [build0 rfl]
      simp (disch := first | (simp only [DS, reduceCtorEq]; done) | omega) only [WS, St.guard, St.put, evalO, reduceCtorEq, reduceIte, Nat.reduceAdd, Nat.reduceEqDiff]
      have ap : prim ⟨G, [some (dBlk [] false false), none]⟩ (.append 1 false 1 1) [.own (.l 0) 0 0 0 1 (some 0), a] = some (.own (.l 0) 0 0 0 1 (some 0), ⟨G, [some (dBlk [] false false), none]⟩) := by
        simp only [prim, (w _).source, Option.bind_some, Hp.mayFreeze, Bool.false_eq_true, if_false, Hp.append, List.map_nil, List.length_nil, Nat.zero_mul, if_true, Hp.get, List.getElem?_cons_zero, Option.join_some]
        exact if_pos ⟨rfl, trivial, by unfold room; omega, rfl⟩
      rw [ap]
      simp (disch := first | (simp only [DS, reduceCtorEq]; done) | omega) only [WS, St.guard, St.put, evalO, reduceCtorEq, reduceIte, Nat.reduceAdd, Nat.reduceEqDiff, fin_tmp]
      exact ⟨by simp, leave_own1 (j := 0) rfl rfl⟩
    · refine ⟨_, _, call_of_fin hf ?_, retSlice_own (cs := bs.map byteAV) (o := true) (v := false) (n := bs.length) (off := 0) (len := bs.length) (cap := none) (by simp) (List.take_of_length_le (by simp)).symm (by simp) (by omega) trivial⟩
      simp only [f_bytes_Clone_B, enter, List.length_cons, List.length_nil, List.replicate, Nat.reduceAdd, Nat.reduceSub, List.cons_append, List.nil_append]
      simp (disch := first | (simp only [DS, reduceCtorEq]; done) | omega) only [WS, St.guard, St.put, evalO, reduceCtorEq, reduceIte, Nat.reduceAdd, Nat.reduceEqDiff, isNilV, hn]
      rw [build0 rfl]
      simp (disch := first | (simp only [DS, reduceCtorEq]; done) | omega) only [WS, St.guard, St.put, evalO, reduceCtorEq, reduceIte, Nat.reduceAdd, Nat.reduceEqDiff]
      rw [append_cap0 (j := 0) (site := 1) rfl rfl (w _) bytes_lfs (by omega) (by omega)]
      simp (disch := first | (simp only [DS, reduceCtorEq]; done) | omega) only [WS, St.guard, St.put, evalO, reduceCtorEq, reduceIte, Nat.reduceAdd, Nat.reduceEqDiff, fin_tmp]
      exact ⟨by simp, leave_own1 (j := 1) rfl rfl⟩
theorem Clone_spec (hf : prog "bytes.Clone" = some f_bytes_Clone) {G a} {bs : List UInt8} {nb : Bool} (w : ∀ L, View ⟨G, L⟩ a 1 bs.length (bs.map byteAV)) (hn : ∀ L, (⟨G, L⟩ : Hp).isNil .slice a = some nb) (hb : nb = true → bs = []) (hr : bs.length ≤ room) :
    ∃ r Bs, Ev prog (.call "bytes.Clone" [a] G) (.ret r (G ++ Bs)) ∧ RetSlice G r Bs 1 bs.length (bs.map byteAV) := Clone_specN hf w hn hb hr
def takeD (bs : List UInt8) : LeafD := ⟨get4 bs 0, get4 bs 4, bs.getD 8 0 &&& 1 == 1, bs.getD 8 0 &&& 2 == 2, (bs.drop 10).take (min (bs.getD 9 0).toNat 46)⟩
def takeOK (bs : List UInt8) : Bool := (takeD bs).right && decide ((takeD bs).bytes = bs)
def takeX (bs : List UInt8) : LeafD := if takeOK bs then takeD bs else ⟨0#32, 0#32, false, false, []⟩
theorem cellsEq_bytes : ∀ (xs ys : List UInt8), xs.length = ys.length → cellsEq (List.replicate xs.length .int) (xs.map byteAV) (ys.map byteAV) = some (decide (xs = ys))
  | [], [], _ => rfl
  | [], _ :: _, h => by simp at h
  | _ :: _, [], h => by simp at h
  | x :: xs, y :: ys, h => by
    simp only [List.length_cons, List.replicate_succ, List.map_cons, cellsEq, cellsEq_bytes xs ys (by simpa using h)]
    have : cellEq .int (byteAV x) (byteAV y) = some (decide (x = y)) := by
      simp only [cellEq, byteAV, if_true, Option.some.injEq]
      rw [Bool.eq_iff_iff, beq_iff_eq, decide_eq_true_eq]
      exact ⟨fun h => UInt8.toNat_inj.1 (by omega), fun h => by rw [h]⟩
    rw [this]
    simp only [Option.some.injEq]
    rw [Bool.eq_iff_iff]; simp
theorem eq64 {h neg} {xs ys : List UInt8} (hx : xs.length = 64) (hy : ys.length = 64) : prim h (.eq neg ints64) [.agg (xs.map byteAV), .agg (ys.map byteAV)] = some (.v (.bool (decide (xs = ys) != neg)), h) := by
  rw [px_eq, show ints64 = List.replicate xs.length .int by rw [hx]; rfl, cellsEq_bytes xs ys (by omega)]; rfl
def maxU (a b : BitVec 32) : BitVec 32 := if b.toNat > a.toNat then b else a
theorem max_u32 {h} {a b : BitVec 32} : prim h .max [.v (u32 a), .v (u32 b)] = some (.v (u32 (maxU a b)), h) := by
  simp only [u32, px_max, maxs, Option.map_some, maxU]
  split
  · rw [if_pos (by omega)]
  · rw [if_neg (by omega)]
theorem Mark_spec (hf : prog "haberdash/leaf.Mark" = some f_leaf_Mark) (hg : prog "haberdash/leaf.get" = some f_leaf_get) {G} {bs : List UInt8} (hl : bs.length = 64) :
    Ev prog (.call "haberdash/leaf.Mark" [.agg (bs.map byteAV)] G) (.ret (.v (u32 (maxU (get4 bs 0) (get4 bs 60)))) G) := by
  refine call_of_fin hf ?_
  have lbm : (bs.map byteAV).length = 64 := by simp [hl]
  simp only [f_leaf_Mark_B, enter, List.length_cons, List.length_nil, List.replicate, Nat.reduceAdd, Nat.reduceSub, List.cons_append, List.nil_append]
  simp (disch := first | (simp only [DS, reduceCtorEq]; done) | omega) only [WS, St.guard, St.put, evalO, reduceCtorEq, reduceIte, Nat.reduceAdd, Nat.reduceEqDiff]
  rw [box_bytes rfl]
  simp (disch := first | (simp only [DS, reduceCtorEq]; done) | omega) only [WS, St.guard, St.put, evalO, reduceCtorEq, reduceIte, Nat.reduceAdd, Nat.reduceEqDiff, hl, px_load_l, List.getElem?_cons_zero, Option.join_some, loadB_all lbm]
  refine WDP_r (r := .v (u32 (get4 bs 0))) (fun X _ => by rw [List.map_cons, ren_bytes]; exact get_spec hg hl 0 (by omega)) rfl ⟨dBlk_good, trivial⟩ ?_
  simp (disch := first | (simp only [DS, reduceCtorEq]; done) | omega) only [WS, St.guard, St.put, evalO, reduceCtorEq, reduceIte, Nat.reduceAdd, Nat.reduceEqDiff, hl, px_load_l, List.getElem?_cons_zero, Option.join_some, loadB_all lbm]
  refine WDP_r (r := .v (u32 (get4 bs 60))) (fun X _ => by rw [List.map_cons, ren_bytes]; exact get_spec hg hl 60 (by omega)) rfl ⟨dBlk_good, trivial⟩ ?_
  simp (disch := first | (simp only [DS, reduceCtorEq]; done) | omega) only [WS, St.guard, St.put, evalO, reduceCtorEq, reduceIte, Nat.reduceAdd, Nat.reduceEqDiff, max_u32, fin_tmp, leave_v]
  simp
theorem RefMark_spec (hf : prog "haberdash/haberdashref04.Mark" = some f_ref04_Mark) (hg : prog "haberdash/haberdashref04.four" = some f_ref04_four) {G} {bs : List UInt8} (hl : bs.length = 64) :
    Ev prog (.call "haberdash/haberdashref04.Mark" [.agg (bs.map byteAV)] G) (.ret (.v (u32 (maxU (get4 bs 0) (get4 bs 60)))) G) := by
  refine call_of_fin hf ?_
  have lbm : (bs.map byteAV).length = 64 := by simp [hl]
  have pv : View ⟨G, [some (dBlk (bs.map byteAV) false false)]⟩ (.own (.l 0) 64 0 64 1 (some 64)) 1 64 (bs.map byteAV) := own_view1 (j := 0) rfl lbm (by simp)
  simp only [f_ref04_Mark_B, enter, List.length_cons, List.length_nil, List.replicate, Nat.reduceAdd, Nat.reduceSub, List.cons_append, List.nil_append]
  simp (disch := first | (simp only [DS, reduceCtorEq]; done) | omega) only [WS, St.guard, St.put, evalO, reduceCtorEq, reduceIte, Nat.reduceAdd, Nat.reduceEqDiff]
  rw [box_bytes rfl]
  simp (disch := first | (simp only [DS, reduceCtorEq]; done) | omega) only [WS, St.guard, St.put, evalO, reduceCtorEq, reduceIte, Nat.reduceAdd, Nat.reduceEqDiff, hl, slAll]
  refine WDP_r (r := .v (u32 (get4 bs 0))) (fun X _ => by exact four_spec hg (pv.into bytes_lfs) hl 0 (by omega)) rfl ⟨dBlk_good, trivial⟩ ?_
  simp (disch := first | (simp only [DS, reduceCtorEq]; done) | omega) only [WS, St.guard, St.put, evalO, reduceCtorEq, reduceIte, Nat.reduceAdd, Nat.reduceEqDiff, hl, slAll]
  refine WDP_r (r := .v (u32 (get4 bs 60))) (fun X _ => by exact four_spec hg (pv.into bytes_lfs) hl 60 (by omega)) rfl ⟨dBlk_good, trivial⟩ ?_
  simp (disch := first | (simp only [DS, reduceCtorEq]; done) | omega) only [WS, St.guard, St.put, evalO, reduceCtorEq, reduceIte, Nat.reduceAdd, Nat.reduceEqDiff, max_u32, fin_tmp, leave_v]
  simp
end Go.AM
namespace Go.AM
variable {prog : String → Option IFn}
structure TakeLib (prog : String → Option IFn) : Prop extends LeafLib prog where
  clone : prog "bytes.Clone" = some f_bytes_Clone
  take : prog "haberdash/leaf.Take" = some f_leaf_Take
  rtake : prog "haberdash/haberdashref04.Take" = some f_ref04_Take
theorem conv_u8_i64L {b : UInt8} {h : Hp} : prim h (.convInt .i64) [.v (u8 b)] = some (.v (.int .i64 (b.toNat : Int)), h) := by
  have := b.toNat_lt
  rw [u8, px_convInt, wrap_i64_nat (by omega)]
theorem min_46 {n : Nat} : mins .i64 (n : Int) [.v (.int .i64 46)] = some ((min n 46 : Nat) : Int) := by
  simp only [mins, Option.some.injEq]; omega
theorem sl10j {h ℓ} {j : Nat} (h1 : 10 ≤ j) (h2 : j ≤ 64) : prim h (.sliceArr 64 1 true true false) [.ptr ℓ 64 0, .v (.int .i64 10), .v (.int .i64 (j : Nat))] = some (.own ℓ 64 10 (j - 10) 1 (some 54), h) := sliceArr_lohi (i := 10) h1 h2 (by omega)
abbrev noLeaf : List AV := [.v (u32 0#32), .v (u32 0#32), .v (.bool false), .v (.bool false), .v (.slice none 0 0)]
theorem Take_spec (H : TakeLib prog) {G} {bs : List UInt8} (hl : bs.length = 64) :
    ∃ r Bs, Ev prog (.call "haberdash/leaf.Take" [.agg (bs.map byteAV)] G) (.ret (.tup [.agg ((takeX bs).cells r), .v (.bool (takeOK bs))]) (G ++ Bs)) ∧ RetSlice G r Bs 1 (takeX bs).d.length ((takeX bs).d.map byteAV) := by
  obtain ⟨x, hx⟩ : ∃ x, x = takeD bs := ⟨_, rfl⟩
  obtain ⟨m, hm⟩ : ∃ m, m = min (bs.getD 9 0).toNat 46 := ⟨_, rfl⟩
  have hm46 : m ≤ 46 := by omega
  have hxd : x.d = (bs.drop 10).take m := by rw [hx, hm]; rfl
  have hxl : x.d.length = m := by rw [hxd, List.length_take, List.length_drop]; omega
  have lbm : (bs.map byteAV).length = 64 := by simp [hl]
  have lz : zs64.length = 64 := zs64_len
  have hrd : takeOK bs = (x.right && decide (x.bytes = bs)) := by rw [hx]; rfl
  have hX : takeX bs = if takeOK bs then x else ⟨0#32, 0#32, false, false, []⟩ := by rw [hx]; rfl
  have hcells : ∀ a, x.cells a = [.v (u32 (get4 bs 0)), .v (u32 (get4 bs 4)), .v (.bool (bs.getD 8 0 &&& 1 == 1)), .v (.bool (bs.getD 8 0 &&& 2 == 2)), a] := by intro a; rw [hx]; rfl
  obtain ⟨r, G2, he, a, Bs, rfl, rfl, hr⟩ := call_ex (prog := prog) (P := fun r G2 => ∃ a Bs, r = .tup [.agg ((takeX bs).cells a), .v (.bool (takeOK bs))] ∧ G2 = G ++ Bs ∧ RetSlice G a Bs 1 (takeX bs).d.length ((takeX bs).d.map byteAV))
    H.take (args := [.agg (bs.map byteAV)]) (G := G) (by
    simp only [f_leaf_Take_B, enter, List.length_cons, List.length_nil, List.replicate, Nat.reduceAdd, Nat.reduceSub, List.cons_append, List.nil_append]
    simp (disch := first | (simp only [DS, reduceCtorEq]; done) | omega) only [WS, St.guard, St.put, evalO, reduceCtorEq, reduceIte, Nat.reduceAdd, Nat.reduceEqDiff]
    rw [box_bytes rfl]
    simp (disch := first | (simp only [DS, reduceCtorEq]; done) | omega) only [WS, St.guard, St.put, evalO, reduceCtorEq, reduceIte, Nat.reduceAdd, Nat.reduceEqDiff, hl, c0]
    rw [alloc_s rfl]
    simp (disch := first | (simp only [DS, reduceCtorEq]; done) | omega) only [WS, St.guard, St.put, evalO, reduceCtorEq, reduceIte, Nat.reduceAdd, Nat.reduceEqDiff]
    have hg0 : ∀ d, Good ⟨G, [some (dBlk (bs.map byteAV) false false), none, some (sBlk noLeaf d), none, none]⟩ := fun d => ⟨dBlk_good, sBlk_good rfl, trivial⟩
    have ld : ∀ (L : List (Option Blk)), prim ⟨G, some (dBlk (bs.map byteAV) false false) :: L⟩ (.load 64 true) [.ptr (.l 0) 64 0] = some (.agg (bs.map byteAV), ⟨G, some (dBlk (bs.map byteAV) false false) :: L⟩) := fun L => by
      simp only [px_load_l, List.getElem?_cons_zero, Option.join_some, loadB_all lbm]
    have ld1 : ∀ (L : List (Option Blk)) (i : Nat), i < 64 → prim ⟨G, some (dBlk (bs.map byteAV) false false) :: L⟩ (.load 1 false) [.ptr (.l 0) 64 i] = some (.v (u8 (bs.getD i 0)), ⟨G, some (dBlk (bs.map byteAV) false false) :: L⟩) := fun L i hi => by
      simp only [px_load_l, List.getElem?_cons_zero, Option.join_some, loadB_byte hl hi]; rfl
    rw [WDP_loadU (by simp) (by exact hg0 _), ld]
    simp (disch := first | (simp only [DS, reduceCtorEq]; done) | omega) only [WS, St.guard, St.put, evalO, reduceCtorEq, reduceIte, Nat.reduceAdd, Nat.reduceEqDiff]
    refine WDP_r (r := .v (u32 (get4 bs 0))) (fun X _ => by rw [List.map_cons, ren_bytes]; exact get_spec H.get hl 0 (by omega)) rfl (hg0 _) ?_
    simp (disch := first | (simp only [DS, reduceCtorEq]; done) | omega) only [WS, St.guard, St.put, evalO, reduceCtorEq, reduceIte, Nat.reduceAdd, Nat.reduceEqDiff]
    rw [WDP_loadU (by simp) (by exact hg0 _), ld]
    simp (disch := first | (simp only [DS, reduceCtorEq]; done) | omega) only [WS, St.guard, St.put, evalO, reduceCtorEq, reduceIte, Nat.reduceAdd, Nat.reduceEqDiff]
    refine WDP_r (r := .v (u32 (get4 bs 4))) (fun X _ => by rw [List.map_cons, ren_bytes]; exact get_spec H.get hl 4 (by omega)) rfl (hg0 _) ?_
    simp (disch := first | (simp only [DS, reduceCtorEq]; done) | omega) only [WS, St.guard, St.put, evalO, reduceCtorEq, reduceIte, Nat.reduceAdd, Nat.reduceEqDiff, px_indexArr, natOf_int, Int.reduceLE, Int.reduceToNat, Option.bind_some, Nat.reduceLT, Nat.reduceMul, Nat.reduceAdd, Nat.zero_add, Nat.mul_one, Nat.reduceLeDiff, and_self, and_true]
    rw [WDP_loadU (by simp) (by exact hg0 _), ld1 _ 8 (by omega)]
    simp (disch := first | (simp only [DS, reduceCtorEq]; done) | omega) only [WS, St.guard, St.put, evalO, reduceCtorEq, reduceIte, Nat.reduceAdd, Nat.reduceEqDiff, px_indexArr, natOf_int, Int.reduceLE, Int.reduceToNat, Option.bind_some, Nat.reduceLT, Nat.reduceMul, Nat.reduceAdd, Nat.zero_add, Nat.mul_one, Nat.reduceLeDiff, and_self, and_true, k1, k2]
    rw [WDP_loadU (by simp) (by exact hg0 _), ld1 _ 8 (by omega)]
    simp (disch := first | (simp only [DS, reduceCtorEq]; done) | omega) only [WS, St.guard, St.put, evalO, reduceCtorEq, reduceIte, Nat.reduceAdd, Nat.reduceEqDiff, px_indexArr, natOf_int, Int.reduceLE, Int.reduceToNat, Option.bind_some, Nat.reduceLT, Nat.reduceMul, Nat.reduceAdd, Nat.zero_add, Nat.mul_one, Nat.reduceLeDiff, and_self, and_true, k1, k2]
    refine (WDR_eq (.agg (x.cells (.v (.slice none 0 0)))) (by rw [hcells]; rfl)).2 ?_
    simp (disch := first | (simp only [DS, reduceCtorEq]; done) | omega) only [WS, St.guard, St.put, evalO, reduceCtorEq, reduceIte, Nat.reduceAdd, Nat.reduceEqDiff]
    refine WDP_turn (alloc_s rfl) (by exact rfl) (by exact rfl) (by exact rfl) ?_
    simp (disch := first | (simp only [DS, reduceCtorEq]; done) | omega) only [WS, St.guard, St.put, evalO, reduceCtorEq, reduceIte, Nat.reduceAdd, Nat.reduceEqDiff]
    refine WDP_turn (store_s (j := 3) rfl rfl rfl rfl (by exact Nat.le_refl 5)) (by exact rfl) (by exact rfl) (by exact rfl) ?_
    rw [show lay [AV.v (u32 0#32), .v (u32 0#32), .v (.bool false), .v (.bool false), .v (.slice none 0 0)] 0 (x.cells (.v (.slice none 0 0))) = x.cells (.v (.slice none 0 0)) from rfl]
    simp (disch := first | (simp only [DS, reduceCtorEq]; done) | omega) only [WS, St.guard, St.put, evalO, reduceCtorEq, reduceIte, Nat.reduceAdd, Nat.reduceEqDiff, px_indexArr, natOf_int, Int.reduceLE, Int.reduceToNat, Option.bind_some, Nat.reduceLT, Nat.reduceMul, Nat.reduceAdd, Nat.zero_add, Nat.mul_one, Nat.reduceLeDiff, and_self, and_true, px_load_l, List.getElem?_cons_zero, Option.join_some, loadB_byte hl, byteAV_u8, conv_u8_i64L, min_46, ← hm, vBin_add_i64]
    have e10 : (10 : Int) + (m : Int) = ((10 + m : Nat) : Int) := by omega
    rw [e10, sl10j (by omega) (by omega), Nat.add_sub_cancel_left]
    simp (disch := first | (simp only [DS, reduceCtorEq]; done) | omega) only [WS, St.guard, St.put, evalO, reduceCtorEq, reduceIte, Nat.reduceAdd, Nat.reduceEqDiff]
    obtain ⟨d3, hd3⟩ : ∃ d, d = AV.lf.lfs (x.cells (.v (.slice none 0 0))) := ⟨_, rfl⟩
    rw [← hd3]
    have hg1 : ∀ d d', Good ⟨G, [some (dBlk (bs.map byteAV) false false), none, some (sBlk noLeaf d), some (sBlk (x.cells (.v (.slice none 0 0))) d'), none]⟩ := fun d d' => ⟨dBlk_good, sBlk_good rfl, sBlk_good (leaf_labs out_v), trivial⟩
    have pv : View ⟨G, [some (dBlk (bs.map byteAV) false false), none, some (sBlk noLeaf true), some (sBlk (x.cells (.v (.slice none 0 0))) d3), none]⟩ (.own (.l 0) 64 10 m 1 (some 54)) 1 x.d.length (x.d.map byteAV) := by
      rw [hxl, hxd]; exact piece_view rfl hl (by omega) (by simp; omega)
    refine WP_slice (esz := 1) (len := x.d.length) (cells := x.d.map byteAV) (fun a => a) (fun _ _ => rfl)
      (by exact Clone_spec H.clone (nb := false) (pv.into bytes_lfs) (fun L => isNil_own (get_into_data (j := 0) (b := dBlk (bs.map byteAV) false false) rfl rfl) lbm) (by simp) (by unfold room; omega)) (by exact hg1 _ _) rfl fun a B hat => ?_
    simp (disch := first | (simp only [DS, reduceCtorEq]; done) | omega) only [WS, St.guard, St.put, evalO, reduceCtorEq, reduceIte, Nat.reduceAdd, Nat.reduceEqDiff, px_load_l, loadB_s, List.getElem?_cons_zero, List.getElem?_cons_succ, Option.join_some, List.drop_zero, List.drop_succ_cons, List.take_succ_cons, List.take_zero, whole, List.length_cons, List.length_nil, Nat.reduceAdd, Nat.reduceLeDiff, Nat.zero_add, and_self, and_true]
    have va := hat.view (G := G) (L := [some (dBlk (bs.map byteAV) false false), B, some (sBlk noLeaf true), some (sBlk (x.cells (.v (.slice none 0 0))) d3), none]) rfl
    rw [store_s (j := 3) (n := 5) (off := 4) (sz := 1) rfl va.cellsOf rfl rfl (by omega), show lay (x.cells (.v (.slice none 0 0))) 4 [a] = x.cells a from rfl]
    simp (disch := first | (simp only [DS, reduceCtorEq]; done) | omega) only [WS, St.guard, St.put, evalO, reduceCtorEq, reduceIte, Nat.reduceAdd, Nat.reduceEqDiff]
    generalize (d3 && AV.lf.lfs [a]) = d4
    have hlab : ∀ g k, 1 < k → (AV.labs.labss (x.cells a)).all (refLt g k) = true := fun g k hk => by
      have := hat.ref (g := g) hk
      simpa [LeafD.cells, AV.labs.labss, AV.labs] using this
    have hg2 : ∀ (C : Option Blk) , (∀ b, C = some b → b.labs = []) → Good ⟨G, [some (dBlk (bs.map byteAV) false false), B, some (sBlk noLeaf true), some (sBlk (x.cells a) d4), C]⟩ := fun C hC =>
      ⟨dBlk_good, goodL_opt (fun b hb => hat.good hb) ⟨sBlk_good rfl, sBlk_good (hlab _ _ (by omega)), goodL_opt (fun b hb => by rw [hC b hb]; rfl) trivial⟩⟩
    have ldx : ∀ (L : List (Option Blk)) b1 b2 b3, prim ⟨G, b1 :: b2 :: b3 :: some (sBlk (x.cells a) d4) :: L⟩ (.load 5 true) [.ptr (.l 3) 5 0] = some (.agg (x.cells a), ⟨G, b1 :: b2 :: b3 :: some (sBlk (x.cells a) d4) :: L⟩) := fun L b1 b2 b3 => rfl
    have va2 : View ⟨G, [some (dBlk (bs.map byteAV) false false), B, some (sBlk noLeaf true), some (sBlk (x.cells a) d4), none]⟩ a 1 x.d.length (x.d.map byteAV) := hat.view rfl
    simp (disch := first | (simp only [DS, reduceCtorEq]; done) | omega) only [WS, St.guard, St.put, evalO, reduceCtorEq, reduceIte, Nat.reduceAdd, Nat.reduceEqDiff, ldx]
    rw [WP_r (r := x.laid) (by exact Lay_spec H.toLeafLib (va2.into bytes_lfs)) laid_lf (hg2 none (by simp))]
    simp (disch := first | (simp only [DS, reduceCtorEq]; done) | omega) only [WS, St.guard, St.put, evalO, reduceCtorEq, reduceIte, Nat.reduceAdd, Nat.reduceEqDiff]
    have hld : ∀ L, prim ⟨G, L⟩ (.extract 0) [x.laid] = some (.agg ((if x.right then x.bytes else zs64).map byteAV), ⟨G, L⟩) := fun L => by unfold LeafD.laid; split <;> rfl
    have hle : ∀ L, prim ⟨G, L⟩ (.extract 1) [x.laid] = some (.v (.int .i64 (if x.right then 0 else 2)), ⟨G, L⟩) := fun L => by unfold LeafD.laid; split <;> rfl
    have lfl : ∀ a : LeafD, a.right = true → a.bytes.length = 64 := fun a ha => bytes_len (right_len ha).2
    obtain ⟨y, hy⟩ : ∃ y, y = if x.right then x.bytes else zs64 := ⟨_, rfl⟩
    have lyl : y.length = 64 := by rw [hy]; split; exact lfl x (by assumption); exact zs64_len
    have lym : (y.map byteAV).length = 64 := by simp [lyl]
    rw [← hy] at hld
    rw [hld]
    simp (disch := first | (simp only [DS, reduceCtorEq]; done) | omega) only [WS, St.guard, St.put, evalO, reduceCtorEq, reduceIte, Nat.reduceAdd, Nat.reduceEqDiff, hle]
    rw [alloc_zeros rfl]
    simp (disch := first | (simp only [DS, reduceCtorEq]; done) | omega) only [WS, St.guard, St.put, evalO, reduceCtorEq, reduceIte, Nat.reduceAdd, Nat.reduceEqDiff]
    rw [store_all (j := 4) rfl (by simp [zs64_len]) lym bytes_lfs]
    have zz : ∀ (v4 : List AV) e, prim ⟨G, [some (dBlk (bs.map byteAV) false false), B, some (sBlk noLeaf true), some (sBlk (x.cells a) d4), e]⟩ (.store 5 false) [.ptr (.l 2) 5 0, .agg noLeaf] = some (.v undef, ⟨G, [some (dBlk (bs.map byteAV) false false), B, some (sBlk noLeaf true), some (sBlk (x.cells a) d4), e]⟩) := fun _ _ => rfl
    have yy : ∀ e, prim ⟨G, [some (dBlk (bs.map byteAV) false false), B, some (sBlk noLeaf true), some (sBlk (x.cells a) d4), e]⟩ (.store 5 false) [.ptr (.l 2) 5 0, .agg (x.cells a)] = some (.v undef, ⟨G, [some (dBlk (bs.map byteAV) false false), B, some (sBlk (x.cells a) (true && AV.lf.lfs (x.cells a))), some (sBlk (x.cells a) d4), e]⟩) := fun e => by
      rw [store_s (j := 2) (n := 5) (off := 0) (sz := 5) (xs := x.cells a) rfl rfl rfl rfl (by omega)]; rfl
    have bz : ∀ h, prim h (.build [u32 0#32, u32 0#32, .bool false, .bool false, .slice none 0 0] []) [] = some (.agg noLeaf, h) := fun h => rfl
    cases hR : x.right with
    | false =>
      rw [hR, Bool.false_and] at hrd
      rw [hrd] at hX
      simp (disch := first | (simp only [DS, reduceCtorEq]; done) | omega) only [WS, St.guard, St.put, evalO, reduceCtorEq, reduceIte, Nat.reduceAdd, Nat.reduceEqDiff, hR, Bool.false_eq_true, show ((2 : Int) != 0) = true from rfl, c0, bz]
      rw [zz []]
      simp (disch := first | (simp only [DS, reduceCtorEq]; done) | omega) only [WS, St.guard, St.put, evalO, reduceCtorEq, reduceIte, Nat.reduceAdd, Nat.reduceEqDiff]
      refine ⟨by simp, .tup [.agg noLeaf, .v (.bool false)], G, ?_, .v (.slice none 0 0), [], by rw [hX, hrd]; rfl, by simp, by rw [hX]; exact retSlice_nil (by omega)⟩
      exact leave_lf (r := .tup [.agg noLeaf, .v (.bool false)]) rfl
    | true =>
      rw [hR, if_pos rfl] at hy
      have hys : decide (x.bytes = bs) = takeOK bs := by rw [hrd, hR, Bool.true_and]
      simp (disch := first | (simp only [DS, reduceCtorEq]; done) | omega) only [WS, St.guard, St.put, evalO, reduceCtorEq, reduceIte, Nat.reduceAdd, Nat.reduceEqDiff, hR, show ((0 : Int) != 0) = false from rfl, px_load_l, List.getElem?_cons_zero, List.getElem?_cons_succ, Option.join_some, loadB_all lym, loadB_all lbm, eq64 lyl hl]
      rw [show decide (y = bs) = takeOK bs by rw [hy, hys]]
      cases hok : takeOK bs with
      | false =>
        rw [hok] at hX
        simp (disch := first | (simp only [DS, reduceCtorEq]; done) | omega) only [WS, St.guard, St.put, evalO, reduceCtorEq, reduceIte, Nat.reduceAdd, Nat.reduceEqDiff, c0, bz]
        rw [zz []]
        simp (disch := first | (simp only [DS, reduceCtorEq]; done) | omega) only [WS, St.guard, St.put, evalO, reduceCtorEq, reduceIte, Nat.reduceAdd, Nat.reduceEqDiff]
        refine ⟨by simp, .tup [.agg noLeaf, .v (.bool false)], G, ?_, .v (.slice none 0 0), [], by rw [hX]; rfl, by simp, by rw [hX]; exact retSlice_nil (by omega)⟩
        exact leave_lf (r := .tup [.agg noLeaf, .v (.bool false)]) rfl
      | true =>
        rw [hok, if_pos rfl] at hX
        simp (disch := first | (simp only [DS, reduceCtorEq]; done) | omega) only [WS, St.guard, St.put, evalO, reduceCtorEq, reduceIte, Nat.reduceAdd, Nat.reduceEqDiff, ldx, yy]
        obtain ⟨r, Bs, hlv, hret⟩ := leave_at (h := ⟨G, [some (dBlk (bs.map byteAV) false false), B, some (sBlk (x.cells a) (true && AV.lf.lfs (x.cells a))), some (sBlk (x.cells a) d4), some (dBlk (y.map byteAV) false false)]⟩) hat rfl
          (fun a => .tup [.agg (x.cells a), .v (.bool true)]) (fun _ _ => rfl) (fun a => by simp [LeafD.cells, AV.labs, AV.labs.labss]) (fun a ha => by simp [LeafD.cells, AV.lf, AV.lf.lfs, ha])
        refine ⟨by simp, _, _, hlv, r, Bs, by rw [hX], rfl, by rw [hX]; exact hret⟩)
  exact ⟨a, Bs, he, hr⟩
end Go.AM
namespace Go.AM
variable {prog : String → Option IFn}
def be4 (v : BitVec 32) : List UInt8 := [UInt8.ofNat (v >>> 24).toNat, UInt8.ofNat (v >>> 16).toNat, UInt8.ofNat (v >>> 8).toNat, UInt8.ofNat (v >>> 0).toNat]
theorem be4_len {v} : (be4 v).length = 4 := rfl
theorem put4_at (A C : List UInt8) (a b c d : UInt8) (v : BitVec 32) (n : Nat) (hn : n = A.length) : put4 (A ++ (a :: b :: c :: d :: C)) n v = A ++ (be4 v ++ C) := by
  subst hn
  have s (i : Nat) (l : List UInt8) (x : UInt8) : (A ++ l).set (A.length + i) x = A ++ l.set i x := by
    rw [List.set_append_right _ _ (by omega), Nat.add_sub_cancel_left]
  simp only [put4, putN, s]
  rfl
def LeafD.front (x : LeafD) : List UInt8 := be4 x.e ++ (be4 x.n ++ ([x.flags, UInt8.ofNat x.d.length] ++ (x.d ++ List.replicate (46 - x.d.length) 0)))
theorem front_len {x : LeafD} (h : x.d.length ≤ 46) : x.front.length = 56 := by simp [LeafD.front, be4_len]; omega
theorem body_eq {x : LeafD} (h : x.d.length ≤ 46) : x.body = x.front ++ [0, 0, 0, 0, 0, 0, 0, 0] := by
  have e0 : zs64 = [] ++ ((0 : UInt8) :: 0 :: 0 :: 0 :: List.replicate 60 0) := by decide
  have e1 : (be4 x.e ++ List.replicate 60 (0 : UInt8)) = be4 x.e ++ (0 :: 0 :: 0 :: 0 :: List.replicate 56 0) := by congr 1
  unfold LeafD.body
  rw [e0, put4_at [] _ _ _ _ _ _ 0 rfl, List.nil_append, e1, put4_at (be4 x.e) _ _ _ _ _ _ 4 rfl]
  have e2 : ((be4 x.e ++ (be4 x.n ++ List.replicate 56 (0 : UInt8))).set 8 x.flags).set 9 (UInt8.ofNat x.d.length) = (be4 x.e ++ (be4 x.n ++ [x.flags, UInt8.ofNat x.d.length])) ++ List.replicate 54 0 := rfl
  rw [e2]
  unfold blit
  have l10 : (be4 x.e ++ (be4 x.n ++ [x.flags, UInt8.ofNat x.d.length])).length = 10 := rfl
  rw [List.take_append_of_le_length (by rw [l10]; exact Nat.le_refl _), List.take_of_length_le (by rw [l10]; exact Nat.le_refl _), List.drop_append, List.drop_of_length_le (by rw [l10]; omega), List.nil_append, l10, Nat.add_sub_cancel_left, List.drop_replicate]
  have e3 : List.replicate (54 - x.d.length) (0 : UInt8) = List.replicate (46 - x.d.length) 0 ++ [0, 0, 0, 0, 0, 0, 0, 0] := by
    rw [show ([0, 0, 0, 0, 0, 0, 0, 0] : List UInt8) = List.replicate 8 0 from rfl, List.replicate_append_replicate]; congr 1; omega
  rw [e3]
  simp [LeafD.front, List.append_assoc]
def LeafD.sum (x : LeafD) : BitVec 32 := crcMore 0#32 x.front
theorem bytes_eq {x : LeafD} (h : x.d.length ≤ 46) : x.bytes = x.front ++ (be4 x.sum ++ be4 x.e) := by
  have l := front_len h
  have et : x.body.take 56 = x.front := by rw [body_eq h, List.take_append_of_le_length (by omega), List.take_of_length_le (by omega)]
  unfold LeafD.bytes
  rw [et, body_eq h, put4_at x.front [0, 0, 0, 0] _ _ _ _ _ 56 (by omega), ← List.append_assoc]
  have := put4_at (x.front ++ be4 (crcMore 0#32 x.front)) [] 0 0 0 0 x.e 60 (by simp [l, be4_len])
  rw [List.append_nil] at this
  rw [this, List.append_assoc]; rfl
theorem shl_or (x : BitVec 32) {b : Nat} (hb : b < 256) : ((x <<< 8) ||| BitVec.ofNat 32 b).toNat = (x.toNat % 16777216) * 256 + b := by
  rw [BitVec.toNat_or, BitVec.toNat_shiftLeft, BitVec.toNat_ofNat]
  have e1 : x.toNat <<< 8 % 2 ^ 32 = (x.toNat % 16777216) <<< 8 := by rw [Nat.shiftLeft_eq, Nat.shiftLeft_eq]; omega
  have e2 : b % 2 ^ 32 = b := by omega
  rw [e1, e2, ← Nat.shiftLeft_add_eq_or_of_lt (by omega), Nat.shiftLeft_eq]
theorem get4_at (A C : List UInt8) (v : BitVec 32) (n : Nat) (hn : n = A.length) : get4 (A ++ (be4 v ++ C)) n = v := by
  subst hn
  have g (i : Nat) (hi : i < 4) : (A ++ (be4 v ++ C)).getD (A.length + i) 0 = (be4 v).getD i 0 := by
    rw [List.getD_eq_getElem?_getD, List.getElem?_append_right (by omega), Nat.add_sub_cancel_left, List.getElem?_append_left (by rw [be4_len]; exact hi), ← List.getD_eq_getElem?_getD]
  simp only [get4, getN, g 0 (by omega), g 1 (by omega), g 2 (by omega), g 3 (by omega)]
  have b (k : Nat) : (UInt8.ofNat (v >>> k).toNat).toNat = v.toNat / 2 ^ k % 256 := by
    rw [UInt8.toNat_ofNat', BitVec.toNat_ushiftRight, Nat.shiftRight_eq_div_pow]
  have lt (k : Nat) : (UInt8.ofNat (v >>> k).toNat).toNat < 256 := UInt8.toNat_lt _
  show (((((0#32 <<< 8) ||| BitVec.ofNat 32 (UInt8.ofNat (v >>> 24).toNat).toNat) <<< 8) ||| BitVec.ofNat 32 (UInt8.ofNat (v >>> 16).toNat).toNat) <<< 8 ||| BitVec.ofNat 32 (UInt8.ofNat (v >>> 8).toNat).toNat) <<< 8 ||| BitVec.ofNat 32 (UInt8.ofNat (v >>> 0).toNat).toNat = v
  apply BitVec.eq_of_toNat_eq
  rw [shl_or _ (lt _), shl_or _ (lt _), shl_or _ (lt _), shl_or _ (lt _), b, b, b, b]
  have := v.isLt
  rw [show (0#32 : BitVec 32).toNat = 0 from rfl]
  omega
theorem flags_bits {x : LeafD} : (x.flags &&& 1 == 1) = x.f ∧ (x.flags &&& 2 == 2) = x.l := by
  unfold LeafD.flags; cases x.f <;> cases x.l <;> decide
theorem take_bytes {x : LeafD} (h : x.d.length ≤ 46) : takeD x.bytes = x := by
  have hb := bytes_eq h
  have lb := bytes_len h
  have g8 : x.bytes.getD 8 0 = x.flags := by rw [hb]; rfl
  have g9 : x.bytes.getD 9 0 = UInt8.ofNat x.d.length := by rw [hb]; rfl
  obtain ⟨C, hC⟩ : ∃ C, C = [x.flags, UInt8.ofNat x.d.length] ++ (x.d ++ List.replicate (46 - x.d.length) 0) ++ (be4 x.sum ++ be4 x.e) := ⟨_, rfl⟩
  have hb2 : x.bytes = be4 x.e ++ (be4 x.n ++ C) := by rw [hb, hC]; unfold LeafD.front; simp only [List.append_assoc]
  have e0 : get4 x.bytes 0 = x.e := (congrArg (fun l => get4 l 0) hb2).trans (get4_at [] (be4 x.n ++ C) x.e 0 rfl)
  have e4 : get4 x.bytes 4 = x.n := (congrArg (fun l => get4 l 4) hb2).trans (get4_at (be4 x.e) C x.n 4 rfl)
  have ed : (x.bytes.drop 10).take (min (x.bytes.getD 9 0).toNat 46) = x.d := by
    rw [g9, UInt8.toNat_ofNat', Nat.mod_eq_of_lt (by omega), Nat.min_eq_left h, hb]
    have : x.front ++ (be4 x.sum ++ be4 x.e) = (be4 x.e ++ (be4 x.n ++ [x.flags, UInt8.ofNat x.d.length])) ++ (x.d ++ (List.replicate (46 - x.d.length) 0 ++ (be4 x.sum ++ be4 x.e))) := by simp [LeafD.front]
    rw [this, List.drop_append, List.drop_of_length_le (by simp [be4_len]), List.nil_append]
    have l10 : (be4 x.e ++ (be4 x.n ++ [x.flags, UInt8.ofNat x.d.length])).length = 10 := rfl
    rw [l10, Nat.sub_self, List.drop_zero, List.take_append_of_le_length (Nat.le_refl _), List.take_of_length_le (Nat.le_refl _)]
  unfold takeD
  rw [e0, e4, ed, g8, flags_bits.1, flags_bits.2]
theorem takeOK_bytes {x : LeafD} (h : x.right = true) : takeOK x.bytes = true := by
  unfold takeOK
  rw [take_bytes (right_len h).2, h]; simp
theorem takeOK_iff {bs : List UInt8} : takeOK bs = true ↔ ∃ x : LeafD, x.right = true ∧ bs = x.bytes := by
  constructor
  · intro h
    simp only [takeOK, Bool.and_eq_true, decide_eq_true_eq] at h
    exact ⟨_, h.1, h.2.symm⟩
  · intro ⟨x, hx, hb⟩
    rw [hb]; exact takeOK_bytes hx
theorem takeOK_count {bs : List UInt8} (h : takeOK bs = true) : (bs.getD 9 0).toNat ≤ 46 := by
  have ⟨x, hx, hb⟩ := takeOK_iff.1 h
  rw [hb]
  have hl := (right_len hx).2
  have g9 : x.bytes.getD 9 0 = UInt8.ofNat x.d.length := by rw [bytes_eq hl]; rfl
  rw [g9, UInt8.toNat_ofNat', Nat.mod_eq_of_lt (by omega)]; exact hl
end Go.AM
namespace Go.AM
variable {prog : String → Option IFn}
theorem RefTake_spec (H : TakeLib prog) {G} {bs : List UInt8} (hl : bs.length = 64) :
    ∃ r Bs, Ev prog (.call "haberdash/haberdashref04.Take" [.agg (bs.map byteAV)] G) (.ret (.tup [.agg ((takeX bs).cells r), .v (.bool (takeOK bs))]) (G ++ Bs)) ∧ RetSlice G r Bs 1 (takeX bs).d.length ((takeX bs).d.map byteAV) := by
  obtain ⟨x, hx⟩ : ∃ x, x = takeD bs := ⟨_, rfl⟩
  have lbm : (bs.map byteAV).length = 64 := by simp [hl]
  have hrd : takeOK bs = (x.right && decide (x.bytes = bs)) := by rw [hx]; rfl
  have hX : takeX bs = if takeOK bs then x else ⟨0#32, 0#32, false, false, []⟩ := by rw [hx]; rfl
  have hcells : ∀ a, x.cells a = [.v (u32 (get4 bs 0)), .v (u32 (get4 bs 4)), .v (.bool (bs.getD 8 0 &&& 1 == 1)), .v (.bool (bs.getD 8 0 &&& 2 == 2)), a] := by intro a; rw [hx]; rfl
  obtain ⟨m, hm⟩ : ∃ m, m = (bs.getD 9 0).toNat := ⟨_, rfl⟩
  have hm256 : m < 256 := by rw [hm]; exact UInt8.toNat_lt _
  have hcount := takeOK_count (bs := bs)
  rw [← hm] at hcount
  obtain ⟨r, G2, he, a, Bs, rfl, rfl, hr⟩ := call_ex (prog := prog) (P := fun r G2 => ∃ a Bs, r = .tup [.agg ((takeX bs).cells a), .v (.bool (takeOK bs))] ∧ G2 = G ++ Bs ∧ RetSlice G a Bs 1 (takeX bs).d.length ((takeX bs).d.map byteAV))
    H.rtake (args := [.agg (bs.map byteAV)]) (G := G) (by
    simp only [f_ref04_Take_B, enter, List.length_cons, List.length_nil, List.replicate, Nat.reduceAdd, Nat.reduceSub, List.cons_append, List.nil_append]
    simp (disch := first | (simp only [DS, reduceCtorEq]; done) | omega) only [WS, St.guard, St.put, evalO, reduceCtorEq, reduceIte, Nat.reduceAdd, Nat.reduceEqDiff]
    rw [box_bytes rfl]
    simp (disch := first | (simp only [DS, reduceCtorEq]; done) | omega) only [WS, St.guard, St.put, evalO, reduceCtorEq, reduceIte, Nat.reduceAdd, Nat.reduceEqDiff, hl, c0]
    rw [alloc_s rfl]
    simp (disch := first | (simp only [DS, reduceCtorEq]; done) | omega) only [WS, St.guard, St.put, evalO, reduceCtorEq, reduceIte, Nat.reduceAdd, Nat.reduceEqDiff, px_indexArr, natOf_int, Int.reduceLE, Int.reduceToNat, Option.bind_some, Nat.reduceLT, Nat.reduceMul, Nat.reduceAdd, Nat.zero_add, Nat.mul_one, Nat.reduceLeDiff, and_self, and_true, px_load_l, List.getElem?_cons_zero, Option.join_some, loadB_byte hl, byteAV_u8, conv_u8_i64L, ← hm]
    have bz : ∀ h, prim h (.build [u32 0#32, u32 0#32, .bool false, .bool false, .slice none 0 0] []) [] = some (.agg noLeaf, h) := fun h => rfl
    have zz : ∀ b0 b1 b3 b4, prim ⟨G, [b0, b1, some (sBlk noLeaf true), b3, b4]⟩ (.store 5 false) [.ptr (.l 2) 5 0, .agg noLeaf] = some (.v undef, ⟨G, [b0, b1, some (sBlk noLeaf true), b3, b4]⟩) := fun _ _ _ _ => rfl
    have yy : ∀ a b0 b1 b3 b4, prim ⟨G, [b0, b1, some (sBlk noLeaf true), b3, b4]⟩ (.store 5 false) [.ptr (.l 2) 5 0, .agg (x.cells a)] = some (.v undef, ⟨G, [b0, b1, some (sBlk (x.cells a) (true && AV.lf.lfs (x.cells a))), b3, b4]⟩) := fun a b0 b1 b3 b4 => by
      rw [store_s (j := 2) (n := 5) (off := 0) (sz := 5) (xs := x.cells a) rfl rfl rfl rfl (by omega)]; rfl
    by_cases hgt : (m : Int) > 46
    · have hok : takeOK bs = false := by
        cases h : takeOK bs with
        | false => rfl
        | true => have := hcount h; omega
      rw [hok] at hX
      simp (disch := first | (simp only [DS, reduceCtorEq]; done) | omega) only [hgt, decide_true, WS, St.guard, St.put, evalO, reduceCtorEq, reduceIte, Nat.reduceAdd, Nat.reduceEqDiff, c0, bz]
      rw [zz]
      simp (disch := first | (simp only [DS, reduceCtorEq]; done) | omega) only [WS, St.guard, St.put, evalO, reduceCtorEq, reduceIte, Nat.reduceAdd, Nat.reduceEqDiff]
      refine ⟨by simp, .tup [.agg noLeaf, .v (.bool false)], G, ?_, .v (.slice none 0 0), [], by rw [hX, hok]; rfl, by simp, by rw [hX]; exact retSlice_nil (by omega)⟩
      exact leave_lf (r := .tup [.agg noLeaf, .v (.bool false)]) rfl
    have hm46 : m ≤ 46 := by omega
    have hxd : x.d = (bs.drop 10).take m := by rw [hx, hm]; show (bs.drop 10).take (min (bs.getD 9 0).toNat 46) = _; rw [Nat.min_eq_left (by omega)]
    have hxl : x.d.length = m := by rw [hxd, List.length_take, List.length_drop]; omega
    simp (disch := first | (simp only [DS, reduceCtorEq]; done) | omega) only [hgt, decide_false, WS, St.guard, St.put, evalO, reduceCtorEq, reduceIte, Nat.reduceAdd, Nat.reduceEqDiff, slAll]
    have hg0 : ∀ d, Good ⟨G, [some (dBlk (bs.map byteAV) false false), none, some (sBlk noLeaf d), none, none]⟩ := fun d => ⟨dBlk_good, sBlk_good rfl, trivial⟩
    have ld1 : ∀ (L : List (Option Blk)) (i : Nat), i < 64 → prim ⟨G, some (dBlk (bs.map byteAV) false false) :: L⟩ (.load 1 false) [.ptr (.l 0) 64 i] = some (.v (u8 (bs.getD i 0)), ⟨G, some (dBlk (bs.map byteAV) false false) :: L⟩) := fun L i hi => by
      simp only [px_load_l, List.getElem?_cons_zero, Option.join_some, loadB_byte hl hi]; rfl
    have pvA : ∀ L, View ⟨G, some (dBlk (bs.map byteAV) false false) :: L⟩ (.own (.l 0) 64 0 64 1 (some 64)) 1 64 (bs.map byteAV) := fun L => own_view1 (j := 0) rfl lbm (by simp)
    refine WDP_r (r := .v (u32 (get4 bs 0))) (fun X _ => by exact four_spec H.rfour ((pvA [none, some (sBlk noLeaf true), X 3, none]).into bytes_lfs) hl 0 (by omega)) rfl (hg0 _) ?_
    simp (disch := first | (simp only [DS, reduceCtorEq]; done) | omega) only [WS, St.guard, St.put, evalO, reduceCtorEq, reduceIte, Nat.reduceAdd, Nat.reduceEqDiff, slAll]
    refine WDP_r (r := .v (u32 (get4 bs 4))) (fun X _ => by exact four_spec H.rfour ((pvA [none, some (sBlk noLeaf true), X 3, none]).into bytes_lfs) hl 4 (by omega)) rfl (hg0 _) ?_
    simp (disch := first | (simp only [DS, reduceCtorEq]; done) | omega) only [WS, St.guard, St.put, evalO, reduceCtorEq, reduceIte, Nat.reduceAdd, Nat.reduceEqDiff, px_indexArr, natOf_int, Int.reduceLE, Int.reduceToNat, Option.bind_some, Nat.reduceLT, Nat.reduceMul, Nat.reduceAdd, Nat.zero_add, Nat.mul_one, Nat.reduceLeDiff, and_self, and_true]
    rw [WDP_loadU (by simp) (by exact hg0 _), ld1 _ 8 (by omega)]
    simp (disch := first | (simp only [DS, reduceCtorEq]; done) | omega) only [WS, St.guard, St.put, evalO, reduceCtorEq, reduceIte, Nat.reduceAdd, Nat.reduceEqDiff, px_indexArr, natOf_int, Int.reduceLE, Int.reduceToNat, Option.bind_some, Nat.reduceLT, Nat.reduceMul, Nat.reduceAdd, Nat.zero_add, Nat.mul_one, Nat.reduceLeDiff, and_self, and_true, k1, k2]
    rw [WDP_loadU (by simp) (by exact hg0 _), ld1 _ 8 (by omega)]
    have e10 : (10 : Int) + (m : Int) = ((10 + m : Nat) : Int) := by omega
    simp (disch := first | (simp only [DS, reduceCtorEq]; done) | omega) only [WS, St.guard, St.put, evalO, reduceCtorEq, reduceIte, Nat.reduceAdd, Nat.reduceEqDiff, px_indexArr, natOf_int, Int.reduceLE, Int.reduceToNat, Option.bind_some, Nat.reduceLT, Nat.reduceMul, Nat.reduceAdd, Nat.zero_add, Nat.mul_one, Nat.reduceLeDiff, and_self, and_true, k1, k2, vBin_add_i64, e10, sl10j, Nat.add_sub_cancel_left]
    have pv : ∀ L, View ⟨G, some (dBlk (bs.map byteAV) false false) :: L⟩ (.own (.l 0) 64 10 m 1 (some 54)) 1 x.d.length (x.d.map byteAV) := by
      intro L; rw [hxl, hxd]; exact piece_view rfl hl (by omega) (by simp; omega)
    obtain ⟨a, B, hat, hap⟩ := append_nil_at 1 (esz := 1) (len := x.d.length) (cells := x.d.map byteAV) bytes_lfs (by simp) (by omega)
    have hlab : ∀ g k, 1 < k → (AV.labs.labss (x.cells a)).all (refLt g k) = true := fun g k hk => by
      have := hat.ref (g := g) hk
      simpa [LeafD.cells, AV.labs.labss, AV.labs] using this
    have hg1 : ∀ d C E, (∀ b, C = some b → b.labs.all (refLt G.length 3) = true) → (∀ b, E = some b → b.labs = []) → Good ⟨G, [some (dBlk (bs.map byteAV) false false), B, some (sBlk noLeaf d), C, E]⟩ := fun d C E hC hE =>
      ⟨dBlk_good, goodL_opt (fun b hb => hat.good hb) ⟨sBlk_good rfl, goodL_opt hC (goodL_opt (fun b hb => by rw [hE b hb]; rfl) trivial)⟩⟩
    refine WDP_beside (a := a) (h' := ⟨G, [some (dBlk (bs.map byteAV) false false), B, some (sBlk noLeaf true), none, none]⟩) (fun X _ => hap (L := [some (dBlk (bs.map byteAV) false false), none, some (sBlk noLeaf true), X 3, none]) (by unfold room; omega) rfl (pv _)) (hg0 _) (hg1 _ _ _ (by simp) (by simp)) (by exact rfl) (by simp) ?_
    simp (disch := first | (simp only [DS, reduceCtorEq]; done) | omega) only [WS, St.guard, St.put, evalO, reduceCtorEq, reduceIte, Nat.reduceAdd, Nat.reduceEqDiff]
    refine (WDR_eq (.agg (x.cells a)) (by rw [hcells, px_build]; simp only [fills, (hat.view (G := G) (L := [none, B]) rfl).cellsOf]; rfl)).2 ?_
    simp (disch := first | (simp only [DS, reduceCtorEq]; done) | omega) only [WS, St.guard, St.put, evalO, reduceCtorEq, reduceIte, Nat.reduceAdd, Nat.reduceEqDiff]
    refine WDP_beside (fun X _ => alloc_s (L := [some (dBlk (bs.map byteAV) false false), X 1, some (sBlk noLeaf true), none, none]) rfl) (hg1 _ _ _ (by simp) (by simp)) (h' := ⟨G, [some (dBlk (bs.map byteAV) false false), B, some (sBlk noLeaf true), some (sBlk noLeaf true), none]⟩) (hg1 _ _ _ (by intro b hb; cases hb; exact sBlk_good rfl) (by simp)) (by exact rfl) (by simp) ?_
    simp (disch := first | (simp only [DS, reduceCtorEq]; done) | omega) only [WS, St.guard, St.put, evalO, reduceCtorEq, reduceIte, Nat.reduceAdd, Nat.reduceEqDiff]
    obtain ⟨d4, hd4⟩ : ∃ d, d = (true && AV.lf.lfs (x.cells a)) := ⟨_, rfl⟩
    have hg2 : ∀ d, Good ⟨G, [some (dBlk (bs.map byteAV) false false), B, some (sBlk noLeaf true), some (sBlk (x.cells a) d), none]⟩ := fun d => hg1 _ _ _ (by intro b hb; cases hb; exact sBlk_good (hlab _ _ (by omega))) (by simp)
    refine WDP_beside (h' := ⟨G, [some (dBlk (bs.map byteAV) false false), B, some (sBlk noLeaf true), some (sBlk (x.cells a) d4), none]⟩) (fun X _ => by
      rw [hd4]; exact store_s (cells := noLeaf) (d := true) (j := 3) (n := 5) (off := 0) (sz := 5) (xs := x.cells a) rfl rfl rfl rfl (by omega)) (hg1 _ _ _ (by intro b hb; cases hb; exact sBlk_good rfl) (by simp)) (hg2 _) (by exact rfl) (by simp) ?_
    simp (disch := first | (simp only [DS, reduceCtorEq]; done) | omega) only [WS, St.guard, St.put, evalO, reduceCtorEq, reduceIte, Nat.reduceAdd, Nat.reduceEqDiff]
    have ldx : ∀ (L : List (Option Blk)) b1 b2 b3, prim ⟨G, b1 :: b2 :: b3 :: some (sBlk (x.cells a) d4) :: L⟩ (.load 5 true) [.ptr (.l 3) 5 0] = some (.agg (x.cells a), ⟨G, b1 :: b2 :: b3 :: some (sBlk (x.cells a) d4) :: L⟩) := fun L b1 b2 b3 => rfl
    have va2 : View ⟨G, [some (dBlk (bs.map byteAV) false false), B, some (sBlk noLeaf true), some (sBlk (x.cells a) d4), none]⟩ a 1 x.d.length (x.d.map byteAV) := hat.view rfl
    simp (disch := first | (simp only [DS, reduceCtorEq]; done) | omega) only [WS, St.guard, St.put, evalO, reduceCtorEq, reduceIte, Nat.reduceAdd, Nat.reduceEqDiff, ldx]
    rw [WP_r (r := x.laid) (by exact RefLay_spec H.toLeafLib (va2.into bytes_lfs)) laid_lf (hg2 _)]
    simp (disch := first | (simp only [DS, reduceCtorEq]; done) | omega) only [WS, St.guard, St.put, evalO, reduceCtorEq, reduceIte, Nat.reduceAdd, Nat.reduceEqDiff]
    have hld : ∀ L, prim ⟨G, L⟩ (.extract 0) [x.laid] = some (.agg ((if x.right then x.bytes else zs64).map byteAV), ⟨G, L⟩) := fun L => by unfold LeafD.laid; split <;> rfl
    have hle : ∀ L, prim ⟨G, L⟩ (.extract 1) [x.laid] = some (.v (.int .i64 (if x.right then 0 else 2)), ⟨G, L⟩) := fun L => by unfold LeafD.laid; split <;> rfl
    have lfl : ∀ a : LeafD, a.right = true → a.bytes.length = 64 := fun a ha => bytes_len (right_len ha).2
    obtain ⟨y, hy⟩ : ∃ y, y = if x.right then x.bytes else zs64 := ⟨_, rfl⟩
    have lyl : y.length = 64 := by rw [hy]; split; exact lfl x (by assumption); exact zs64_len
    have lym : (y.map byteAV).length = 64 := by simp [lyl]
    rw [← hy] at hld
    rw [hld]
    simp (disch := first | (simp only [DS, reduceCtorEq]; done) | omega) only [WS, St.guard, St.put, evalO, reduceCtorEq, reduceIte, Nat.reduceAdd, Nat.reduceEqDiff, hle]
    rw [alloc_zeros rfl]
    simp (disch := first | (simp only [DS, reduceCtorEq]; done) | omega) only [WS, St.guard, St.put, evalO, reduceCtorEq, reduceIte, Nat.reduceAdd, Nat.reduceEqDiff]
    rw [store_all (j := 4) rfl (by simp [zs64_len]) lym bytes_lfs]
    cases hR : x.right with
    | false =>
      rw [hR, Bool.false_and] at hrd
      rw [hrd] at hX
      simp (disch := first | (simp only [DS, reduceCtorEq]; done) | omega) only [WS, St.guard, St.put, evalO, reduceCtorEq, reduceIte, Nat.reduceAdd, Nat.reduceEqDiff, hR, Bool.false_eq_true, show ((2 : Int) != 0) = true from rfl, c0, bz]
      rw [zz]
      simp (disch := first | (simp only [DS, reduceCtorEq]; done) | omega) only [WS, St.guard, St.put, evalO, reduceCtorEq, reduceIte, Nat.reduceAdd, Nat.reduceEqDiff]
      refine ⟨by simp, .tup [.agg noLeaf, .v (.bool false)], G, ?_, .v (.slice none 0 0), [], by rw [hX, hrd]; rfl, by simp, by rw [hX]; exact retSlice_nil (by omega)⟩
      exact leave_lf (r := .tup [.agg noLeaf, .v (.bool false)]) rfl
    | true =>
      rw [hR, if_pos rfl] at hy
      have hys : decide (x.bytes = bs) = takeOK bs := by rw [hrd, hR, Bool.true_and]
      simp (disch := first | (simp only [DS, reduceCtorEq]; done) | omega) only [WS, St.guard, St.put, evalO, reduceCtorEq, reduceIte, Nat.reduceAdd, Nat.reduceEqDiff, hR, show ((0 : Int) != 0) = false from rfl, px_load_l, List.getElem?_cons_zero, List.getElem?_cons_succ, Option.join_some, loadB_all lym, loadB_all lbm, eq64 lyl hl]
      rw [show decide (y = bs) = takeOK bs by rw [hy, hys]]
      cases hok : takeOK bs with
      | false =>
        rw [hok] at hX
        simp (disch := first | (simp only [DS, reduceCtorEq]; done) | omega) only [WS, St.guard, St.put, evalO, reduceCtorEq, reduceIte, Nat.reduceAdd, Nat.reduceEqDiff, c0, bz]
        rw [zz]
        simp (disch := first | (simp only [DS, reduceCtorEq]; done) | omega) only [WS, St.guard, St.put, evalO, reduceCtorEq, reduceIte, Nat.reduceAdd, Nat.reduceEqDiff]
        refine ⟨by simp, .tup [.agg noLeaf, .v (.bool false)], G, ?_, .v (.slice none 0 0), [], by rw [hX]; rfl, by simp, by rw [hX]; exact retSlice_nil (by omega)⟩
        exact leave_lf (r := .tup [.agg noLeaf, .v (.bool false)]) rfl
      | true =>
        rw [hok, if_pos rfl] at hX
        simp (disch := first | (simp only [DS, reduceCtorEq]; done) | omega) only [WS, St.guard, St.put, evalO, reduceCtorEq, reduceIte, Nat.reduceAdd, Nat.reduceEqDiff, ldx, yy]
        obtain ⟨r, Bs, hlv, hret⟩ := leave_at (h := ⟨G, [some (dBlk (bs.map byteAV) false false), B, some (sBlk (x.cells a) (true && AV.lf.lfs (x.cells a))), some (sBlk (x.cells a) d4), some (dBlk (y.map byteAV) false false)]⟩) hat rfl
          (fun a => .tup [.agg (x.cells a), .v (.bool true)]) (fun _ _ => rfl) (fun a => by simp [LeafD.cells, AV.labs, AV.labs.labss]) (fun a ha => by simp [LeafD.cells, AV.lf, AV.lf.lfs, ha])
        refine ⟨by simp, _, _, hlv, r, Bs, by rw [hX], rfl, by rw [hX]; exact hret⟩)
  exact ⟨a, Bs, he, hr⟩
end Go.AM
