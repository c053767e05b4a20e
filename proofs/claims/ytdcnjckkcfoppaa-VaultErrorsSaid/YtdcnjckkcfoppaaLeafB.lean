import Derived.Test.YtdcnjckkcfoppaaLeafA
set_option linter.unusedVariables false
set_option linter.unusedSimpArgs false
namespace Go.AM
variable {prog : String → Option IFn}
theorem vBin_add_u8 {a b : UInt8} : vBin .add (u8 a) (u8 b) = some (u8 (a + b)) := by
  simp only [u8, vBin, ne_eq, not_true_eq_false, if_false, Option.some.injEq, Value.int.injEq, true_and]
  rw [IntKind.wrap_u8, UInt8.toNat_add]; omega
theorem blit_set {l d : List UInt8} {off j : Nat} (hj : j < d.length) (hl : off + j < l.length) : (blit l off (d.take j)).set (off + j) d[j] = blit l off (d.take (j + 1)) := by
  have e1 : (d.take j).length = j := by rw [List.length_take]; omega
  have e2 : (d.take (j + 1)).length = j + 1 := by rw [List.length_take]; omega
  unfold blit
  rw [e1, e2, List.set_append_right _ _ (by simp; omega)]
  have e3 : off + j - (l.take off ++ d.take j).length = 0 := by simp; omega
  have e4 : d.take (j + 1) = d.take j ++ [d[j]] := by rw [List.take_add_one, List.getElem?_eq_getElem hj]; rfl
  rw [e3, List.drop_eq_getElem_cons hl, List.set_cons_zero]
  simp [Nat.add_assoc]
  rw [e4, List.append_assoc]; rfl
theorem blit_nil {l : List UInt8} {off : Nat} : blit l off [] = l := by simp [blit]
theorem RefLay_spec (H : LeafLib prog) {G a} {x : LeafD} (w : ∀ L, View ⟨G, L⟩ a 1 x.d.length (x.d.map byteAV)) :
    Ev prog (.call "haberdash/haberdashref04.Lay" [.agg (x.cells a)] G) (.ret x.laid G) := by
  refine call_of_fin H.rlay ?_
  have ho := (w []).out
  have hr := fun (h : Hp) (hh : h.G = G) => right_any (prog := prog) (H.rright.trans (congrArg some (rfl : f_ref04_RightLeaf = f_leaf_right))) (G := h.into) (a := a.ren (up h.G.length)) (x := x) (by subst hh; exact (w h.L).into bytes_lfs)
  have hlaid : x.laid = if x.right then .tup [.agg (x.bytes.map byteAV), .v (.int .i64 0)] else .tup [.agg (zs64.map byteAV), .v (.int .i64 2)] := rfl
  have hlen := right_len (x := x)
  have hbd : x.body = blit ((((put4 (put4 zs64 0 x.e) 4 x.n).set 8 x.flags).set 9 (UInt8.ofNat x.d.length))) 10 x.d := rfl
  have hby : x.bytes = put4 (put4 x.body 56 (crcMore 0#32 (x.body.take 56))) 60 x.e := rfl
  have hbl := body_len (x := x)
  have hg2 : ∀ (d : Bool) (b : List UInt8), Good ⟨G, [some (sBlk (x.cells a) d), some (dBlk (zs64.map byteAV) false false), some (dBlk (b.map byteAV) false false)]⟩ := fun d b => ⟨sBlk_good (leaf_labs ho), dBlk_good, dBlk_good, trivial⟩
  simp only [f_ref04_Lay_B, enter, List.length_cons, List.length_nil, List.replicate, Nat.reduceAdd, Nat.reduceSub, List.cons_append, List.nil_append]
  simp (disch := first | (simp only [DS, reduceCtorEq]; done) | omega) only [WS, St.guard, St.put, evalO, reduceCtorEq, reduceIte, Nat.reduceAdd, Nat.reduceEqDiff]
  rw [LeafD.cells, box_s rfl]
  simp (disch := first | (simp only [DS, reduceCtorEq]; done) | omega) only [WS, St.guard, St.put, evalO, reduceCtorEq, reduceIte, Nat.reduceAdd, Nat.reduceEqDiff]
  rw [alloc_zeros rfl]
  simp (disch := first | (simp only [DS, reduceCtorEq]; done) | omega) only [WS, St.guard, St.put, evalO, reduceCtorEq, reduceIte, Nat.reduceAdd, Nat.reduceEqDiff]
  rw [alloc_zeros rfl]
  simp (disch := first | (simp only [DS, reduceCtorEq]; done) | omega) only [WS, St.guard, St.put, evalO, reduceCtorEq, reduceIte, Nat.reduceAdd, Nat.reduceEqDiff, px_load_l, loadB_s, List.getElem?_cons_zero, List.getElem?_cons_succ, Option.join_some, List.drop_zero, List.drop_succ_cons, List.take_succ_cons, List.take_zero, whole, List.length_cons, List.length_nil, Nat.reduceAdd, Nat.reduceLeDiff, Nat.zero_add, and_self, and_true]
  rw [WP_p (x := .bool x.right) (hr _ rfl) (hg2 _ _)]
  cases hR : x.right
  · simp (disch := first | (simp only [DS, reduceCtorEq]; done) | omega) only [WS, St.guard, St.put, evalO, reduceCtorEq, reduceIte, Nat.reduceAdd, Nat.reduceEqDiff, px_load_l, List.getElem?_cons_zero, List.getElem?_cons_succ, Option.join_some, loadB_all (show (zs64.map byteAV).length = 64 by simp [zs64_len])]
    rw [store_all (j := 1) rfl (by simp [zs64_len]) (by simp [zs64_len]) bytes_lfs]
    simp (disch := first | (simp only [DS, reduceCtorEq]; done) | omega) only [WS, St.guard, St.put, evalO, reduceCtorEq, reduceIte, Nat.reduceAdd, Nat.reduceEqDiff]
    simp only [fin, resVals, resVal, px_load_l, List.getElem?_cons_zero, List.getElem?_cons_succ, Option.join_some, loadB_all (show (zs64.map byteAV).length = 64 by simp [zs64_len]), LS, reduceCtorEq, reduceIte, Nat.reduceAdd, packA]
    rw [hlaid, hR, leave_lf (by simp [AV.lf, AV.lf.lfs, bytes_lfs])]
    simp
  · have hl46 := (hlen hR).2
    have hbl := hbl hl46
    rw [hR] at hlaid
    obtain ⟨b1, hb1⟩ : ∃ b, b = put4 zs64 0 x.e := ⟨_, rfl⟩
    obtain ⟨b2, hb2⟩ : ∃ b, b = put4 b1 4 x.n := ⟨_, rfl⟩
    obtain ⟨b3, hb3⟩ : ∃ b, b = (b2.set 8 x.flags).set 9 (UInt8.ofNat x.d.length) := ⟨_, rfl⟩
    obtain ⟨b4, hb4⟩ : ∃ b, b = put4 x.body 56 (crcMore 0#32 (x.body.take 56)) := ⟨_, rfl⟩
    rw [← hb1, ← hb2, ← hb3] at hbd
    rw [← hb4] at hby
    have l1 : b1.length = 64 := by rw [hb1, put4_len, zs64_len]
    have l2 : b2.length = 64 := by rw [hb2, put4_len, l1]
    have l3 : b3.length = 64 := by rw [hb3]; simp [l2]
    have l4 : b4.length = 64 := by rw [hb4, put4_len, hbl]
    have lby : x.bytes.length = 64 := bytes_len hl46
    have z8 : b2.getD 8 0 = 0 := by
      rw [hb2, hb1]; simp [put4, putN, zs64, List.replicate, List.getD_eq_getElem?_getD]
    simp (disch := first | (simp only [DS, reduceCtorEq]; done) | omega) only [WS, St.guard, St.put, evalO, reduceCtorEq, reduceIte, Nat.reduceAdd, Nat.reduceEqDiff, px_load_l, loadB_s, List.getElem?_cons_zero, List.getElem?_cons_succ, Option.join_some, List.drop_zero, List.drop_succ_cons, List.take_succ_cons, List.take_zero, whole, List.length_cons, List.length_nil, Nat.reduceAdd, Nat.reduceLeDiff, Nat.zero_add, and_self, and_true, slAll]
    refine WDP_set (j := 2) (b := dBlk (b1.map byteAV) false false) (by rw [hb1]; exact reflay_spec H.rlay4 (into_data rfl rfl) zs64_len 0 (by omega) x.e) rfl rfl (hg2 _ _) (.inr (by simp)) ?_
    simp (disch := first | (simp only [DS, reduceCtorEq]; done) | omega) only [WS, St.guard, St.put, evalO, reduceCtorEq, reduceIte, Nat.reduceAdd, Nat.reduceEqDiff, px_load_l, loadB_s, List.getElem?_cons_zero, List.getElem?_cons_succ, Option.join_some, List.drop_zero, List.drop_succ_cons, List.take_succ_cons, List.take_zero, whole, List.length_cons, List.length_nil, Nat.reduceAdd, Nat.reduceLeDiff, Nat.zero_add, and_self, and_true, slAll]
    refine WDP_set (j := 2) (b := dBlk (b2.map byteAV) false false) (by rw [hb2]; exact reflay_spec H.rlay4 (into_data rfl rfl) l1 4 (by omega) x.n) rfl rfl (hg2 _ _) (.inr (by simp)) ?_
    simp (disch := first | (simp only [DS, reduceCtorEq]; done) | omega) only [WS, St.guard, St.put, evalO, reduceCtorEq, reduceIte, Nat.reduceAdd, Nat.reduceEqDiff, px_load_l, loadB_s, List.getElem?_cons_zero, List.getElem?_cons_succ, Option.join_some, List.drop_zero, List.drop_succ_cons, List.take_succ_cons, List.take_zero, whole, List.length_cons, List.length_nil, Nat.reduceAdd, Nat.reduceLeDiff, Nat.zero_add, and_self, and_true]
    have s0 : b2 = b2.set 8 0 := by
      rw [← z8, List.getD_eq_getElem?_getD, List.getElem?_eq_getElem (by omega)]; simp
    have g1 : (b2.set 8 1).getD 8 0 = 1 := by rw [List.getD_eq_getElem?_getD, List.getElem?_set_self (by omega)]; rfl
    have flx : x.flags = if x.l then (if x.f then 3 else 2) else (if x.f then 1 else 0) := rfl
    have ss : ∀ a b : UInt8, (b2.set 8 a).set 8 b = b2.set 8 b := fun a b => List.set_set ..
    have l8 : ∀ a, (b2.set 8 a).length = 64 := fun a => by simp [l2]
    rcases Bool.eq_false_or_eq_true x.f with hf | hf <;> rcases Bool.eq_false_or_eq_true x.l with hl | hl <;> rw [hf, hl] at flx
    · simp (disch := first | (simp only [DS, reduceCtorEq]; done) | omega) only [hf, hl, WS, St.guard, St.put, evalO, reduceCtorEq, reduceIte, Nat.reduceAdd, Nat.reduceEqDiff, px_load_l, loadB_s, List.getElem?_cons_zero, List.getElem?_cons_succ, Option.join_some, List.drop_zero, List.drop_succ_cons, List.take_succ_cons, List.take_zero, whole, List.length_cons, List.length_nil, Nat.reduceAdd, Nat.reduceLeDiff, Nat.zero_add, and_self, and_true, px_indexArr, natOf_int, Int.reduceLE, Int.reduceToNat, Option.bind_some, Nat.reduceLT, Nat.reduceMul, Nat.reduceAdd, Nat.zero_add, Nat.mul_one, Nat.reduceLeDiff, and_self, and_true, loadB_byte l2, z8, byteAV_u8, k1, k2, vBin_add_u8]
      rw [store_byte (j := 2) rfl l2 (by omega), show (0 : UInt8) + 1 = 1 from rfl]
      simp (disch := first | (simp only [DS, reduceCtorEq]; done) | omega) only [hl, WS, St.guard, St.put, evalO, reduceCtorEq, reduceIte, Nat.reduceAdd, Nat.reduceEqDiff, px_load_l, loadB_s, List.getElem?_cons_zero, List.getElem?_cons_succ, Option.join_some, List.drop_zero, List.drop_succ_cons, List.take_succ_cons, List.take_zero, whole, List.length_cons, List.length_nil, Nat.reduceAdd, Nat.reduceLeDiff, Nat.zero_add, and_self, and_true, px_indexArr, natOf_int, Int.reduceLE, Int.reduceToNat, Option.bind_some, Nat.reduceLT, Nat.reduceMul, Nat.reduceAdd, Nat.zero_add, Nat.mul_one, Nat.reduceLeDiff, and_self, and_true, loadB_byte (l8 1), g1, byteAV_u8, k1, k2, vBin_add_u8]
      rw [store_byte (j := 2) rfl (l8 1) (by omega), show (1 : UInt8) + 2 = x.flags by rw [flx]; rfl, ss]
      simp (disch := first | (simp only [DS, reduceCtorEq]; done) | omega) only [hl, WS, St.guard, St.put, evalO, reduceCtorEq, reduceIte, Nat.reduceAdd, Nat.reduceEqDiff, px_load_l, loadB_s, List.getElem?_cons_zero, List.getElem?_cons_succ, Option.join_some, List.drop_zero, List.drop_succ_cons, List.take_succ_cons, List.take_zero, whole, List.length_cons, List.length_nil, Nat.reduceAdd, Nat.reduceLeDiff, Nat.zero_add, and_self, and_true, (w _).lenSlice, px_indexArr, natOf_int, Int.reduceLE, Int.reduceToNat, Option.bind_some, Nat.reduceLT, Nat.reduceMul, Nat.reduceAdd, Nat.zero_add, Nat.mul_one, Nat.reduceLeDiff, and_self, and_true]
      rw [store_byte (j := 2) rfl (l8 x.flags) (by omega), ← hb3]
      simp (disch := first | (simp only [DS, reduceCtorEq]; done) | omega) only [WS, St.guard, St.put, evalO, reduceCtorEq, reduceIte, Nat.reduceAdd, Nat.reduceEqDiff, px_load_l, loadB_s, List.getElem?_cons_zero, List.getElem?_cons_succ, Option.join_some, List.drop_zero, List.drop_succ_cons, List.take_succ_cons, List.take_zero, whole, List.length_cons, List.length_nil, Nat.reduceAdd, Nat.reduceLeDiff, Nat.zero_add, and_self, and_true]
      refine WC_count (fun j => ⟨f_ref04_Lay_H0 (.ptr (.l 0) 5 0) (.ptr (.l 1) 64 0) (.ptr (.l 2) 64 0) (.v (.int .i64 (j : Nat))), ⟨G, [some (sBlk (x.cells a) (AV.lf.lfs (x.cells a))), some (dBlk (zs64.map byteAV) false false), some (dBlk ((blit b3 10 (x.d.take j)).map byteAV) false false)]⟩⟩) x.d.length ?_ (fun j hj => ?_) ?_
      · simp only [clear_nil, List.foldl_cons, List.foldl_nil, Option.some.injEq, LS, reduceCtorEq, reduceIte, Nat.reduceAdd, List.take_zero, blit_nil, LeafD.cells, hf, hl]; rfl
      · have hlt' : (j : Int) < (x.d.length : Int) := by omega
        have hx : (x.d.map byteAV)[j]? = some (byteAV x.d[j]) := by simp [hj]
        have e10 : (10 : Int) + (j : Int) = ((10 + j : Nat) : Int) := by omega
        have lbj : (blit b3 10 (x.d.take j)).length = 64 := by rw [blit_len (by rw [List.length_take]; omega), l3]
        simp (disch := first | (simp only [DS, reduceCtorEq]; done) | omega) only [f_ref04_Lay_L0, f_ref04_Lay_H0, LeafD.cells, WS, St.guard, St.put, evalO, reduceCtorEq, reduceIte, Nat.reduceAdd, Nat.reduceEqDiff, px_load_l, loadB_s, List.getElem?_cons_zero, List.getElem?_cons_succ, Option.join_some, List.drop_zero, List.drop_succ_cons, List.take_succ_cons, List.take_zero, whole, List.length_cons, List.length_nil, Nat.reduceAdd, Nat.reduceLeDiff, Nat.zero_add, and_self, and_true, hlt', decide_true, (w _).lenSlice, (w _).index hj, (w _).load1 hx, vBin_add_i64, e10, indexArr_at, byteAV_u8]
        rw [store_byte (j := 2) rfl lbj (by omega), blit_set hj (by omega)]
        simp (disch := first | (simp only [DS, reduceCtorEq]; done) | omega) only [WS, St.guard, St.put, evalO, reduceCtorEq, reduceIte, Nat.reduceAdd, Nat.reduceEqDiff, vBin_add_i64, clear_nil, List.foldl_cons, List.foldl_nil, Option.some.injEq]
        rfl
      · simp (disch := first | (simp only [DS, reduceCtorEq]; done) | omega) only [f_ref04_Lay_L0, f_ref04_Lay_H0, LeafD.cells, WS, St.guard, St.put, evalO, reduceCtorEq, reduceIte, Nat.reduceAdd, Nat.reduceEqDiff, px_load_l, loadB_s, List.getElem?_cons_zero, List.getElem?_cons_succ, Option.join_some, List.drop_zero, List.drop_succ_cons, List.take_succ_cons, List.take_zero, whole, List.length_cons, List.length_nil, Nat.reduceAdd, Nat.reduceLeDiff, Nat.zero_add, and_self, and_true, (w _).lenSlice, decide_false, List.take_length, ← hbd, slAll, sl56]
        have pv : View ⟨G, [some (sBlk (x.cells a) (AV.lf.lfs (x.cells a))), some (dBlk (zs64.map byteAV) false false), some (dBlk (x.body.map byteAV) false false)]⟩ (.own (.l 2) 64 0 56 1 (some 64)) 1 ((x.body.drop 0).take 56).length (((x.body.drop 0).take 56).map byteAV) := by
          have := piece_view (G := G) (L := [some (sBlk (x.cells a) (AV.lf.lfs (x.cells a))), some (dBlk (zs64.map byteAV) false false), some (dBlk (x.body.map byteAV) false false)]) (ℓ := .l 2) (off := 0) (len := 56) (cap := some 64) rfl hbl (by omega) (by simp)
          rwa [show ((x.body.drop 0).take 56).length = 56 by simp [hbl]]
        refine WDP_r (r := .v (u32 (crcMore 0#32 (x.body.take 56)))) (fun X _ => RefSum_spec H.rmore H.rsum (pv.into bytes_lfs) (by simp [hbl])) rfl (hg2 _ _) ?_
        simp (disch := first | (simp only [DS, reduceCtorEq]; done) | omega) only [WS, St.guard, St.put, evalO, reduceCtorEq, reduceIte, Nat.reduceAdd, Nat.reduceEqDiff]
        refine WDP_set (j := 2) (b := dBlk (b4.map byteAV) false false) (by rw [hb4]; exact reflay_spec H.rlay4 (into_data rfl rfl) hbl 56 (by omega) _) rfl rfl (hg2 _ _) (.inr (by simp)) ?_
        simp (disch := first | (simp only [DS, reduceCtorEq]; done) | omega) only [WS, St.guard, St.put, evalO, reduceCtorEq, reduceIte, Nat.reduceAdd, Nat.reduceEqDiff, px_load_l, loadB_s, List.getElem?_cons_zero, List.getElem?_cons_succ, Option.join_some, List.drop_zero, List.drop_succ_cons, List.take_succ_cons, List.take_zero, whole, List.length_cons, List.length_nil, Nat.reduceAdd, Nat.reduceLeDiff, Nat.zero_add, and_self, and_true, slAll]
        refine WDP_set (j := 2) (b := dBlk (x.bytes.map byteAV) false false) (by rw [hby]; exact reflay_spec H.rlay4 (into_data rfl rfl) l4 60 (by omega) x.e) rfl rfl (hg2 _ _) (.inr (by simp)) ?_
        have lbm : (x.bytes.map byteAV).length = 64 := by simp [lby]
        simp (disch := first | (simp only [DS, reduceCtorEq]; done) | omega) only [WS, St.guard, St.put, evalO, reduceCtorEq, reduceIte, Nat.reduceAdd, Nat.reduceEqDiff, px_load_l, List.getElem?_cons_zero, List.getElem?_cons_succ, Option.join_some, loadB_all lbm]
        rw [store_all (j := 1) rfl (by simp [zs64_len]) lbm bytes_lfs]
        simp (disch := first | (simp only [DS, reduceCtorEq]; done) | omega) only [WS, St.guard, St.put, evalO, reduceCtorEq, reduceIte, Nat.reduceAdd, Nat.reduceEqDiff]
        simp only [fin, resVals, resVal, px_load_l, List.getElem?_cons_zero, List.getElem?_cons_succ, Option.join_some, loadB_all lbm, LS, reduceCtorEq, reduceIte, Nat.reduceAdd, packA]
        rw [hlaid, leave_lf (by simp [AV.lf, AV.lf.lfs, bytes_lfs])]
        simp
    · simp (disch := first | (simp only [DS, reduceCtorEq]; done) | omega) only [hf, hl, WS, St.guard, St.put, evalO, reduceCtorEq, reduceIte, Nat.reduceAdd, Nat.reduceEqDiff, px_load_l, loadB_s, List.getElem?_cons_zero, List.getElem?_cons_succ, Option.join_some, List.drop_zero, List.drop_succ_cons, List.take_succ_cons, List.take_zero, whole, List.length_cons, List.length_nil, Nat.reduceAdd, Nat.reduceLeDiff, Nat.zero_add, and_self, and_true, px_indexArr, natOf_int, Int.reduceLE, Int.reduceToNat, Option.bind_some, Nat.reduceLT, Nat.reduceMul, Nat.reduceAdd, Nat.zero_add, Nat.mul_one, Nat.reduceLeDiff, and_self, and_true, loadB_byte l2, z8, byteAV_u8, k1, k2, vBin_add_u8]
      rw [store_byte (j := 2) rfl l2 (by omega), show (0 : UInt8) + 1 = x.flags by rw [flx]; rfl]
      simp (disch := first | (simp only [DS, reduceCtorEq]; done) | omega) only [hl, WS, St.guard, St.put, evalO, reduceCtorEq, reduceIte, Nat.reduceAdd, Nat.reduceEqDiff, px_load_l, loadB_s, List.getElem?_cons_zero, List.getElem?_cons_succ, Option.join_some, List.drop_zero, List.drop_succ_cons, List.take_succ_cons, List.take_zero, whole, List.length_cons, List.length_nil, Nat.reduceAdd, Nat.reduceLeDiff, Nat.zero_add, and_self, and_true, (w _).lenSlice, px_indexArr, natOf_int, Int.reduceLE, Int.reduceToNat, Option.bind_some, Nat.reduceLT, Nat.reduceMul, Nat.reduceAdd, Nat.zero_add, Nat.mul_one, Nat.reduceLeDiff, and_self, and_true]
      rw [store_byte (j := 2) rfl (l8 x.flags) (by omega), ← hb3]
      simp (disch := first | (simp only [DS, reduceCtorEq]; done) | omega) only [WS, St.guard, St.put, evalO, reduceCtorEq, reduceIte, Nat.reduceAdd, Nat.reduceEqDiff, px_load_l, loadB_s, List.getElem?_cons_zero, List.getElem?_cons_succ, Option.join_some, List.drop_zero, List.drop_succ_cons, List.take_succ_cons, List.take_zero, whole, List.length_cons, List.length_nil, Nat.reduceAdd, Nat.reduceLeDiff, Nat.zero_add, and_self, and_true]
      refine WC_count (fun j => ⟨f_ref04_Lay_H0 (.ptr (.l 0) 5 0) (.ptr (.l 1) 64 0) (.ptr (.l 2) 64 0) (.v (.int .i64 (j : Nat))), ⟨G, [some (sBlk (x.cells a) (AV.lf.lfs (x.cells a))), some (dBlk (zs64.map byteAV) false false), some (dBlk ((blit b3 10 (x.d.take j)).map byteAV) false false)]⟩⟩) x.d.length ?_ (fun j hj => ?_) ?_
      · simp only [clear_nil, List.foldl_cons, List.foldl_nil, Option.some.injEq, LS, reduceCtorEq, reduceIte, Nat.reduceAdd, List.take_zero, blit_nil, LeafD.cells, hf, hl]; rfl
      · have hlt' : (j : Int) < (x.d.length : Int) := by omega
        have hx : (x.d.map byteAV)[j]? = some (byteAV x.d[j]) := by simp [hj]
        have e10 : (10 : Int) + (j : Int) = ((10 + j : Nat) : Int) := by omega
        have lbj : (blit b3 10 (x.d.take j)).length = 64 := by rw [blit_len (by rw [List.length_take]; omega), l3]
        simp (disch := first | (simp only [DS, reduceCtorEq]; done) | omega) only [f_ref04_Lay_L0, f_ref04_Lay_H0, LeafD.cells, WS, St.guard, St.put, evalO, reduceCtorEq, reduceIte, Nat.reduceAdd, Nat.reduceEqDiff, px_load_l, loadB_s, List.getElem?_cons_zero, List.getElem?_cons_succ, Option.join_some, List.drop_zero, List.drop_succ_cons, List.take_succ_cons, List.take_zero, whole, List.length_cons, List.length_nil, Nat.reduceAdd, Nat.reduceLeDiff, Nat.zero_add, and_self, and_true, hlt', decide_true, (w _).lenSlice, (w _).index hj, (w _).load1 hx, vBin_add_i64, e10, indexArr_at, byteAV_u8]
        rw [store_byte (j := 2) rfl lbj (by omega), blit_set hj (by omega)]
        simp (disch := first | (simp only [DS, reduceCtorEq]; done) | omega) only [WS, St.guard, St.put, evalO, reduceCtorEq, reduceIte, Nat.reduceAdd, Nat.reduceEqDiff, vBin_add_i64, clear_nil, List.foldl_cons, List.foldl_nil, Option.some.injEq]
        rfl
      · simp (disch := first | (simp only [DS, reduceCtorEq]; done) | omega) only [f_ref04_Lay_L0, f_ref04_Lay_H0, LeafD.cells, WS, St.guard, St.put, evalO, reduceCtorEq, reduceIte, Nat.reduceAdd, Nat.reduceEqDiff, px_load_l, loadB_s, List.getElem?_cons_zero, List.getElem?_cons_succ, Option.join_some, List.drop_zero, List.drop_succ_cons, List.take_succ_cons, List.take_zero, whole, List.length_cons, List.length_nil, Nat.reduceAdd, Nat.reduceLeDiff, Nat.zero_add, and_self, and_true, (w _).lenSlice, decide_false, List.take_length, ← hbd, slAll, sl56]
        have pv : View ⟨G, [some (sBlk (x.cells a) (AV.lf.lfs (x.cells a))), some (dBlk (zs64.map byteAV) false false), some (dBlk (x.body.map byteAV) false false)]⟩ (.own (.l 2) 64 0 56 1 (some 64)) 1 ((x.body.drop 0).take 56).length (((x.body.drop 0).take 56).map byteAV) := by
          have := piece_view (G := G) (L := [some (sBlk (x.cells a) (AV.lf.lfs (x.cells a))), some (dBlk (zs64.map byteAV) false false), some (dBlk (x.body.map byteAV) false false)]) (ℓ := .l 2) (off := 0) (len := 56) (cap := some 64) rfl hbl (by omega) (by simp)
          rwa [show ((x.body.drop 0).take 56).length = 56 by simp [hbl]]
        refine WDP_r (r := .v (u32 (crcMore 0#32 (x.body.take 56)))) (fun X _ => RefSum_spec H.rmore H.rsum (pv.into bytes_lfs) (by simp [hbl])) rfl (hg2 _ _) ?_
        simp (disch := first | (simp only [DS, reduceCtorEq]; done) | omega) only [WS, St.guard, St.put, evalO, reduceCtorEq, reduceIte, Nat.reduceAdd, Nat.reduceEqDiff]
        refine WDP_set (j := 2) (b := dBlk (b4.map byteAV) false false) (by rw [hb4]; exact reflay_spec H.rlay4 (into_data rfl rfl) hbl 56 (by omega) _) rfl rfl (hg2 _ _) (.inr (by simp)) ?_
        simp (disch := first | (simp only [DS, reduceCtorEq]; done) | omega) only [WS, St.guard, St.put, evalO, reduceCtorEq, reduceIte, Nat.reduceAdd, Nat.reduceEqDiff, px_load_l, loadB_s, List.getElem?_cons_zero, List.getElem?_cons_succ, Option.join_some, List.drop_zero, List.drop_succ_cons, List.take_succ_cons, List.take_zero, whole, List.length_cons, List.length_nil, Nat.reduceAdd, Nat.reduceLeDiff, Nat.zero_add, and_self, and_true, slAll]
        refine WDP_set (j := 2) (b := dBlk (x.bytes.map byteAV) false false) (by rw [hby]; exact reflay_spec H.rlay4 (into_data rfl rfl) l4 60 (by omega) x.e) rfl rfl (hg2 _ _) (.inr (by simp)) ?_
        have lbm : (x.bytes.map byteAV).length = 64 := by simp [lby]
        simp (disch := first | (simp only [DS, reduceCtorEq]; done) | omega) only [WS, St.guard, St.put, evalO, reduceCtorEq, reduceIte, Nat.reduceAdd, Nat.reduceEqDiff, px_load_l, List.getElem?_cons_zero, List.getElem?_cons_succ, Option.join_some, loadB_all lbm]
        rw [store_all (j := 1) rfl (by simp [zs64_len]) lbm bytes_lfs]
        simp (disch := first | (simp only [DS, reduceCtorEq]; done) | omega) only [WS, St.guard, St.put, evalO, reduceCtorEq, reduceIte, Nat.reduceAdd, Nat.reduceEqDiff]
        simp only [fin, resVals, resVal, px_load_l, List.getElem?_cons_zero, List.getElem?_cons_succ, Option.join_some, loadB_all lbm, LS, reduceCtorEq, reduceIte, Nat.reduceAdd, packA]
        rw [hlaid, leave_lf (by simp [AV.lf, AV.lf.lfs, bytes_lfs])]
        simp
    · simp (disch := first | (simp only [DS, reduceCtorEq]; done) | omega) only [hf, hl, WS, St.guard, St.put, evalO, reduceCtorEq, reduceIte, Nat.reduceAdd, Nat.reduceEqDiff, px_load_l, loadB_s, List.getElem?_cons_zero, List.getElem?_cons_succ, Option.join_some, List.drop_zero, List.drop_succ_cons, List.take_succ_cons, List.take_zero, whole, List.length_cons, List.length_nil, Nat.reduceAdd, Nat.reduceLeDiff, Nat.zero_add, and_self, and_true, px_indexArr, natOf_int, Int.reduceLE, Int.reduceToNat, Option.bind_some, Nat.reduceLT, Nat.reduceMul, Nat.reduceAdd, Nat.zero_add, Nat.mul_one, Nat.reduceLeDiff, and_self, and_true, loadB_byte l2, z8, byteAV_u8, k1, k2, vBin_add_u8]
      rw [store_byte (j := 2) rfl l2 (by omega), show (0 : UInt8) + 2 = x.flags by rw [flx]; rfl]
      simp (disch := first | (simp only [DS, reduceCtorEq]; done) | omega) only [hl, WS, St.guard, St.put, evalO, reduceCtorEq, reduceIte, Nat.reduceAdd, Nat.reduceEqDiff, px_load_l, loadB_s, List.getElem?_cons_zero, List.getElem?_cons_succ, Option.join_some, List.drop_zero, List.drop_succ_cons, List.take_succ_cons, List.take_zero, whole, List.length_cons, List.length_nil, Nat.reduceAdd, Nat.reduceLeDiff, Nat.zero_add, and_self, and_true, (w _).lenSlice, px_indexArr, natOf_int, Int.reduceLE, Int.reduceToNat, Option.bind_some, Nat.reduceLT, Nat.reduceMul, Nat.reduceAdd, Nat.zero_add, Nat.mul_one, Nat.reduceLeDiff, and_self, and_true]
      rw [store_byte (j := 2) rfl (l8 x.flags) (by omega), ← hb3]
      simp (disch := first | (simp only [DS, reduceCtorEq]; done) | omega) only [WS, St.guard, St.put, evalO, reduceCtorEq, reduceIte, Nat.reduceAdd, Nat.reduceEqDiff, px_load_l, loadB_s, List.getElem?_cons_zero, List.getElem?_cons_succ, Option.join_some, List.drop_zero, List.drop_succ_cons, List.take_succ_cons, List.take_zero, whole, List.length_cons, List.length_nil, Nat.reduceAdd, Nat.reduceLeDiff, Nat.zero_add, and_self, and_true]
      refine WC_count (fun j => ⟨f_ref04_Lay_H0 (.ptr (.l 0) 5 0) (.ptr (.l 1) 64 0) (.ptr (.l 2) 64 0) (.v (.int .i64 (j : Nat))), ⟨G, [some (sBlk (x.cells a) (AV.lf.lfs (x.cells a))), some (dBlk (zs64.map byteAV) false false), some (dBlk ((blit b3 10 (x.d.take j)).map byteAV) false false)]⟩⟩) x.d.length ?_ (fun j hj => ?_) ?_
      · simp only [clear_nil, List.foldl_cons, List.foldl_nil, Option.some.injEq, LS, reduceCtorEq, reduceIte, Nat.reduceAdd, List.take_zero, blit_nil, LeafD.cells, hf, hl]; rfl
      · have hlt' : (j : Int) < (x.d.length : Int) := by omega
        have hx : (x.d.map byteAV)[j]? = some (byteAV x.d[j]) := by simp [hj]
        have e10 : (10 : Int) + (j : Int) = ((10 + j : Nat) : Int) := by omega
        have lbj : (blit b3 10 (x.d.take j)).length = 64 := by rw [blit_len (by rw [List.length_take]; omega), l3]
        simp (disch := first | (simp only [DS, reduceCtorEq]; done) | omega) only [f_ref04_Lay_L0, f_ref04_Lay_H0, LeafD.cells, WS, St.guard, St.put, evalO, reduceCtorEq, reduceIte, Nat.reduceAdd, Nat.reduceEqDiff, px_load_l, loadB_s, List.getElem?_cons_zero, List.getElem?_cons_succ, Option.join_some, List.drop_zero, List.drop_succ_cons, List.take_succ_cons, List.take_zero, whole, List.length_cons, List.length_nil, Nat.reduceAdd, Nat.reduceLeDiff, Nat.zero_add, and_self, and_true, hlt', decide_true, (w _).lenSlice, (w _).index hj, (w _).load1 hx, vBin_add_i64, e10, indexArr_at, byteAV_u8]
        rw [store_byte (j := 2) rfl lbj (by omega), blit_set hj (by omega)]
        simp (disch := first | (simp only [DS, reduceCtorEq]; done) | omega) only [WS, St.guard, St.put, evalO, reduceCtorEq, reduceIte, Nat.reduceAdd, Nat.reduceEqDiff, vBin_add_i64, clear_nil, List.foldl_cons, List.foldl_nil, Option.some.injEq]
        rfl
      · simp (disch := first | (simp only [DS, reduceCtorEq]; done) | omega) only [f_ref04_Lay_L0, f_ref04_Lay_H0, LeafD.cells, WS, St.guard, St.put, evalO, reduceCtorEq, reduceIte, Nat.reduceAdd, Nat.reduceEqDiff, px_load_l, loadB_s, List.getElem?_cons_zero, List.getElem?_cons_succ, Option.join_some, List.drop_zero, List.drop_succ_cons, List.take_succ_cons, List.take_zero, whole, List.length_cons, List.length_nil, Nat.reduceAdd, Nat.reduceLeDiff, Nat.zero_add, and_self, and_true, (w _).lenSlice, decide_false, List.take_length, ← hbd, slAll, sl56]
        have pv : View ⟨G, [some (sBlk (x.cells a) (AV.lf.lfs (x.cells a))), some (dBlk (zs64.map byteAV) false false), some (dBlk (x.body.map byteAV) false false)]⟩ (.own (.l 2) 64 0 56 1 (some 64)) 1 ((x.body.drop 0).take 56).length (((x.body.drop 0).take 56).map byteAV) := by
          have := piece_view (G := G) (L := [some (sBlk (x.cells a) (AV.lf.lfs (x.cells a))), some (dBlk (zs64.map byteAV) false false), some (dBlk (x.body.map byteAV) false false)]) (ℓ := .l 2) (off := 0) (len := 56) (cap := some 64) rfl hbl (by omega) (by simp)
          rwa [show ((x.body.drop 0).take 56).length = 56 by simp [hbl]]
        refine WDP_r (r := .v (u32 (crcMore 0#32 (x.body.take 56)))) (fun X _ => RefSum_spec H.rmore H.rsum (pv.into bytes_lfs) (by simp [hbl])) rfl (hg2 _ _) ?_
        simp (disch := first | (simp only [DS, reduceCtorEq]; done) | omega) only [WS, St.guard, St.put, evalO, reduceCtorEq, reduceIte, Nat.reduceAdd, Nat.reduceEqDiff]
        refine WDP_set (j := 2) (b := dBlk (b4.map byteAV) false false) (by rw [hb4]; exact reflay_spec H.rlay4 (into_data rfl rfl) hbl 56 (by omega) _) rfl rfl (hg2 _ _) (.inr (by simp)) ?_
        simp (disch := first | (simp only [DS, reduceCtorEq]; done) | omega) only [WS, St.guard, St.put, evalO, reduceCtorEq, reduceIte, Nat.reduceAdd, Nat.reduceEqDiff, px_load_l, loadB_s, List.getElem?_cons_zero, List.getElem?_cons_succ, Option.join_some, List.drop_zero, List.drop_succ_cons, List.take_succ_cons, List.take_zero, whole, List.length_cons, List.length_nil, Nat.reduceAdd, Nat.reduceLeDiff, Nat.zero_add, and_self, and_true, slAll]
        refine WDP_set (j := 2) (b := dBlk (x.bytes.map byteAV) false false) (by rw [hby]; exact reflay_spec H.rlay4 (into_data rfl rfl) l4 60 (by omega) x.e) rfl rfl (hg2 _ _) (.inr (by simp)) ?_
        have lbm : (x.bytes.map byteAV).length = 64 := by simp [lby]
        simp (disch := first | (simp only [DS, reduceCtorEq]; done) | omega) only [WS, St.guard, St.put, evalO, reduceCtorEq, reduceIte, Nat.reduceAdd, Nat.reduceEqDiff, px_load_l, List.getElem?_cons_zero, List.getElem?_cons_succ, Option.join_some, loadB_all lbm]
        rw [store_all (j := 1) rfl (by simp [zs64_len]) lbm bytes_lfs]
        simp (disch := first | (simp only [DS, reduceCtorEq]; done) | omega) only [WS, St.guard, St.put, evalO, reduceCtorEq, reduceIte, Nat.reduceAdd, Nat.reduceEqDiff]
        simp only [fin, resVals, resVal, px_load_l, List.getElem?_cons_zero, List.getElem?_cons_succ, Option.join_some, loadB_all lbm, LS, reduceCtorEq, reduceIte, Nat.reduceAdd, packA]
        rw [hlaid, leave_lf (by simp [AV.lf, AV.lf.lfs, bytes_lfs])]
        simp
    · rw [s0, show (0 : UInt8) = x.flags by rw [flx]; rfl]
      simp (disch := first | (simp only [DS, reduceCtorEq]; done) | omega) only [hf, hl, WS, St.guard, St.put, evalO, reduceCtorEq, reduceIte, Nat.reduceAdd, Nat.reduceEqDiff, px_load_l, loadB_s, List.getElem?_cons_zero, List.getElem?_cons_succ, Option.join_some, List.drop_zero, List.drop_succ_cons, List.take_succ_cons, List.take_zero, whole, List.length_cons, List.length_nil, Nat.reduceAdd, Nat.reduceLeDiff, Nat.zero_add, and_self, and_true, (w _).lenSlice, px_indexArr, natOf_int, Int.reduceLE, Int.reduceToNat, Option.bind_some, Nat.reduceLT, Nat.reduceMul, Nat.reduceAdd, Nat.zero_add, Nat.mul_one, Nat.reduceLeDiff, and_self, and_true]
      rw [store_byte (j := 2) rfl (l8 x.flags) (by omega), ← hb3]
      simp (disch := first | (simp only [DS, reduceCtorEq]; done) | omega) only [WS, St.guard, St.put, evalO, reduceCtorEq, reduceIte, Nat.reduceAdd, Nat.reduceEqDiff, px_load_l, loadB_s, List.getElem?_cons_zero, List.getElem?_cons_succ, Option.join_some, List.drop_zero, List.drop_succ_cons, List.take_succ_cons, List.take_zero, whole, List.length_cons, List.length_nil, Nat.reduceAdd, Nat.reduceLeDiff, Nat.zero_add, and_self, and_true]
      refine WC_count (fun j => ⟨f_ref04_Lay_H0 (.ptr (.l 0) 5 0) (.ptr (.l 1) 64 0) (.ptr (.l 2) 64 0) (.v (.int .i64 (j : Nat))), ⟨G, [some (sBlk (x.cells a) (AV.lf.lfs (x.cells a))), some (dBlk (zs64.map byteAV) false false), some (dBlk ((blit b3 10 (x.d.take j)).map byteAV) false false)]⟩⟩) x.d.length ?_ (fun j hj => ?_) ?_
      · simp only [clear_nil, List.foldl_cons, List.foldl_nil, Option.some.injEq, LS, reduceCtorEq, reduceIte, Nat.reduceAdd, List.take_zero, blit_nil, LeafD.cells, hf, hl]; rfl
      · have hlt' : (j : Int) < (x.d.length : Int) := by omega
        have hx : (x.d.map byteAV)[j]? = some (byteAV x.d[j]) := by simp [hj]
        have e10 : (10 : Int) + (j : Int) = ((10 + j : Nat) : Int) := by omega
        have lbj : (blit b3 10 (x.d.take j)).length = 64 := by rw [blit_len (by rw [List.length_take]; omega), l3]
        simp (disch := first | (simp only [DS, reduceCtorEq]; done) | omega) only [f_ref04_Lay_L0, f_ref04_Lay_H0, LeafD.cells, WS, St.guard, St.put, evalO, reduceCtorEq, reduceIte, Nat.reduceAdd, Nat.reduceEqDiff, px_load_l, loadB_s, List.getElem?_cons_zero, List.getElem?_cons_succ, Option.join_some, List.drop_zero, List.drop_succ_cons, List.take_succ_cons, List.take_zero, whole, List.length_cons, List.length_nil, Nat.reduceAdd, Nat.reduceLeDiff, Nat.zero_add, and_self, and_true, hlt', decide_true, (w _).lenSlice, (w _).index hj, (w _).load1 hx, vBin_add_i64, e10, indexArr_at, byteAV_u8]
        rw [store_byte (j := 2) rfl lbj (by omega), blit_set hj (by omega)]
        simp (disch := first | (simp only [DS, reduceCtorEq]; done) | omega) only [WS, St.guard, St.put, evalO, reduceCtorEq, reduceIte, Nat.reduceAdd, Nat.reduceEqDiff, vBin_add_i64, clear_nil, List.foldl_cons, List.foldl_nil, Option.some.injEq]
        rfl
      · simp (disch := first | (simp only [DS, reduceCtorEq]; done) | omega) only [f_ref04_Lay_L0, f_ref04_Lay_H0, LeafD.cells, WS, St.guard, St.put, evalO, reduceCtorEq, reduceIte, Nat.reduceAdd, Nat.reduceEqDiff, px_load_l, loadB_s, List.getElem?_cons_zero, List.getElem?_cons_succ, Option.join_some, List.drop_zero, List.drop_succ_cons, List.take_succ_cons, List.take_zero, whole, List.length_cons, List.length_nil, Nat.reduceAdd, Nat.reduceLeDiff, Nat.zero_add, and_self, and_true, (w _).lenSlice, decide_false, List.take_length, ← hbd, slAll, sl56]
        have pv : View ⟨G, [some (sBlk (x.cells a) (AV.lf.lfs (x.cells a))), some (dBlk (zs64.map byteAV) false false), some (dBlk (x.body.map byteAV) false false)]⟩ (.own (.l 2) 64 0 56 1 (some 64)) 1 ((x.body.drop 0).take 56).length (((x.body.drop 0).take 56).map byteAV) := by
          have := piece_view (G := G) (L := [some (sBlk (x.cells a) (AV.lf.lfs (x.cells a))), some (dBlk (zs64.map byteAV) false false), some (dBlk (x.body.map byteAV) false false)]) (ℓ := .l 2) (off := 0) (len := 56) (cap := some 64) rfl hbl (by omega) (by simp)
          rwa [show ((x.body.drop 0).take 56).length = 56 by simp [hbl]]
        refine WDP_r (r := .v (u32 (crcMore 0#32 (x.body.take 56)))) (fun X _ => RefSum_spec H.rmore H.rsum (pv.into bytes_lfs) (by simp [hbl])) rfl (hg2 _ _) ?_
        simp (disch := first | (simp only [DS, reduceCtorEq]; done) | omega) only [WS, St.guard, St.put, evalO, reduceCtorEq, reduceIte, Nat.reduceAdd, Nat.reduceEqDiff]
        refine WDP_set (j := 2) (b := dBlk (b4.map byteAV) false false) (by rw [hb4]; exact reflay_spec H.rlay4 (into_data rfl rfl) hbl 56 (by omega) _) rfl rfl (hg2 _ _) (.inr (by simp)) ?_
        simp (disch := first | (simp only [DS, reduceCtorEq]; done) | omega) only [WS, St.guard, St.put, evalO, reduceCtorEq, reduceIte, Nat.reduceAdd, Nat.reduceEqDiff, px_load_l, loadB_s, List.getElem?_cons_zero, List.getElem?_cons_succ, Option.join_some, List.drop_zero, List.drop_succ_cons, List.take_succ_cons, List.take_zero, whole, List.length_cons, List.length_nil, Nat.reduceAdd, Nat.reduceLeDiff, Nat.zero_add, and_self, and_true, slAll]
        refine WDP_set (j := 2) (b := dBlk (x.bytes.map byteAV) false false) (by rw [hby]; exact reflay_spec H.rlay4 (into_data rfl rfl) l4 60 (by omega) x.e) rfl rfl (hg2 _ _) (.inr (by simp)) ?_
        have lbm : (x.bytes.map byteAV).length = 64 := by simp [lby]
        simp (disch := first | (simp only [DS, reduceCtorEq]; done) | omega) only [WS, St.guard, St.put, evalO, reduceCtorEq, reduceIte, Nat.reduceAdd, Nat.reduceEqDiff, px_load_l, List.getElem?_cons_zero, List.getElem?_cons_succ, Option.join_some, loadB_all lbm]
        rw [store_all (j := 1) rfl (by simp [zs64_len]) lbm bytes_lfs]
        simp (disch := first | (simp only [DS, reduceCtorEq]; done) | omega) only [WS, St.guard, St.put, evalO, reduceCtorEq, reduceIte, Nat.reduceAdd, Nat.reduceEqDiff]
        simp only [fin, resVals, resVal, px_load_l, List.getElem?_cons_zero, List.getElem?_cons_succ, Option.join_some, loadB_all lbm, LS, reduceCtorEq, reduceIte, Nat.reduceAdd, packA]
        rw [hlaid, leave_lf (by simp [AV.lf, AV.lf.lfs, bytes_lfs])]
        simp
end Go.AM
