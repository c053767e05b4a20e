import Derived.Test.YtlcbfbopnegmnaaPackC
import Derived.Test.YtlcbfbopnegmnaaLawPackB
import Derived.Test.YtlcbfbopnegmnaaLawPack
set_option linter.unusedVariables false
set_option linter.unusedSimpArgs false
namespace Go.AM
variable {prog : String → Option IFn}
theorem numB_lastlt : ∀ (n : Nat) {v : Nat}, v ≤ n → ((numB v).getD ((numB v).length - 1) 0).toNat < 128
  | n, v, h => by
    by_cases hv : v < 128
    · rw [numB_small hv]
      simp only [List.length_singleton, Nat.sub_self, List.getD_cons_zero, small_byte hv]
      exact hv
    · cases n with
      | zero => omega
      | succ n =>
        rw [numB_big hv]
        have hp := numB_pos (v := v / 128)
        simp only [List.length_cons, Nat.add_sub_cancel]
        obtain ⟨m, hm⟩ : ∃ m, (numB (v / 128)).length = m + 1 := ⟨(numB (v / 128)).length - 1, by omega⟩
        rw [hm, List.getD_cons_succ]
        have := numB_lastlt n (v := v / 128) (by omega)
        rw [hm] at this
        exact this
def numF (v : Nat) : Txt := (numB v).set ((numB v).length - 1) ((numB v).getD ((numB v).length - 1) 0 + 128)
theorem numF_len {v : Nat} : (numF v).length = (numB v).length := by simp [numF]
theorem numF_goOn {v : Nat} : goOn (numF v) := by
  have hp := numB_pos (v := v)
  have hl := numB_lastlt v (Nat.le_refl v)
  intro c hc
  unfold numF at hc
  rw [List.set_eq_take_append_cons_drop, if_pos (by omega)] at hc
  rcases List.mem_append.1 hc with hc | hc
  · exact numB_goOn v (Nat.le_refl v) (by omega) c hc
  · rw [List.drop_of_length_le (by omega)] at hc
    rcases List.mem_cons.1 hc with rfl | hc
    · generalize (numB v).getD ((numB v).length - 1) 0 = x at *
      rw [UInt8.toNat_add]
      have : (128 : UInt8).toNat = 128 := rfl
      omega
    · simp at hc
theorem goOn_app {xs ys : Txt} (h1 : goOn xs) (h2 : goOn ys) : goOn (xs ++ ys) := fun c hc => (List.mem_append.1 hc).elim (h1 c) (h2 c)
theorem u0 : Value.int .u8 0 = u8 0 := rfl
set_option maxHeartbeats 4000000 in
theorem PackForms_law (H : Law4 prog) (hp : prog "haberdash/haberdashlaw04.PackForms" = some f_law04_PackForms) {as} (h : IsAll [.int .i64, .int .i64, .int .i64, .int .i64] as) :
    ∃ G2, Ev prog (.call "haberdash/haberdashlaw04.PackForms" as []) (.ret (.v (.bool true)) G2) := by
  rcases as with _ | ⟨a0, _ | ⟨a1, _ | ⟨a2, _ | ⟨a3, _ | _⟩⟩⟩⟩ <;> try (simp [IsAll] at h; done)
  obtain ⟨⟨c0', h0, rfl⟩, ⟨c1', h1, rfl⟩, ⟨c2', h2, rfl⟩, ⟨c3', h3, rfl⟩, _⟩ := h
  obtain ⟨n0, rfl, hn⟩ := is_i64 h0
  obtain ⟨no, rfl, hno⟩ := is_i64 h1
  obtain ⟨least, rfl, hle⟩ := is_i64 h2
  obtain ⟨most, rfl, hmo⟩ := is_i64 h3
  have hroom : room = 140737488355328 := rfl
  have L := H.toPackLib
  unfold I64 at hn hle hmo
  have h12 := umod_lt (c := no) (n := 12) (by omega)
  refine ⟨[], call_of_fin hp ?_⟩
  simp only [f_law04_PackForms_B, enter, List.length_cons, List.length_nil, List.replicate, Nat.reduceAdd, Nat.reduceSub, List.cons_append, List.nil_append, Ty.arg, intAV]
  simp (disch := first | (simp only [ne_eq, reduceCtorEq, not_false_eq_true, implies_true, List.getElem?_cons_zero, List.getElem?_cons_succ]; done) | omega) only [WS, St.guard, St.put, evalO, reduceCtorEq, reduceIte, Nat.reduceAdd, Nat.reduceEqDiff, new_s, virtBlk_eq, box_s, box_vs, box_vi, box_vb, px_load_l, px_load_o, loadB_s, storeX, storeB_s, alloc_s, lay, whole, Option.join_some, List.drop_zero, List.drop_succ_cons, List.take_succ_cons, List.take_zero, List.drop_nil, List.nil_append, List.cons_append, Nat.reduceLeDiff, Nat.zero_add, and_self, and_true, cells_int, cells_bool, cells_str, cells_string, cells_agg, cells_own, cells_ro, cells_ptr, cells_nil, AV.lf.lfs, AV.lf, px_build, fills, build_string, build_str, build_int, WDR_some, Nat.reduceLeDiff, Nat.le_refl, Bool.and_self, maxs, max0]
  rw [vRem_u64_lit (z := 12) 12 rfl (by omega)]
  simp (disch := first | (simp only [ne_eq, reduceCtorEq, not_false_eq_true, implies_true, List.getElem?_cons_zero, List.getElem?_cons_succ]; done) | omega) only [WS, St.guard, St.put, evalO, reduceCtorEq, reduceIte, Nat.reduceAdd, Nat.reduceEqDiff, new_s, virtBlk_eq, box_s, box_vs, box_vi, box_vb, px_load_l, px_load_o, loadB_s, storeX, storeB_s, alloc_s, lay, whole, Option.join_some, List.drop_zero, List.drop_succ_cons, List.take_succ_cons, List.take_zero, List.drop_nil, List.nil_append, List.cons_append, Nat.reduceLeDiff, Nat.zero_add, and_self, and_true, cells_int, cells_bool, cells_str, cells_string, cells_agg, cells_own, cells_ro, cells_ptr, cells_nil, AV.lf.lfs, AV.lf, px_build, fills, build_string, build_str, build_int, WDR_some, Nat.reduceLeDiff, Nat.le_refl, Bool.and_self, wrap_i64_nat]
  have hv : n0.toNat < 2 ^ 63 := by omega
  have hl9 := numB_len9 hv
  have hp0 := numB_pos (v := n0.toNat)
  generalize n0.toNat = n at *
  generalize umod no 12 = m at *
  refine WP_news (by exact refNum_spec L.rnum (v := (n : Int)) (by omega)) (data1 dBlk_l) rfl (by decide) rfl (by exact trivial) (by exact ren_own1) ?_
  have e1 : ((numB n).length : Int) - 1 = (((numB n).length - 1 : Nat) : Int) := by omega
  have va : View ⟨[], [some (dBlk ((numB n).map byteAV) true false), none, none, none, none, none, none, none, none, none]⟩ (.own (.l 0) (numB n).length 0 (numB n).length 1 none) 1 (numB n).length ((numB n).map byteAV) := own_view1 (j := 0) rfl (by simp) (by simp)
  have ld := va.load1 (i := (numB n).length - 1) (x := byteAV ((numB n).getD ((numB n).length - 1) 0)) (by
    rw [List.getElem?_map, List.getD_eq_getElem?_getD, List.getElem?_eq_getElem (by omega)]; rfl)
  simp (disch := first | (simp only [ne_eq, reduceCtorEq, not_false_eq_true, implies_true, List.getElem?_cons_zero, List.getElem?_cons_succ]; done) | omega) only [WS, St.guard, St.put, evalO, reduceCtorEq, reduceIte, Nat.reduceAdd, Nat.reduceEqDiff, putAll, Int.toNat_natCast, vBin_sub_i64, e1, va.lenSlice, va.index, ld, byteAV_u8, u128, addU8]
  have st : prim ⟨[], [some (dBlk ((numB n).map byteAV) true false), none, none, none, none, none, none, none, none, none]⟩ (.store 1 false) [elemPtr (.own (.l 0) (numB n).length 0 (numB n).length 1 none) 1 ((numB n).length - 1), .v (u8 ((numB n).getD ((numB n).length - 1) 0 + 128))] =
      some (.v undef, ⟨[], [some (dBlk ((numF n).map byteAV) true false), none, none, none, none, none, none, none, none, none]⟩) := by
    have := store_byte (G := []) (L := [some (dBlk ((numB n).map byteAV) true false), none, none, none, none, none, none, none, none, none]) (j := 0) (n := (numB n).length) (off := (numB n).length - 1) (b := (numB n).getD ((numB n).length - 1) 0 + 128) (o := true) (v := false) rfl rfl (by omega)
    simp only [elemPtr, Nat.zero_add, Nat.mul_one]
    exact this
  refine (WR_eq st).2 ?_
  simp (disch := first | (simp only [ne_eq, reduceCtorEq, not_false_eq_true, implies_true, List.getElem?_cons_zero, List.getElem?_cons_succ]; done) | omega) only [WS, St.guard, St.put, evalO, reduceCtorEq, reduceIte, Nat.reduceAdd, Nat.reduceEqDiff]
  have hF : (numF n).length ≤ 9 := by rw [numF_len]; exact hl9
  rw [← numF_len]
  have gF := numF_goOn (v := n)
  have hF0 : 0 < (numF n).length := by rw [numF_len]; exact hp0
  clear st ld va e1
  generalize numF n = F at *
  refine WC_count (fun i => ⟨f_law04_PackForms_H0 (.v (.int .i64 (n : Nat))) (.v (.int .i64 (m : Nat))) (.v (.int .i64 least)) (.v (.int .i64 most)) (.own (.l 0) (F ++ List.replicate i 128).length 0 (F ++ List.replicate i 128).length 1 none) (.v (.int .i64 (i : Nat))), ⟨[], [some (dBlk ((F ++ List.replicate i 128).map byteAV) true false), none, none, none, none, none, none, none, none, none]⟩⟩) m ?_ (fun i hi => ?_) ?_
  · simp only [List.replicate_zero, List.append_nil]
    exact clear_fre (by simp only [clear_nil, List.foldl_cons, List.foldl_nil, Option.some.injEq, List.map_cons, List.map_nil, List.getD_cons_zero, List.getD_cons_succ, List.set_cons_zero, List.set_cons_succ, Option.map_some, Option.bind_some, ne_eq, reduceCtorEq, not_false_eq_true, implies_true, beq_self_eq_true, BEq.rfl, if_true, if_false, Bool.false_eq_true, not_true_eq_false, Option.some.injEq, reduceIte, Bool.not_true, Bool.not_false, beq_true, beq_false, Bool.true_and, Bool.and_true, Bool.false_and, Bool.and_false, true_and, List.getElem?_cons_zero, List.getElem?_cons_succ, List.length_cons, List.length_nil, Nat.reduceAdd] <;> rfl) (by rfl) (by rfl) (by rfl)
  · have hlt' : (i : Int) < (m : Int) := by omega
    have hnext : F ++ List.replicate (i + 1) 128 = (F ++ List.replicate i 128) ++ [128] := by rw [List.append_assoc, List.replicate_succ']
    rw [hnext]
    have hlen : (F ++ List.replicate i (128 : UInt8)).length ≤ 30 := by simp; omega
    generalize F ++ List.replicate i 128 = X at *
    simp (disch := first | (simp only [ne_eq, reduceCtorEq, not_false_eq_true, implies_true, List.getElem?_cons_zero, List.getElem?_cons_succ]; done) | omega) only [f_law04_PackForms_L0, f_law04_PackForms_H0, WS, St.guard, St.put, evalO, reduceCtorEq, reduceIte, Nat.reduceAdd, Nat.reduceEqDiff, hlt', decide_true, u128, build_u8]
    refine (WR_eq (append_b (j := 0) (m := 1) (bs := X) (c := 128) (v := false) (by exact rfl) (by exact rfl) (by omega))).2 ?_
    simp (disch := first | (simp only [ne_eq, reduceCtorEq, not_false_eq_true, implies_true, List.getElem?_cons_zero, List.getElem?_cons_succ]; done) | omega) only [WS, St.guard, St.put, evalO, reduceCtorEq, reduceIte, Nat.reduceAdd, Nat.reduceEqDiff, vBin_add_i64]
    rw [List.length_append]
    exact clear_fre (by simp only [clear_nil, List.foldl_cons, List.foldl_nil, Option.some.injEq, List.map_cons, List.map_nil, List.getD_cons_zero, List.getD_cons_succ, List.set_cons_zero, List.set_cons_succ, Option.map_some, Option.bind_some, ne_eq, reduceCtorEq, not_false_eq_true, implies_true, beq_self_eq_true, BEq.rfl, if_true, if_false, Bool.false_eq_true, not_true_eq_false, Option.some.injEq, reduceIte, Bool.not_true, Bool.not_false, beq_true, beq_false, Bool.true_and, Bool.and_true, Bool.false_and, Bool.and_false, true_and, List.getElem?_cons_zero, List.getElem?_cons_succ, List.length_cons, List.length_nil, Nat.reduceAdd] <;> rfl) (by rfl) (by rfl) (by rfl)
  · have gX : goOn (F ++ List.replicate m 128) := goOn_app gF fun c hc => by rw [(List.mem_replicate.1 hc).2]; decide
    have hX : (F ++ List.replicate m (128 : UInt8)).length ≤ 30 := by simp; omega
    have hX0 : 0 < (F ++ List.replicate m (128 : UInt8)).length := by simp; omega
    generalize F ++ List.replicate m 128 = X at *
    simp (disch := first | (simp only [ne_eq, reduceCtorEq, not_false_eq_true, implies_true, List.getElem?_cons_zero, List.getElem?_cons_succ]; done) | omega) only [f_law04_PackForms_L0, f_law04_PackForms_H0, WS, St.guard, St.put, evalO, reduceCtorEq, reduceIte, Nat.reduceAdd, Nat.reduceEqDiff, decide_false, u0, build_u8]
    refine (WR_eq (append_b (j := 0) (m := 3) (bs := X) (c := 0) (v := false) (by exact rfl) (by exact rfl) (by omega))).2 ?_
    simp (disch := first | (simp only [ne_eq, reduceCtorEq, not_false_eq_true, implies_true, List.getElem?_cons_zero, List.getElem?_cons_succ]; done) | omega) only [WS, St.guard, St.put, evalO, reduceCtorEq, reduceIte, Nat.reduceAdd, Nat.reduceEqDiff]
    have hY : (X ++ [(0 : UInt8)]).length = X.length + 1 := by simp
    rw [← hY]
    have r1 : rnum ((X ++ [0]).drop 0) 0 9223372036854775807 = (0, 0, 4) := rnum_zero gX hX0
    have hYr : (X ++ [(0 : UInt8)]).length ≤ 31 := by omega
    have hY0 : 0 < (X ++ [(0 : UInt8)]).length := by omega
    clear hY
    generalize X ++ [(0 : UInt8)] = Y at *
    refine WP_of (lRead L (q := 0) (bs := Y) (cs := Y.map byteAV) rfl (own_view1 (j := 0) rfl (by simp) (by simp)) hY0 (by omega) (by decide) rfl rfl (by unfold Good; dsimp only; repeat (first | exact trivial | rw [goodN] | refine ⟨dBlk_good, ?_⟩ | refine goodD (by assumption) ?_ | refine ⟨sBlk_good (by first | rfl | assumption | (simp [AV.labs.labss, AV.labs, refLt]; done)), ?_⟩))) ?_
    simp (disch := first | (simp only [ne_eq, reduceCtorEq, not_false_eq_true, implies_true, List.getElem?_cons_zero, List.getElem?_cons_succ]; done) | omega) only [WS, St.guard, St.put, evalO, reduceCtorEq, reduceIte, Nat.reduceAdd, Nat.reduceEqDiff]
    refine WP_news (by exact refNum_spec L.rnum (v := (n : Int)) (by omega)) (data1 dBlk_l) rfl (by decide) rfl (by unfold rdL; exact (by unfold Good; dsimp only; repeat (first | exact trivial | rw [goodN] | refine ⟨dBlk_good, ?_⟩ | refine goodD (by assumption) ?_ | refine ⟨sBlk_good (by first | rfl | assumption | (simp [AV.labs.labss, AV.labs, refLt]; done)), ?_⟩))) (by exact ren_own1) ?_
    simp (disch := first | (simp only [ne_eq, reduceCtorEq, not_false_eq_true, implies_true, List.getElem?_cons_zero, List.getElem?_cons_succ]; done) | omega) only [WS, St.guard, St.put, evalO, reduceCtorEq, reduceIte, Nat.reduceAdd, Nat.reduceEqDiff, putAll, Int.toNat_natCast]
    refine WP_of (lRead L (q := 7) (bs := numB n) (cs := (numB n).map byteAV) rfl (own_view1 (j := 7) rfl (by simp) (by simp)) hp0 (by omega) (by decide) rfl rfl (by unfold rdL; exact (by unfold Good; dsimp only; repeat (first | exact trivial | rw [goodN] | refine ⟨dBlk_good, ?_⟩ | refine goodD (by assumption) ?_ | refine ⟨sBlk_good (by first | rfl | assumption | (simp [AV.labs.labss, AV.labs, refLt]; done)), ?_⟩)))) ?_
    simp (disch := first | (simp only [ne_eq, reduceCtorEq, not_false_eq_true, implies_true, List.getElem?_cons_zero, List.getElem?_cons_succ]; done) | omega) only [WS, St.guard, St.put, evalO, reduceCtorEq, reduceIte, Nat.reduceAdd, Nat.reduceEqDiff]
    refine (WP_p (x := .bool true) (by exact awake4 H (.inr (.inr (.inr rfl)))) (by unfold rdL; exact (by unfold Good; dsimp only; repeat (first | exact trivial | rw [goodN] | refine ⟨dBlk_good, ?_⟩ | refine goodD (by assumption) ?_ | refine ⟨sBlk_good (by first | rfl | assumption | (simp [AV.labs.labss, AV.labs, refLt]; done)), ?_⟩)))).2 ?_
    simp (disch := first | (simp only [ne_eq, reduceCtorEq, not_false_eq_true, implies_true, List.getElem?_cons_zero, List.getElem?_cons_succ]; done) | omega) only [WS, St.guard, St.put, evalO, reduceCtorEq, reduceIte, Nat.reduceAdd, Nat.reduceEqDiff, isNilV, Hp.isNil]
    have s1 := lNum L (least := 0) (most := 9223372036854775807) (i := 5) (j := 6) (bs := Y) (k := 0) (c := none) (G := []) (L := [some (dBlk (Y.map byteAV) true false), none, none, some (dBlk [.v (u8 0)] false false), none, some (dBlk (Y.map byteAV) true false), rdL 5 Y.length 0 none 0, some (dBlk ((numB n).map byteAV) true false), some (dBlk ((numB n).map byteAV) true false), rdL 8 (numB n).length 0 none 0]) (by unfold rdL; exact (by unfold Good; dsimp only; repeat (first | exact trivial | rw [goodN] | refine ⟨dBlk_good, ?_⟩ | refine goodD (by assumption) ?_ | refine ⟨sBlk_good (by first | rfl | assumption | (simp [AV.labs.labss, AV.labs, refLt]; done)), ?_⟩))) ⟨⟨_, _, rfl⟩, rfl, by decide, by omega, by simp, by omega⟩
    rw [r1] at s1
    refine WP_of s1 ?_
    simp (disch := first | (simp only [ne_eq, reduceCtorEq, not_false_eq_true, implies_true, List.getElem?_cons_zero, List.getElem?_cons_succ]; done) | omega) only [WS, St.guard, St.put, evalO, reduceCtorEq, reduceIte, Nat.reduceAdd, Nat.reduceEqDiff]
    have s2 := fun e => lNum L (least := least) (most := most) (i := 8) (j := 9) (bs := numB n) (k := 0) (c := none) (G := []) (L := [some (dBlk (Y.map byteAV) true false), none, none, some (dBlk [.v (u8 0)] false false), none, some (dBlk (Y.map byteAV) true false), rdL 5 Y.length 0 none e, some (dBlk ((numB n).map byteAV) true false), some (dBlk ((numB n).map byteAV) true false), rdL 8 (numB n).length 0 none 0]) (by unfold rdL; exact (by unfold Good; dsimp only; repeat (first | exact trivial | rw [goodN] | refine ⟨dBlk_good, ?_⟩ | refine goodD (by assumption) ?_ | refine ⟨sBlk_good (by first | rfl | assumption | (simp [AV.labs.labss, AV.labs, refLt]; done)), ?_⟩))) ⟨⟨_, _, rfl⟩, rfl, by decide, by omega, by simp, by omega⟩
    have s3 := fun k e => lErr L (e := 4) (i := 5) (j := 6) (bs := Y) (k := 0) (c := none) (G := []) (L := [some (dBlk (Y.map byteAV) true false), none, none, some (dBlk [.v (u8 0)] false false), none, some (dBlk (Y.map byteAV) true false), rdL 5 Y.length 0 none 4, some (dBlk ((numB n).map byteAV) true false), some (dBlk ((numB n).map byteAV) true false), rdL 8 (numB n).length k none e]) (by unfold rdL; exact (by unfold Good; dsimp only; repeat (first | exact trivial | rw [goodN] | refine ⟨dBlk_good, ?_⟩ | refine goodD (by assumption) ?_ | refine ⟨sBlk_good (by first | rfl | assumption | (simp [AV.labs.labss, AV.labs, refLt]; done)), ?_⟩))) ⟨⟨_, _, rfl⟩, rfl, by decide, by omega, by simp, by omega⟩
    have s4 := fun k (hk : k ≤ (numB n).length) e => lErr L (e := e) (i := 8) (j := 9) (bs := numB n) (k := k) (c := none) (G := []) (L := [some (dBlk (Y.map byteAV) true false), none, none, some (dBlk [.v (u8 0)] false false), none, some (dBlk (Y.map byteAV) true false), rdL 5 Y.length 0 none 4, some (dBlk ((numB n).map byteAV) true false), some (dBlk ((numB n).map byteAV) true false), rdL 8 (numB n).length k none e]) (by unfold rdL; exact (by unfold Good; dsimp only; repeat (first | exact trivial | rw [goodN] | refine ⟨dBlk_good, ?_⟩ | refine goodD (by assumption) ?_ | refine ⟨sBlk_good (by first | rfl | assumption | (simp [AV.labs.labss, AV.labs, refLt]; done)), ?_⟩))) ⟨⟨_, _, rfl⟩, rfl, by decide, hk, by simp, by omega⟩
    have r2 := rnum_numB (r := []) (least := least) (most := most) hv
    rw [List.append_nil] at r2
    rw [List.drop_zero, r2] at s2
    by_cases hin : (n : Int) < least ∨ most < (n : Int)
    · rw [if_pos hin] at s2
      refine WP_of (s2 _) ?_
      simp (disch := first | (simp only [ne_eq, reduceCtorEq, not_false_eq_true, implies_true, List.getElem?_cons_zero, List.getElem?_cons_succ]; done) | omega) only [WS, St.guard, St.put, evalO, reduceCtorEq, reduceIte, Nat.reduceAdd, Nat.reduceEqDiff, Option.map_none]
      by_cases h1 : (n : Int) ≥ least
      · have h2 : ¬ (n : Int) ≤ most := by omega
        simp (disch := first | (simp only [ne_eq, reduceCtorEq, not_false_eq_true, implies_true, List.getElem?_cons_zero, List.getElem?_cons_succ]; done) | omega) only [WS, St.guard, St.put, evalO, reduceCtorEq, reduceIte, Nat.reduceAdd, Nat.reduceEqDiff, h1, h2, decide_true, decide_false, Int.reduceBEq]
        refine WP_of (s3 0 4) ?_
        simp (disch := first | (simp only [ne_eq, reduceCtorEq, not_false_eq_true, implies_true, List.getElem?_cons_zero, List.getElem?_cons_succ]; done) | omega) only [WS, St.guard, St.put, evalO, reduceCtorEq, reduceIte, Nat.reduceAdd, Nat.reduceEqDiff, Int.reduceBEq]
        refine WP_of (s4 0 (by omega) 4) ?_
        simp (disch := first | (simp only [ne_eq, reduceCtorEq, not_false_eq_true, implies_true, List.getElem?_cons_zero, List.getElem?_cons_succ]; done) | omega) only [WS, St.guard, St.put, evalO, reduceCtorEq, reduceIte, Nat.reduceAdd, Nat.reduceEqDiff, Int.reduceBEq]
        refine WP_of (s4 0 (by omega) 4) ?_
        simp (disch := first | (simp only [ne_eq, reduceCtorEq, not_false_eq_true, implies_true, List.getElem?_cons_zero, List.getElem?_cons_succ]; done) | omega) only [WS, St.guard, St.put, evalO, reduceCtorEq, reduceIte, Nat.reduceAdd, Nat.reduceEqDiff, Int.reduceBEq]
        cases hz : ((0 : Int) == (n : Int))
        · simp (disch := first | (simp only [ne_eq, reduceCtorEq, not_false_eq_true, implies_true, List.getElem?_cons_zero, List.getElem?_cons_succ]; done) | omega) only [WS, St.guard, St.put, evalO, reduceCtorEq, reduceIte, Nat.reduceAdd, Nat.reduceEqDiff, Int.reduceBEq, fin_tmp, leave_v]
          simp
        · simp (disch := first | (simp only [ne_eq, reduceCtorEq, not_false_eq_true, implies_true, List.getElem?_cons_zero, List.getElem?_cons_succ]; done) | omega) only [WS, St.guard, St.put, evalO, reduceCtorEq, reduceIte, Nat.reduceAdd, Nat.reduceEqDiff, Int.reduceBEq, fin_tmp, leave_v]
          simp
      · simp (disch := first | (simp only [ne_eq, reduceCtorEq, not_false_eq_true, implies_true, List.getElem?_cons_zero, List.getElem?_cons_succ]; done) | omega) only [WS, St.guard, St.put, evalO, reduceCtorEq, reduceIte, Nat.reduceAdd, Nat.reduceEqDiff, h1, decide_true, decide_false, Int.reduceBEq]
        refine WP_of (s3 0 4) ?_
        simp (disch := first | (simp only [ne_eq, reduceCtorEq, not_false_eq_true, implies_true, List.getElem?_cons_zero, List.getElem?_cons_succ]; done) | omega) only [WS, St.guard, St.put, evalO, reduceCtorEq, reduceIte, Nat.reduceAdd, Nat.reduceEqDiff, Int.reduceBEq]
        refine WP_of (s4 0 (by omega) 4) ?_
        simp (disch := first | (simp only [ne_eq, reduceCtorEq, not_false_eq_true, implies_true, List.getElem?_cons_zero, List.getElem?_cons_succ]; done) | omega) only [WS, St.guard, St.put, evalO, reduceCtorEq, reduceIte, Nat.reduceAdd, Nat.reduceEqDiff, Int.reduceBEq]
        refine WP_of (s4 0 (by omega) 4) ?_
        simp (disch := first | (simp only [ne_eq, reduceCtorEq, not_false_eq_true, implies_true, List.getElem?_cons_zero, List.getElem?_cons_succ]; done) | omega) only [WS, St.guard, St.put, evalO, reduceCtorEq, reduceIte, Nat.reduceAdd, Nat.reduceEqDiff, Int.reduceBEq]
        cases hz : ((0 : Int) == (n : Int))
        · simp (disch := first | (simp only [ne_eq, reduceCtorEq, not_false_eq_true, implies_true, List.getElem?_cons_zero, List.getElem?_cons_succ]; done) | omega) only [WS, St.guard, St.put, evalO, reduceCtorEq, reduceIte, Nat.reduceAdd, Nat.reduceEqDiff, Int.reduceBEq, fin_tmp, leave_v]
          simp
        · simp (disch := first | (simp only [ne_eq, reduceCtorEq, not_false_eq_true, implies_true, List.getElem?_cons_zero, List.getElem?_cons_succ]; done) | omega) only [WS, St.guard, St.put, evalO, reduceCtorEq, reduceIte, Nat.reduceAdd, Nat.reduceEqDiff, Int.reduceBEq, fin_tmp, leave_v]
          simp
    · rw [if_neg hin] at s2
      refine WP_of (s2 _) ?_
      have h1 : (n : Int) ≥ least := by omega
      have h2 : (n : Int) ≤ most := by omega
      have e0 : 0 + (numB n).length = (numB n).length := Nat.zero_add _
      simp (disch := first | (simp only [ne_eq, reduceCtorEq, not_false_eq_true, implies_true, List.getElem?_cons_zero, List.getElem?_cons_succ]; done) | omega) only [WS, St.guard, St.put, evalO, reduceCtorEq, reduceIte, Nat.reduceAdd, Nat.reduceEqDiff, Option.map_none, h1, h2, decide_true, Int.reduceBEq, e0]
      refine WP_of (s3 (numB n).length 0) ?_
      simp (disch := first | (simp only [ne_eq, reduceCtorEq, not_false_eq_true, implies_true, List.getElem?_cons_zero, List.getElem?_cons_succ]; done) | omega) only [WS, St.guard, St.put, evalO, reduceCtorEq, reduceIte, Nat.reduceAdd, Nat.reduceEqDiff, Int.reduceBEq]
      refine WP_of (s4 (numB n).length (by omega) 0) ?_
      simp (disch := first | (simp only [ne_eq, reduceCtorEq, not_false_eq_true, implies_true, List.getElem?_cons_zero, List.getElem?_cons_succ]; done) | omega) only [WS, St.guard, St.put, evalO, reduceCtorEq, reduceIte, Nat.reduceAdd, Nat.reduceEqDiff, Int.reduceBEq]
      refine WP_of (s4 (numB n).length (by omega) 0) ?_
      simp (disch := first | (simp only [ne_eq, reduceCtorEq, not_false_eq_true, implies_true, List.getElem?_cons_zero, List.getElem?_cons_succ]; done) | omega) only [WS, St.guard, St.put, evalO, reduceCtorEq, reduceIte, Nat.reduceAdd, Nat.reduceEqDiff, Int.reduceBEq, fin_tmp, leave_v]
      simp
end Go.AM
namespace Go.AM
variable {prog : String → Option IFn}
theorem own_viewT {G L} {j N k : Nat} {B : Txt} {o v : Bool} (hL : L[j]? = some (some (dBlk (B.map byteAV) o v))) (hN : B.length = N) (hk : k ≤ N) : View ⟨G, L⟩ (.own (.l j) N 0 k 1 none) 1 (B.take k).length ((B.take k).map byteAV) := by
  have hl : (B.take k).length = k := by rw [List.length_take]; omega
  rw [hl]
  refine ⟨rfl, ?_, by simp; omega, rfl, trivial, by omega⟩
  simp only [Hp.sees, Hp.get, hL, Option.join_some, dBlk_cells, List.length_map, hN, if_true, List.drop_zero, Nat.mul_one, List.map_take]
theorem endV3 {n} : endV 3 n = 3 := rfl
set_option maxHeartbeats 4000000 in
theorem PackCut_law (H : Law4 prog) (hp : prog "haberdash/haberdashlaw04.PackCut" = some f_law04_PackCut) {as} (h : IsAll [.int .i64, .str, .int .i64] as) :
    ∃ G2, Ev prog (.call "haberdash/haberdashlaw04.PackCut" as []) (.ret (.v (.bool true)) G2) := by
  rcases as with _ | ⟨a0, _ | ⟨a1, _ | ⟨a2, _ | _⟩⟩⟩ <;> try (simp [IsAll] at h; done)
  obtain ⟨⟨c0', h0, rfl⟩, ⟨c1', h1, rfl⟩, ⟨c2', h2, rfl⟩, _⟩ := h
  obtain ⟨n0, rfl, hn⟩ := is_i64 h0
  obtain ⟨s, rfl, hs⟩ := is_str h1
  obtain ⟨cut, rfl, hcut⟩ := is_i64 h2
  have hroom : room = 140737488355328 := rfl
  have L := H.toPackLib
  unfold I64 at hn hcut
  refine ⟨[], call_of_fin hp ?_⟩
  simp only [f_law04_PackCut_B, enter, List.length_cons, List.length_nil, List.replicate, Nat.reduceAdd, Nat.reduceSub, List.cons_append, List.nil_append, Ty.arg, intAV]
  simp (disch := first | (simp only [ne_eq, reduceCtorEq, not_false_eq_true, implies_true, List.getElem?_cons_zero, List.getElem?_cons_succ]; done) | omega) only [WS, St.guard, St.put, evalO, reduceCtorEq, reduceIte, Nat.reduceAdd, Nat.reduceEqDiff, new_s, virtBlk_eq, box_s, box_vs, box_vi, box_vb, px_load_l, px_load_o, loadB_s, storeX, storeB_s, alloc_s, lay, whole, Option.join_some, List.drop_zero, List.drop_succ_cons, List.take_succ_cons, List.take_zero, List.drop_nil, List.nil_append, List.cons_append, Nat.reduceLeDiff, Nat.zero_add, and_self, and_true, cells_int, cells_bool, cells_str, cells_string, cells_agg, cells_own, cells_ro, cells_ptr, cells_nil, AV.lf.lfs, AV.lf, px_build, fills, build_string, build_str, build_int, WDR_some, Nat.reduceLeDiff, Nat.le_refl, Bool.and_self, lenStr_str]
  by_cases hlong : (s.length : Int) > 200
  · simp (disch := first | (simp only [ne_eq, reduceCtorEq, not_false_eq_true, implies_true, List.getElem?_cons_zero, List.getElem?_cons_succ]; done) | omega) only [WS, St.guard, St.put, evalO, reduceCtorEq, reduceIte, Nat.reduceAdd, Nat.reduceEqDiff, hlong, decide_true]
    refine (WP_p (x := .bool true) (by exact awake4 H (.inr (.inr (.inl rfl)))) (by exact (by unfold Good; dsimp only; repeat (first | exact trivial | rw [goodN] | refine ⟨dBlk_good, ?_⟩ | refine goodD (by assumption) ?_ | refine ⟨sBlk_good (by first | rfl | assumption | (simp [AV.labs.labss, AV.labs, refLt]; done)), ?_⟩)))).2 ?_
    simp (disch := first | (simp only [ne_eq, reduceCtorEq, not_false_eq_true, implies_true, List.getElem?_cons_zero, List.getElem?_cons_succ]; done) | omega) only [WS, St.guard, St.put, evalO, reduceCtorEq, reduceIte, Nat.reduceAdd, Nat.reduceEqDiff, fin_tmp, leave_v]
    simp
  simp (disch := first | (simp only [ne_eq, reduceCtorEq, not_false_eq_true, implies_true, List.getElem?_cons_zero, List.getElem?_cons_succ]; done) | omega) only [WS, St.guard, St.put, evalO, reduceCtorEq, reduceIte, Nat.reduceAdd, Nat.reduceEqDiff, hlong, decide_false, maxs, max0]
  have hv : n0.toNat < 2 ^ 63 := by omega
  have hl9 := numB_len9 hv
  have hp0 := numB_pos (v := n0.toNat)
  have hs9 := numB_len9 (v := s.length) (by omega)
  have hsp := numB_pos (v := s.length)
  have htl : (textB s).length = (numB s.length).length + s.length := by unfold textB; rw [List.length_append]
  generalize n0.toNat = n at *
  refine WP_news (by exact refNum_spec L.rnum (v := (n : Int)) (by omega)) (data1 dBlk_l) rfl (by decide) rfl (by exact trivial) (by exact ren_own1) ?_
  simp (disch := first | (simp only [ne_eq, reduceCtorEq, not_false_eq_true, implies_true, List.getElem?_cons_zero, List.getElem?_cons_succ]; done) | omega) only [WS, St.guard, St.put, evalO, reduceCtorEq, reduceIte, Nat.reduceAdd, Nat.reduceEqDiff, putAll, Int.toNat_natCast]
  refine WP_news (by exact refText_spec L (s := s) (by omega)) (data1 dBlk_l) rfl (by decide) rfl (by exact (by unfold Good; dsimp only; repeat (first | exact trivial | rw [goodN] | refine ⟨dBlk_good, ?_⟩ | refine goodD (by assumption) ?_ | refine ⟨sBlk_good (by first | rfl | assumption | (simp [AV.labs.labss, AV.labs, refLt]; done)), ?_⟩))) (by exact ren_own1) ?_
  simp (disch := first | (simp only [ne_eq, reduceCtorEq, not_false_eq_true, implies_true, List.getElem?_cons_zero, List.getElem?_cons_succ]; done) | omega) only [WS, St.guard, St.put, evalO, reduceCtorEq, reduceIte, Nat.reduceAdd, Nat.reduceEqDiff, putAll]
  have vt : View ⟨[], [some (dBlk ((numB n).map byteAV) true false), some (dBlk ((textB s).map byteAV) true false), none, none, none, none]⟩ (.own (.l 1) (textB s).length 0 (textB s).length 1 none) 1 (textB s).length ((textB s).map byteAV) := own_view1 (j := 1) rfl (by simp) (by simp)
  have ap := append_own (site := 2) (bytes := 1) (j := 0) (esz := 1) (len := (numB n).length) (k := (textB s).length) (G := []) (L := [some (dBlk ((numB n).map byteAV) true false), some (dBlk ((textB s).map byteAV) true false), none, none, none, none]) (cells := (numB n).map byteAV) (v := false) rfl (by rw [List.length_map, Nat.mul_one]) vt bytes_lfs (by omega) (by omega)
  rw [← List.map_append] at ap
  simp only [Nat.mul_one] at ap
  refine (WR_eq ap).2 ?_
  have hBl : (numB n ++ textB s).length = (numB n).length + (textB s).length := List.length_append
  rw [← hBl]
  simp (disch := first | (simp only [ne_eq, reduceCtorEq, not_false_eq_true, implies_true, List.getElem?_cons_zero, List.getElem?_cons_succ]; done) | omega) only [WS, St.guard, St.put, evalO, reduceCtorEq, reduceIte, Nat.reduceAdd, Nat.reduceEqDiff]
  have hB0 : 0 < (numB n ++ textB s).length := by omega
  have hB1 : (numB n ++ textB s).length ≤ 218 := by omega
  have va : View ⟨[], [some (dBlk ((numB n ++ textB s).map byteAV) true false), some (dBlk ((textB s).map byteAV) true false), none, none, none, none]⟩ (.own (.l 0) (numB n ++ textB s).length 0 (numB n ++ textB s).length 1 none) 1 (numB n ++ textB s).length ((numB n ++ textB s).map byteAV) := own_view1 (j := 0) rfl (by simp) (by simp)
  have hkl := umod_lt (c := cut) (n := (numB n ++ textB s).length) hB0
  simp (disch := first | (simp only [ne_eq, reduceCtorEq, not_false_eq_true, implies_true, List.getElem?_cons_zero, List.getElem?_cons_succ]; done) | omega) only [WS, St.guard, St.put, evalO, reduceCtorEq, reduceIte, Nat.reduceAdd, Nat.reduceEqDiff, goInt]
  rw [vRem_u64 (numB n ++ textB s).length rfl hB0 (by omega)]
  simp (disch := first | (simp only [ne_eq, reduceCtorEq, not_false_eq_true, implies_true, List.getElem?_cons_zero, List.getElem?_cons_succ]; done) | omega) only [WS, St.guard, St.put, evalO, reduceCtorEq, reduceIte, Nat.reduceAdd, Nat.reduceEqDiff, wrap_i64_nat]
  generalize hk : umod cut (numB n ++ textB s).length = k at *
  rw [va.sliceHi (by omega)]
  simp (disch := first | (simp only [ne_eq, reduceCtorEq, not_false_eq_true, implies_true, List.getElem?_cons_zero, List.getElem?_cons_succ]; done) | omega) only [WS, St.guard, St.put, evalO, reduceCtorEq, reduceIte, Nat.reduceAdd, Nat.reduceEqDiff, AM.sub, Option.map_none, Nat.zero_mul, Nat.add_zero, Nat.sub_zero]
  have hbl : ((numB n ++ textB s).take k).length = k := by rw [List.length_take]; omega
  have rd : ∃ c o, Ev prog (.op (.call "haberdash/pack.Read" [3, 4]) [.own (.l 0) (numB n ++ textB s).length 0 k 1 none] ⟨[], [some (dBlk ((numB n ++ textB s).map byteAV) true false), some (dBlk ((textB s).map byteAV) true false), none, none, none, none]⟩)
      (.val (.ptr (.l 4) 2 0) ⟨[], [some (dBlk ((numB n ++ textB s).map byteAV) true false), some (dBlk ((textB s).map byteAV) true false), none, some (dBlk (((numB n ++ textB s).take k).map byteAV) o false), rdL 3 ((numB n ++ textB s).take k).length 0 c 0, none]⟩) ∧ ∀ x, c = some x → ((numB n ++ textB s).take k).length - 0 ≤ x := by
    by_cases hk0 : k = 0
    · subst hk0
      exact ⟨some 0, false, lRead0 L (q := 0) (cs := (numB n ++ textB s).map byteAV) rfl (by
        have := own_viewT (G := []) (L := [some (dBlk ((numB n ++ textB s).map byteAV) true false), some (dBlk ((textB s).map byteAV) true false), none, none, none, none]) (j := 0) (k := 0) (B := numB n ++ textB s) rfl rfl (by omega)
        exact this) (by decide) rfl rfl (by unfold Good; dsimp only; repeat (first | exact trivial | rw [goodN] | refine ⟨dBlk_good, ?_⟩ | refine goodD (by assumption) ?_ | refine ⟨sBlk_good (by first | rfl | assumption | (simp [AV.labs.labss, AV.labs, refLt]; done)), ?_⟩)), by simp⟩
    · exact ⟨none, true, lRead L (q := 0) (bs := (numB n ++ textB s).take k) (cs := (numB n ++ textB s).map byteAV) rfl (own_viewT (j := 0) rfl rfl (by omega)) (by omega) (by omega) (by decide) rfl rfl (by unfold Good; dsimp only; repeat (first | exact trivial | rw [goodN] | refine ⟨dBlk_good, ?_⟩ | refine goodD (by assumption) ?_ | refine ⟨sBlk_good (by first | rfl | assumption | (simp [AV.labs.labss, AV.labs, refLt]; done)), ?_⟩)), by simp⟩
  obtain ⟨c, o, rd, hc⟩ := rd
  refine WP_of rd ?_
  simp (disch := first | (simp only [ne_eq, reduceCtorEq, not_false_eq_true, implies_true, List.getElem?_cons_zero, List.getElem?_cons_succ]; done) | omega) only [WS, St.guard, St.put, evalO, reduceCtorEq, reduceIte, Nat.reduceAdd, Nat.reduceEqDiff]
  refine (WP_p (x := .bool true) (by exact awake4 H (.inr (.inr (.inl rfl)))) (by unfold rdL; exact (by unfold Good; dsimp only; repeat (first | exact trivial | rw [goodN] | refine ⟨dBlk_good, ?_⟩ | refine goodD (by assumption) ?_ | refine ⟨sBlk_good (by first | rfl | assumption | (simp [AV.labs.labss, AV.labs, refLt]; done)), ?_⟩)))).2 ?_
  simp (disch := first | (simp only [ne_eq, reduceCtorEq, not_false_eq_true, implies_true, List.getElem?_cons_zero, List.getElem?_cons_succ]; done) | omega) only [WS, St.guard, St.put, evalO, reduceCtorEq, reduceIte, Nat.reduceAdd, Nat.reduceEqDiff, isNilV, Hp.isNil]
  refine WP_news (by exact refNum_spec L.rnum (v := (n : Int)) (by omega)) (data1 dBlk_l) rfl (by decide) rfl (by unfold rdL; exact (by unfold Good; dsimp only; repeat (first | exact trivial | rw [goodN] | refine ⟨dBlk_good, ?_⟩ | refine goodD (by assumption) ?_ | refine ⟨sBlk_good (by first | rfl | assumption | (simp [AV.labs.labss, AV.labs, refLt]; done)), ?_⟩))) (by exact ren_own1) ?_
  simp (disch := first | (simp only [ne_eq, reduceCtorEq, not_false_eq_true, implies_true, List.getElem?_cons_zero, List.getElem?_cons_succ]; done) | omega) only [WS, St.guard, St.put, evalO, reduceCtorEq, reduceIte, Nat.reduceAdd, Nat.reduceEqDiff, putAll, Int.toNat_natCast, goInt]
  have hG : ∀ k' c' e, Good ⟨[], [some (dBlk ((numB n ++ textB s).map byteAV) true false), some (dBlk ((textB s).map byteAV) true false), none, some (dBlk (((numB n ++ textB s).take k).map byteAV) o false), rdL 3 ((numB n ++ textB s).take k).length k' c' e, some (dBlk ((numB n).map byteAV) true false)]⟩ := fun k' c' e => by unfold rdL; exact (by unfold Good; dsimp only; repeat (first | exact trivial | rw [goodN] | refine ⟨dBlk_good, ?_⟩ | refine goodD (by assumption) ?_ | refine ⟨sBlk_good (by first | rfl | assumption | (simp [AV.labs.labss, AV.labs, refLt]; done)), ?_⟩))
  have hR : ∀ k' c' e, k' ≤ k → (∀ x, c' = some x → k - k' ≤ x) → RdL [] [some (dBlk ((numB n ++ textB s).map byteAV) true false), some (dBlk ((textB s).map byteAV) true false), none, some (dBlk (((numB n ++ textB s).take k).map byteAV) o false), rdL 3 ((numB n ++ textB s).take k).length k' c' e, some (dBlk ((numB n).map byteAV) true false)] 3 4 ((numB n ++ textB s).take k) k' c' e := fun k' c' e h1 h2 => ⟨⟨o, false, rfl⟩, rfl, by decide, by omega, by rw [hbl]; exact h2, by omega⟩
  rw [hbl] at hc
  have c0 : ∀ d x, c.map (· - d) = some x → k - (0 + d) ≤ x := fun d x hx => by
    cases c with
    | none => cases hx
    | some y => have := hc y rfl; simp at hx; omega
  have s1 := lNum L (least := 0) (most := (n : Int)) (hG 0 c 0) (hR 0 c 0 (by omega) hc)
  rw [List.drop_zero] at s1
  by_cases hkf : k < (numB n).length
  · have eb : (numB n ++ textB s).take k = (numB n).take k := List.take_append_of_le_length (by omega)
    have hge : ¬ ((k : Int) ≥ ((numB n).length : Int)) := by omega
    rw [show rnum ((numB n ++ textB s).take k) 0 (n : Int) = (0, 0, 3) from by rw [eb]; exact rnum_short (numB_goOn n (Nat.le_refl n) hkf) (by rw [List.length_take]; omega)] at s1
    have hR1 := hR (0 + 0) (c.map (· - 0)) 3 (by omega) (c0 0)
    have hG1 := hG (0 + 0) (c.map (· - 0)) 3
    refine WP_of s1 ?_
    simp (disch := first | (simp only [ne_eq, reduceCtorEq, not_false_eq_true, implies_true, List.getElem?_cons_zero, List.getElem?_cons_succ]; done) | omega) only [WS, St.guard, St.put, evalO, reduceCtorEq, reduceIte, Nat.reduceAdd, Nat.reduceEqDiff]
    refine WP_of (lTextE L hG1 hR1 (by decide)) ?_
    simp (disch := first | (simp only [ne_eq, reduceCtorEq, not_false_eq_true, implies_true, List.getElem?_cons_zero, List.getElem?_cons_succ]; done) | omega) only [WS, St.guard, St.put, evalO, reduceCtorEq, reduceIte, Nat.reduceAdd, Nat.reduceEqDiff]
    refine WP_of (lErr L hG1 hR1) ?_
    simp (disch := first | (simp only [ne_eq, reduceCtorEq, not_false_eq_true, implies_true, List.getElem?_cons_zero, List.getElem?_cons_succ]; done) | omega) only [WS, St.guard, St.put, evalO, reduceCtorEq, reduceIte, Nat.reduceAdd, Nat.reduceEqDiff, Int.reduceBEq]
    refine WP_of (lEnd L hG1 hR1) ?_
    simp (disch := first | (simp only [ne_eq, reduceCtorEq, not_false_eq_true, implies_true, List.getElem?_cons_zero, List.getElem?_cons_succ]; done) | omega) only [WS, St.guard, St.put, evalO, reduceCtorEq, reduceIte, Nat.reduceAdd, Nat.reduceEqDiff, Int.reduceBEq, endV3, eql_empty, decide_true, hge, decide_false]
    by_cases hn0 : n = 0
    · subst hn0
      simp (disch := first | (simp only [ne_eq, reduceCtorEq, not_false_eq_true, implies_true, List.getElem?_cons_zero, List.getElem?_cons_succ]; done) | omega) only [WS, St.guard, St.put, evalO, reduceCtorEq, reduceIte, Nat.reduceAdd, Nat.reduceEqDiff, Int.reduceBEq, Int.cast_ofNat_Int, hge, decide_false]
      refine WP_of (lFlagE L hG1 hR1 (by decide)) ?_
      simp (disch := first | (simp only [ne_eq, reduceCtorEq, not_false_eq_true, implies_true, List.getElem?_cons_zero, List.getElem?_cons_succ]; done) | omega) only [WS, St.guard, St.put, evalO, reduceCtorEq, reduceIte, Nat.reduceAdd, Nat.reduceEqDiff]
      refine WP_of (lNumE L hG1 hR1 (by decide)) ?_
      simp (disch := first | (simp only [ne_eq, reduceCtorEq, not_false_eq_true, implies_true, List.getElem?_cons_zero, List.getElem?_cons_succ]; done) | omega) only [WS, St.guard, St.put, evalO, reduceCtorEq, reduceIte, Nat.reduceAdd, Nat.reduceEqDiff, Int.reduceBEq, fin_tmp, leave_v]
      simp
    · have e1 : ((0 : Int) == (n : Int)) = false := by rw [beq_eq_false_iff_ne]; omega
      have e2 : ((n : Int) == 0) = false := by rw [beq_eq_false_iff_ne]; omega
      simp (disch := first | (simp only [ne_eq, reduceCtorEq, not_false_eq_true, implies_true, List.getElem?_cons_zero, List.getElem?_cons_succ]; done) | omega) only [WS, St.guard, St.put, evalO, reduceCtorEq, reduceIte, Nat.reduceAdd, Nat.reduceEqDiff, Int.reduceBEq, e1, e2, hge, decide_false]
      refine WP_of (lFlagE L hG1 hR1 (by decide)) ?_
      simp (disch := first | (simp only [ne_eq, reduceCtorEq, not_false_eq_true, implies_true, List.getElem?_cons_zero, List.getElem?_cons_succ]; done) | omega) only [WS, St.guard, St.put, evalO, reduceCtorEq, reduceIte, Nat.reduceAdd, Nat.reduceEqDiff]
      refine WP_of (lNumE L hG1 hR1 (by decide)) ?_
      simp (disch := first | (simp only [ne_eq, reduceCtorEq, not_false_eq_true, implies_true, List.getElem?_cons_zero, List.getElem?_cons_succ]; done) | omega) only [WS, St.guard, St.put, evalO, reduceCtorEq, reduceIte, Nat.reduceAdd, Nat.reduceEqDiff, Int.reduceBEq, fin_tmp, leave_v]
      simp
  · have eb : (numB n ++ textB s).take k = numB n ++ (textB s).take (k - (numB n).length) := by rw [List.take_append, List.take_of_length_le (by omega)]
    have hge : (k : Int) ≥ ((numB n).length : Int) := by omega
    rw [show rnum ((numB n ++ textB s).take k) 0 (n : Int) = ((n : Int), (numB n).length, 0) from by rw [eb, rnum_numB hv]; exact if_neg (by omega)] at s1
    have s2 := lText L (most := 200) (hG (0 + (numB n).length) (c.map (· - (numB n).length)) 0) (hR _ _ 0 (by omega) (c0 _))
    obtain ⟨d, hd, hdk⟩ := rtext_cut (s := s) (most := 200) (j := k - (numB n).length) (by omega) (by omega) (by omega)
    have ed : ((numB n ++ textB s).take k).drop (0 + (numB n).length) = (textB s).take (k - (numB n).length) := by rw [eb, Nat.zero_add, List.drop_left]
    rw [ed, hd] at s2
    have c1 : ∀ x, (c.map (· - (numB n).length)).map (· - d) = some x → k - (0 + (numB n).length + d) ≤ x := fun x hx => by
      cases c with
      | none => cases hx
      | some y => have := hc y rfl; simp at hx; omega
    have hR1 := hR (0 + (numB n).length + d) ((c.map (· - (numB n).length)).map (· - d)) 3 (by omega) c1
    have hG1 := hG (0 + (numB n).length + d) ((c.map (· - (numB n).length)).map (· - d)) 3
    refine WP_of s1 ?_
    simp (disch := first | (simp only [ne_eq, reduceCtorEq, not_false_eq_true, implies_true, List.getElem?_cons_zero, List.getElem?_cons_succ]; done) | omega) only [WS, St.guard, St.put, evalO, reduceCtorEq, reduceIte, Nat.reduceAdd, Nat.reduceEqDiff]
    refine WP_of s2 ?_
    simp (disch := first | (simp only [ne_eq, reduceCtorEq, not_false_eq_true, implies_true, List.getElem?_cons_zero, List.getElem?_cons_succ]; done) | omega) only [WS, St.guard, St.put, evalO, reduceCtorEq, reduceIte, Nat.reduceAdd, Nat.reduceEqDiff]
    refine WP_of (lErr L hG1 hR1) ?_
    simp (disch := first | (simp only [ne_eq, reduceCtorEq, not_false_eq_true, implies_true, List.getElem?_cons_zero, List.getElem?_cons_succ]; done) | omega) only [WS, St.guard, St.put, evalO, reduceCtorEq, reduceIte, Nat.reduceAdd, Nat.reduceEqDiff, Int.reduceBEq]
    refine WP_of (lEnd L hG1 hR1) ?_
    simp (disch := first | (simp only [ne_eq, reduceCtorEq, not_false_eq_true, implies_true, List.getElem?_cons_zero, List.getElem?_cons_succ]; done) | omega) only [WS, St.guard, St.put, evalO, reduceCtorEq, reduceIte, Nat.reduceAdd, Nat.reduceEqDiff, Int.reduceBEq, endV3, eql_empty, decide_true, hge]
    refine WP_of (lFlagE L hG1 hR1 (by decide)) ?_
    simp (disch := first | (simp only [ne_eq, reduceCtorEq, not_false_eq_true, implies_true, List.getElem?_cons_zero, List.getElem?_cons_succ]; done) | omega) only [WS, St.guard, St.put, evalO, reduceCtorEq, reduceIte, Nat.reduceAdd, Nat.reduceEqDiff]
    refine WP_of (lNumE L hG1 hR1 (by decide)) ?_
    simp (disch := first | (simp only [ne_eq, reduceCtorEq, not_false_eq_true, implies_true, List.getElem?_cons_zero, List.getElem?_cons_succ]; done) | omega) only [WS, St.guard, St.put, evalO, reduceCtorEq, reduceIte, Nat.reduceAdd, Nat.reduceEqDiff, Int.reduceBEq, fin_tmp, leave_v]
    simp
end Go.AM
namespace Go.AM
variable {prog : String → Option IFn}
theorem op_readnil {f xs} {i j : Nat} {h : Hp} {b : Blk} {n off : Nat}
    (he : Ev prog (.call f (xs.map (AV.ren (up h.G.length))) h.into) (.ret (.ptr (.o h.into.length) n off) (h.into ++ [some b]))) (hb : b.labs = [])
    (hij : i ≠ j) (hi : h.L[i]? = some none) (hj : h.L[j]? = some none) (hg : Good h) :
    Ev prog (.op (.call f [i, j]) xs h) (.val (.ptr (.l i) n off) ⟨h.G, h.L.set i (some b)⟩) := by
  refine .opCall hg.okBlks he ?_
  have hfr : [i, j].all (free h.L) = true := by simp [free_of_get hi, free_of_get hj]
  rw [back_into (h' := h) rfl rfl hg.refsOK (by simp) (by simp [hij]) hfr hfr]
  have e1 : b.ren (down h.G.length h.L.length [i, j]) = b := blk_ren_id fun ℓ hℓ => by rw [hb] at hℓ; cases hℓ
  have e3 : (AV.ptr (.o h.into.length) n off).ren (down h.G.length h.L.length [i, j]) = .ptr (.l i) n off := by
    simp only [AV.ren, down_into0]; rfl
  have e4 : padTo [i, j].length [some b] = [some b, none] := rfl
  rw [e4]
  simp only [List.map_cons, List.map_nil, Option.map_some, Option.map_none, e1, e3, AM.putAll]
  rw [set_same (G := h.L.set i (some b)) (p := j) (B := none) (by rw [List.getElem?_set, if_neg hij]; exact hj)]
theorem append_T0 {G L} {site j : Nat} {bs : Txt} {b : AV} {ms : Txt} (hL : L[j]? = some (byteB bs)) (hv : View ⟨G, L⟩ b 1 ms.length (ms.map byteAV)) (hr : bs.length + ms.length ≤ room) :
    prim ⟨G, L⟩ (.append site false 1 1) [.own (.l j) bs.length 0 bs.length 1 none, b] = some (.own (.l j) (bs ++ ms).length 0 (bs ++ ms).length 1 none, ⟨G, L.set j (byteB (bs ++ ms))⟩) := by
  by_cases h0 : ms.length = 0
  · obtain rfl : ms = [] := List.eq_nil_of_length_eq_zero h0
    rw [List.append_nil, set_same hL]
    simp only [prim, hv.source, Option.bind_some, Hp.mayFreeze, Bool.false_eq_true, if_false, Hp.append, List.map_nil, List.length_nil, Nat.mul_one, if_true, Hp.get, hL, byteB, Option.join_some, dBlk_cells, List.length_map]
    exact if_pos ⟨trivial, trivial, by simpa using hr, rfl⟩
  · have := append_own (site := site) (bytes := 1) (j := j) (esz := 1) (len := bs.length) (k := ms.length) (G := G) (L := L) (cells := bs.map byteAV) (v := decide (bs.length = 0)) hL (by rw [List.length_map, Nat.mul_one]) hv bytes_lfs (by omega) (by omega)
    rw [← List.map_append] at this
    have hb : byteB (bs ++ ms) = some (dBlk ((bs ++ ms).map byteAV) true false) := by unfold byteB; rw [decide_eq_false (by rw [List.length_append]; omega)]
    rw [hb, List.length_append]
    simpa only [Nat.mul_one] using this
theorem rnum_flag {b : Bool} {r : Txt} : rnum (flagB b ++ r) 0 1 = (if b then 1 else 0, (flagB b).length, 0) := by
  cases b
  · show rnum (numB 0 ++ r) 0 1 = _
    rw [rnum_numB (by omega)]; rfl
  · show rnum (numB 1 ++ r) 0 1 = _
    rw [rnum_numB (by omega)]; rfl
set_option maxHeartbeats 4000000 in
theorem PackBack_law (H : Law4 prog) (hp : prog "haberdash/haberdashlaw04.PackBack" = some f_law04_PackBack) {as} (h : IsAll [.slice stepTy, .slice (.int .u8)] as) :
    ∃ G2, Ev prog (.call "haberdash/haberdashlaw04.PackBack" as []) (.ret (.v (.bool true)) G2) := by
  rcases as with _ | ⟨a0, _ | ⟨a1, _ | _⟩⟩ <;> try (simp [IsAll] at h; done)
  obtain ⟨⟨c0', h0, rfl⟩, ⟨c1', h1, rfl⟩, _⟩ := h
  obtain ⟨a, xs, rfl, va, hl, hI⟩ := is_steps h0
  obtain ⟨b, ms, rfl, vb, hm⟩ := is_bytes h1
  have hroom : room = 140737488355328 := rfl
  have hml : maxLen = 9223372036854775807 := rfl
  have L := H.toPackLib
  have na : ∀ ks, noRef ks a = true := fun ks => noRef_out (View.out (va ⟨[], []⟩))
  have nb : ∀ ks, noRef ks b = true := fun ks => noRef_out (View.out (vb ⟨[], []⟩))
  refine ⟨[], call_of_fin hp ?_⟩
  simp only [f_law04_PackBack_B, enter, List.length_cons, List.length_nil, List.replicate, Nat.reduceAdd, Nat.reduceSub, List.cons_append, List.nil_append, Ty.arg]
  simp (disch := first | (simp only [ne_eq, reduceCtorEq, not_false_eq_true, implies_true, List.getElem?_cons_zero, List.getElem?_cons_succ]; done) | omega) only [WS, St.guard, St.put, evalO, reduceCtorEq, reduceIte, Nat.reduceAdd, Nat.reduceEqDiff, new_s, virtBlk_eq, box_s, box_vs, box_vi, box_vb, px_load_l, px_load_o, loadB_s, storeX, storeB_s, alloc_s, lay, whole, Option.join_some, List.drop_zero, List.drop_succ_cons, List.take_succ_cons, List.take_zero, List.drop_nil, List.nil_append, List.cons_append, Nat.reduceLeDiff, Nat.zero_add, and_self, and_true, cells_int, cells_bool, cells_str, cells_string, cells_agg, cells_own, cells_ro, cells_ptr, cells_nil, AV.lf.lfs, AV.lf, px_build, fills, build_string, build_str, build_int, WDR_some, Nat.reduceLeDiff, Nat.le_refl, Bool.and_self]
  refine (WP_p (x := .bool (fewB xs)) (by exact few4_spec H.few ((va _).into) hl) (by exact trivial)).2 ?_
  cases hfew : fewB xs
  · simp (disch := first | (simp only [ne_eq, reduceCtorEq, not_false_eq_true, implies_true, List.getElem?_cons_zero, List.getElem?_cons_succ]; done) | omega) only [WS, St.guard, St.put, evalO, reduceCtorEq, reduceIte, Nat.reduceAdd, Nat.reduceEqDiff]
    refine (WP_p (x := .bool true) (by exact awake4 H (.inr (.inl rfl))) (by exact trivial)).2 ?_
    simp (disch := first | (simp only [ne_eq, reduceCtorEq, not_false_eq_true, implies_true, List.getElem?_cons_zero, List.getElem?_cons_succ]; done) | omega) only [WS, St.guard, St.put, evalO, reduceCtorEq, reduceIte, Nat.reduceAdd, Nat.reduceEqDiff, fin_tmp, leave_v]
    simp
  obtain ⟨h40, h300⟩ : xs.length ≤ 40 ∧ ∀ x ∈ xs, x.s.length ≤ 300 := by
    simp only [fewB, Bool.and_eq_true, decide_eq_true_eq, List.all_eq_true] at hfew
    exact hfew
  have hok : ∀ x ∈ xs, okStep x := fun x hx => ⟨by have := (hI x hx).1; unfold I64 at this; omega, h300 x hx⟩
  by_cases h100 : (ms.length : Int) > 100
  · simp (disch := first | (simp only [ne_eq, reduceCtorEq, not_false_eq_true, implies_true, List.getElem?_cons_zero, List.getElem?_cons_succ]; done) | omega) only [WS, St.guard, St.put, evalO, reduceCtorEq, reduceIte, Nat.reduceAdd, Nat.reduceEqDiff, (vb _).lenSlice, goInt, h100, decide_true]
    refine (WP_p (x := .bool true) (by exact awake4 H (.inr (.inl rfl))) (by exact trivial)).2 ?_
    simp (disch := first | (simp only [ne_eq, reduceCtorEq, not_false_eq_true, implies_true, List.getElem?_cons_zero, List.getElem?_cons_succ]; done) | omega) only [WS, St.guard, St.put, evalO, reduceCtorEq, reduceIte, Nat.reduceAdd, Nat.reduceEqDiff, fin_tmp, leave_v]
    simp
  simp (disch := first | (simp only [ne_eq, reduceCtorEq, not_false_eq_true, implies_true, List.getElem?_cons_zero, List.getElem?_cons_succ]; done) | omega) only [WS, St.guard, St.put, evalO, reduceCtorEq, reduceIte, Nat.reduceAdd, Nat.reduceEqDiff, (vb _).lenSlice, goInt, h100, decide_false]
  have hlen := writeB_len hok
  have hl2 : (writeB xs).length ≤ 309 * 40 := by omega
  refine WP_news (by exact write_spec H.toWrite4 ((va _).into) h40 hok) (data1 (by unfold byteB; exact dBlk_l)) rfl (by decide) rfl (by exact trivial) (by exact ren_own1) ?_
  simp (disch := first | (simp only [ne_eq, reduceCtorEq, not_false_eq_true, implies_true, List.getElem?_cons_zero, List.getElem?_cons_succ]; done) | omega) only [WS, St.guard, St.put, evalO, reduceCtorEq, reduceIte, Nat.reduceAdd, Nat.reduceEqDiff, putAll]
  refine (WR_eq (append_T0 (by exact rfl) (vb _) (by omega))).2 ?_
  simp (disch := first | (simp only [ne_eq, reduceCtorEq, not_false_eq_true, implies_true, List.getElem?_cons_zero, List.getElem?_cons_succ]; done) | omega) only [WS, St.guard, St.put, evalO, reduceCtorEq, reduceIte, Nat.reduceAdd, Nat.reduceEqDiff]
  by_cases hT : (writeB xs ++ ms).length = 0
  · have hx0 : xs.length = 0 := by
      cases hxs : xs with
      | nil => rfl
      | cons x ys => 
        have := stepB_pos (x := x)
        rw [hxs] at hT
        simp only [writeB, List.flatMap_cons, List.length_append] at hT
        omega
    have hm0 : ms.length = 0 := by rw [List.length_append] at hT; omega
    obtain rfl : xs = [] := List.eq_nil_of_length_eq_zero hx0
    obtain rfl : ms = [] := List.eq_nil_of_length_eq_zero hm0
    have rn : Ev prog (.op (.call "haberdash/pack.Read" [2, 3]) [.own (.l 0) 0 0 0 1 none] ⟨[], [byteB [], none, none, none]⟩) (.val (.ptr (.l 2) 2 0) ⟨[], [byteB [], none, some (sBlk [.v (.slice none 0 0), .v (.int .i64 0)] true), none]⟩) := by
      refine op_readnil (b := sBlk [.v (.slice none 0 0), .v (.int .i64 0)] true) ?_ rfl (by decide) rfl rfl ⟨dBlk_good, trivial⟩
      exact ReadNil_spec L (G := [byteB [], none, none, none]) (a := .own (.o 0) 0 0 0 1 none) (fun L' => rfl)
    refine WP_of rn ?_
    simp (disch := first | (simp only [ne_eq, reduceCtorEq, not_false_eq_true, implies_true, List.getElem?_cons_zero, List.getElem?_cons_succ]; done) | omega) only [WS, St.guard, St.put, evalO, reduceCtorEq, reduceIte, Nat.reduceAdd, Nat.reduceEqDiff]
    have g2 : Good ⟨[], [byteB [], none, some (sBlk [.v (.slice none 0 0), .v (.int .i64 0)] true), none]⟩ := ⟨dBlk_good, sBlk_good rfl, trivial⟩
    refine (WP_p (x := .bool true) (by exact awake4 H (.inr (.inl rfl))) g2).2 ?_
    simp (disch := first | (simp only [ne_eq, reduceCtorEq, not_false_eq_true, implies_true, List.getElem?_cons_zero, List.getElem?_cons_succ]; done) | omega) only [WS, St.guard, St.put, evalO, reduceCtorEq, reduceIte, Nat.reduceAdd, Nat.reduceEqDiff, isNilV, Hp.isNil]
    refine WC_count (fun i => ⟨f_law04_PackBack_H0 a b (.ptr (.l 2) 2 0) (.v (.int .i64 (i : Nat))), ⟨[], [byteB [], none, some (sBlk [.v (.slice none 0 0), .v (.int .i64 0)] true), none]⟩⟩) 0 ?_ (fun i hi => by omega) ?_
    · exact clear_fre (by simp only [clear_nil, List.foldl_cons, List.foldl_nil, Option.some.injEq, List.map_cons, List.map_nil, List.getD_cons_zero, List.getD_cons_succ, List.set_cons_zero, List.set_cons_succ, Option.map_some, Option.bind_some, ne_eq, reduceCtorEq, not_false_eq_true, implies_true, beq_self_eq_true, BEq.rfl, if_true, if_false, Bool.false_eq_true, not_true_eq_false, Option.some.injEq, reduceIte, Bool.not_true, Bool.not_false, beq_true, beq_false, Bool.true_and, Bool.and_true, Bool.false_and, Bool.and_false, true_and, List.getElem?_cons_zero, List.getElem?_cons_succ, List.length_cons, List.length_nil, Nat.reduceAdd] <;> rfl) (by rfl) (by simp only [f_law04_PackBack_H0, List.all_cons, List.all_nil, noRef_v, noRef_dead, noRef_own, noRef_ptr, noRef_nil, Bool.and_true, Bool.true_and, Bool.and_self, List.contains_cons, List.contains_nil, Bool.or_false, Nat.reduceBEq, Bool.not_false, na, nb]) (by rfl)
    · simp (disch := first | (simp only [ne_eq, reduceCtorEq, not_false_eq_true, implies_true, List.getElem?_cons_zero, List.getElem?_cons_succ]; done) | omega) only [f_law04_PackBack_L0, f_law04_PackBack_H0, WS, St.guard, St.put, evalO, reduceCtorEq, reduceIte, Nat.reduceAdd, Nat.reduceEqDiff, (va _).lenSlice, decide_false, List.length_nil, goInt, Int.cast_ofNat_Int, Int.lt_irrefl]
      have hat : (⟨[], [byteB [], none, some (sBlk [.v (.slice none 0 0), .v (.int .i64 0)] true), none]⟩ : Hp).into[2]? = some (rdB (.v (.slice none 0 0)) 0) := rfl
      refine (WP_p (x := .int .i64 0) (by exact Err_spec L hat) g2).2 ?_
      simp (disch := first | (simp only [ne_eq, reduceCtorEq, not_false_eq_true, implies_true, List.getElem?_cons_zero, List.getElem?_cons_succ]; done) | omega) only [WS, St.guard, St.put, evalO, reduceCtorEq, reduceIte, Nat.reduceAdd, Nat.reduceEqDiff, Int.reduceBEq]
      refine (WP_p (x := .int .i64 0) (by exact End_spec L (bs := []) hat ⟨fun L' => view_nil' (by omega), rfl, by simp⟩) g2).2 ?_
      simp (disch := first | (simp only [ne_eq, reduceCtorEq, not_false_eq_true, implies_true, List.getElem?_cons_zero, List.getElem?_cons_succ]; done) | omega) only [WS, St.guard, St.put, evalO, reduceCtorEq, reduceIte, Nat.reduceAdd, Nat.reduceEqDiff, Int.reduceBEq, (vb _).lenSlice, goInt, List.length_nil, Int.cast_ofNat_Int, fin_tmp, leave_v]
      simp
  · have hT0 : 0 < (writeB xs ++ ms).length := by omega
    have hTl : (writeB xs ++ ms).length ≤ 20000 := by rw [List.length_append]; omega
    have eT : byteB (writeB xs ++ ms) = some (dBlk ((writeB xs ++ ms).map byteAV) true false) := by unfold byteB; rw [decide_eq_false hT]
    rw [eT]
    have hrest : ∀ i, i ≤ xs.length → (writeB xs ++ ms).drop (writeB (xs.take i)).length = writeB (xs.drop i) ++ ms := fun i hi => by
      have : writeB xs = writeB (xs.take i) ++ writeB (xs.drop i) := by unfold writeB; rw [← List.flatMap_append, List.take_append_drop]
      rw [this, List.append_assoc, List.drop_left]
    have hle : ∀ i, (writeB (xs.take i)).length ≤ (writeB xs ++ ms).length := fun i => by
      have : writeB xs = writeB (xs.take i) ++ writeB (xs.drop i) := by unfold writeB; rw [← List.flatMap_append, List.take_append_drop]
      rw [this]; simp only [List.length_append]; omega
    generalize hTT : writeB xs ++ ms = T at *
    refine WP_of (lRead L (q := 0) (bs := T) (cs := T.map byteAV) rfl (own_view1 (j := 0) rfl (by simp) (by simp)) hT0 (by omega) (by decide) rfl rfl (by unfold Good; dsimp only; repeat (first | exact trivial | rw [goodN] | refine ⟨dBlk_good, ?_⟩ | refine goodD (by assumption) ?_ | refine ⟨sBlk_good (by first | rfl | assumption | (simp [AV.labs.labss, AV.labs, refLt]; done)), ?_⟩))) ?_
    simp (disch := first | (simp only [ne_eq, reduceCtorEq, not_false_eq_true, implies_true, List.getElem?_cons_zero, List.getElem?_cons_succ]; done) | omega) only [WS, St.guard, St.put, evalO, reduceCtorEq, reduceIte, Nat.reduceAdd, Nat.reduceEqDiff]
    have hG : ∀ k, Good ⟨[], [some (dBlk (T.map byteAV) true false), none, some (dBlk (T.map byteAV) true false), rdL 2 T.length k none 0]⟩ := fun k => by unfold rdL; exact (by unfold Good; dsimp only; repeat (first | exact trivial | rw [goodN] | refine ⟨dBlk_good, ?_⟩ | refine goodD (by assumption) ?_ | refine ⟨sBlk_good (by first | rfl | assumption | (simp [AV.labs.labss, AV.labs, refLt]; done)), ?_⟩))
    have hR : ∀ k, k ≤ T.length → RdL [] [some (dBlk (T.map byteAV) true false), none, some (dBlk (T.map byteAV) true false), rdL 2 T.length k none 0] 2 3 T k none 0 := fun k hk => ⟨⟨_, _, rfl⟩, rfl, by decide, hk, by simp, by omega⟩
    refine (WP_p (x := .bool true) (by exact awake4 H (.inr (.inl rfl))) (hG 0)).2 ?_
    simp (disch := first | (simp only [ne_eq, reduceCtorEq, not_false_eq_true, implies_true, List.getElem?_cons_zero, List.getElem?_cons_succ]; done) | omega) only [WS, St.guard, St.put, evalO, reduceCtorEq, reduceIte, Nat.reduceAdd, Nat.reduceEqDiff, isNilV, Hp.isNil]
    refine WC_count (fun i => ⟨f_law04_PackBack_H0 a b (.ptr (.l 3) 2 0) (.v (.int .i64 (i : Nat))), ⟨[], [some (dBlk (T.map byteAV) true false), none, some (dBlk (T.map byteAV) true false), rdL 2 T.length (writeB (xs.take i)).length none 0]⟩⟩) xs.length ?_ (fun i hi => ?_) ?_
    · exact clear_fre (by simp only [clear_nil, List.foldl_cons, List.foldl_nil, Option.some.injEq, List.map_cons, List.map_nil, List.getD_cons_zero, List.getD_cons_succ, List.set_cons_zero, List.set_cons_succ, Option.map_some, Option.bind_some, ne_eq, reduceCtorEq, not_false_eq_true, implies_true, beq_self_eq_true, BEq.rfl, if_true, if_false, Bool.false_eq_true, not_true_eq_false, Option.some.injEq, reduceIte, Bool.not_true, Bool.not_false, beq_true, beq_false, Bool.true_and, Bool.and_true, Bool.false_and, Bool.and_false, true_and, List.getElem?_cons_zero, List.getElem?_cons_succ, List.length_cons, List.length_nil, Nat.reduceAdd] <;> rfl) (by rfl) (by simp only [f_law04_PackBack_H0, List.all_cons, List.all_nil, noRef_v, noRef_dead, noRef_own, noRef_ptr, noRef_nil, Bool.and_true, Bool.true_and, Bool.and_self, List.contains_cons, List.contains_nil, Bool.or_false, Nat.reduceBEq, Bool.not_false, na, nb]) (by rfl)
    · have hlt' : (i : Int) < (xs.length : Int) := by omega
      have hxi : xs[i]? = some xs[i] := List.getElem?_eq_getElem hi
      have hokx := hok _ (List.mem_of_getElem? hxi)
      have hdr : writeB (xs.drop i) = stepB xs[i] ++ writeB (xs.drop (i + 1)) := by rw [List.drop_eq_getElem_cons hi]; unfold writeB; rw [List.flatMap_cons]
      have hr := hrest i (by omega)
      rw [hdr, List.append_assoc] at hr
      have hnext : (writeB (xs.take (i + 1))).length = (writeB (xs.take i)).length + (stepB xs[i]).length := by unfold writeB; rw [List.take_add_one, hxi, List.flatMap_append]; simp
      rw [hnext]
      have hk := hle i
      have hk2 := hle (i + 1)
      rw [hnext] at hk2
      generalize xs[i] = x at *
      have q := fun h => st_at (va h) hxi
      have hn := hokx.1
      have hs := hokx.2
      generalize (writeB (xs.take i)).length = k at *
      generalize writeB (xs.drop (i + 1)) ++ ms = rest at *
      simp (disch := first | (simp only [ne_eq, reduceCtorEq, not_false_eq_true, implies_true, List.getElem?_cons_zero, List.getElem?_cons_succ]; done) | omega) only [f_law04_PackBack_L0, f_law04_PackBack_H0, WS, St.guard, St.put, evalO, reduceCtorEq, reduceIte, Nat.reduceAdd, Nat.reduceEqDiff, (va _).lenSlice, hlt', decide_true, (q _).ix, (q _).ld]
      refine (WP_p (x := .int .i64 (umod x.kind 3 : Nat)) (by exact kind_spec H.kind) (by exact hG _)).2 ?_
      have h3 := umod_lt (c := x.kind) (n := 3) (by omega)
      have hsb : stepB x = if umod x.kind 3 = 0 then numB x.n.toNat else if umod x.kind 3 = 1 then textB x.s else flagB x.is := rfl
      generalize umod x.kind 3 = kd at *
      rcases (show kd = 0 ∨ kd = 1 ∨ kd = 2 by omega) with rfl | rfl | rfl
      · rw [if_pos rfl] at hsb
        rw [hsb] at hr hk2 ⊢
        simp (disch := first | (simp only [ne_eq, reduceCtorEq, not_false_eq_true, implies_true, List.getElem?_cons_zero, List.getElem?_cons_succ]; done) | omega) only [WS, St.guard, St.put, evalO, reduceCtorEq, reduceIte, Nat.reduceAdd, Nat.reduceEqDiff, Int.reduceBEq, (q _).ix, (q _).f3, (q _).l3, maxs, max0]
        have s1 := lNum L (least := 0) (most := ((x.n.toNat : Nat) : Int)) (hG k) (hR k hk)
        rw [hr, rnum_numB (by omega), if_neg (by omega)] at s1
        have hnn : (((x.n.toNat : Nat) : Int) != ((x.n.toNat : Nat) : Int)) = false := bne_self_eq_false _
        refine WP_of s1 ?_
        simp (disch := first | (simp only [ne_eq, reduceCtorEq, not_false_eq_true, implies_true, List.getElem?_cons_zero, List.getElem?_cons_succ]; done) | omega) only [WS, St.guard, St.put, evalO, reduceCtorEq, reduceIte, Nat.reduceAdd, Nat.reduceEqDiff, Option.map_none, hnn, vBin_add_i64]
        exact clear_fre (by simp only [clear_nil, List.foldl_cons, List.foldl_nil, Option.some.injEq, List.map_cons, List.map_nil, List.getD_cons_zero, List.getD_cons_succ, List.set_cons_zero, List.set_cons_succ, Option.map_some, Option.bind_some, ne_eq, reduceCtorEq, not_false_eq_true, implies_true, beq_self_eq_true, BEq.rfl, if_true, if_false, Bool.false_eq_true, not_true_eq_false, Option.some.injEq, reduceIte, Bool.not_true, Bool.not_false, beq_true, beq_false, Bool.true_and, Bool.and_true, Bool.false_and, Bool.and_false, true_and, List.getElem?_cons_zero, List.getElem?_cons_succ, List.length_cons, List.length_nil, Nat.reduceAdd] <;> rfl) (by rfl) (by simp only [f_law04_PackBack_H0, List.all_cons, List.all_nil, noRef_v, noRef_dead, noRef_own, noRef_ptr, noRef_nil, Bool.and_true, Bool.true_and, Bool.and_self, List.contains_cons, List.contains_nil, Bool.or_false, Nat.reduceBEq, Bool.not_false, na, nb]) (by rfl)
      · rw [if_neg (by omega), if_pos rfl] at hsb
        rw [hsb] at hr hk2 ⊢
        simp (disch := first | (simp only [ne_eq, reduceCtorEq, not_false_eq_true, implies_true, List.getElem?_cons_zero, List.getElem?_cons_succ]; done) | omega) only [WS, St.guard, St.put, evalO, reduceCtorEq, reduceIte, Nat.reduceAdd, Nat.reduceEqDiff, Int.reduceBEq, (q _).ix, (q _).f4, (q _).l4]
        have s1 := lText L (most := 300) (hG k) (hR k hk)
        rw [hr, rtext_textB hs (by omega)] at s1
        refine WDP_of s1 (hG k) (hG _) rfl rfl ?_
        simp (disch := first | (simp only [ne_eq, reduceCtorEq, not_false_eq_true, implies_true, List.getElem?_cons_zero, List.getElem?_cons_succ]; done) | omega) only [WS, St.guard, St.put, evalO, reduceCtorEq, reduceIte, Nat.reduceAdd, Nat.reduceEqDiff, Option.map_none, (q _).ix, (q _).f4, (q _).l4]
        refine WDP_er (hG _) rfl ?_
        rw [(q _).l4]
        simp (disch := first | (simp only [ne_eq, reduceCtorEq, not_false_eq_true, implies_true, List.getElem?_cons_zero, List.getElem?_cons_succ]; done) | omega) only [WS, St.guard, St.put, evalO, reduceCtorEq, reduceIte, Nat.reduceAdd, Nat.reduceEqDiff, WDX_some, reduceIte, if_true, if_false, Bool.and_true, Bool.true_and, true_and, Bool.false_eq_true, false_or, true_or, Hp.over, AM.over, over_nil, List.foldl_cons, List.foldl_nil, List.set_cons_zero, List.set_cons_succ, List.getElem?_cons_zero, List.getElem?_cons_succ, Option.join_some, List.length_cons, List.length_nil, Prim.sites, List.cons_append, List.nil_append]
        refine ⟨⟨rfl, hG _⟩, ?_⟩
        simp (disch := first | (simp only [ne_eq, reduceCtorEq, not_false_eq_true, implies_true, List.getElem?_cons_zero, List.getElem?_cons_succ]; done) | omega) only [WS, St.guard, St.put, evalO, reduceCtorEq, reduceIte, Nat.reduceAdd, Nat.reduceEqDiff, vBin_neq_str, ne_eq, not_true_eq_false, decide_false, vBin_add_i64]
        exact clear_fre (by simp only [clear_nil, List.foldl_cons, List.foldl_nil, Option.some.injEq, List.map_cons, List.map_nil, List.getD_cons_zero, List.getD_cons_succ, List.set_cons_zero, List.set_cons_succ, Option.map_some, Option.bind_some, ne_eq, reduceCtorEq, not_false_eq_true, implies_true, beq_self_eq_true, BEq.rfl, if_true, if_false, Bool.false_eq_true, not_true_eq_false, Option.some.injEq, reduceIte, Bool.not_true, Bool.not_false, beq_true, beq_false, Bool.true_and, Bool.and_true, Bool.false_and, Bool.and_false, true_and, List.getElem?_cons_zero, List.getElem?_cons_succ, List.length_cons, List.length_nil, Nat.reduceAdd] <;> rfl) (by rfl) (by simp only [f_law04_PackBack_H0, List.all_cons, List.all_nil, noRef_v, noRef_dead, noRef_own, noRef_ptr, noRef_nil, Bool.and_true, Bool.true_and, Bool.and_self, List.contains_cons, List.contains_nil, Bool.or_false, Nat.reduceBEq, Bool.not_false, na, nb]) (by rfl)
      · rw [if_neg (by omega), if_neg (by omega)] at hsb
        rw [hsb] at hr hk2 ⊢
        simp (disch := first | (simp only [ne_eq, reduceCtorEq, not_false_eq_true, implies_true, List.getElem?_cons_zero, List.getElem?_cons_succ]; done) | omega) only [WS, St.guard, St.put, evalO, reduceCtorEq, reduceIte, Nat.reduceAdd, Nat.reduceEqDiff, Int.reduceBEq, (q _).ix, (q _).f5, (q _).l5]
        have s1 := lFlag L (hG k) (hR k hk)
        rw [hr, rnum_flag] at s1
        refine WDP_of s1 (hG k) (hG _) rfl rfl ?_
        simp (disch := first | (simp only [ne_eq, reduceCtorEq, not_false_eq_true, implies_true, List.getElem?_cons_zero, List.getElem?_cons_succ]; done) | omega) only [WS, St.guard, St.put, evalO, reduceCtorEq, reduceIte, Nat.reduceAdd, Nat.reduceEqDiff, Option.map_none, (q _).ix, (q _).f5, (q _).l5]
        refine WDP_er (hG _) rfl ?_
        rw [(q _).l5]
        simp (disch := first | (simp only [ne_eq, reduceCtorEq, not_false_eq_true, implies_true, List.getElem?_cons_zero, List.getElem?_cons_succ]; done) | omega) only [WS, St.guard, St.put, evalO, reduceCtorEq, reduceIte, Nat.reduceAdd, Nat.reduceEqDiff, WDX_some, reduceIte, if_true, if_false, Bool.and_true, Bool.true_and, true_and, Bool.false_eq_true, false_or, true_or, Hp.over, AM.over, over_nil, List.foldl_cons, List.foldl_nil, List.set_cons_zero, List.set_cons_succ, List.getElem?_cons_zero, List.getElem?_cons_succ, Option.join_some, List.length_cons, List.length_nil, Prim.sites, List.cons_append, List.nil_append]
        refine ⟨⟨rfl, hG _⟩, ?_⟩
        have hbb : ((if x.is = true then (1 : Int) else 0) == 1) = x.is := by cases x.is <;> rfl
        simp (disch := first | (simp only [ne_eq, reduceCtorEq, not_false_eq_true, implies_true, List.getElem?_cons_zero, List.getElem?_cons_succ]; done) | omega) only [WS, St.guard, St.put, evalO, reduceCtorEq, reduceIte, Nat.reduceAdd, Nat.reduceEqDiff, hbb, vBin_add_i64]
        cases x.is
        · exact clear_fre (by simp only [clear_nil, List.foldl_cons, List.foldl_nil, Option.some.injEq, List.map_cons, List.map_nil, List.getD_cons_zero, List.getD_cons_succ, List.set_cons_zero, List.set_cons_succ, Option.map_some, Option.bind_some, ne_eq, reduceCtorEq, not_false_eq_true, implies_true, beq_self_eq_true, BEq.rfl, if_true, if_false, Bool.false_eq_true, not_true_eq_false, Option.some.injEq, reduceIte, Bool.not_true, Bool.not_false, beq_true, beq_false, Bool.true_and, Bool.and_true, Bool.false_and, Bool.and_false, true_and, List.getElem?_cons_zero, List.getElem?_cons_succ, List.length_cons, List.length_nil, Nat.reduceAdd] <;> rfl) (by rfl) (by simp only [f_law04_PackBack_H0, List.all_cons, List.all_nil, noRef_v, noRef_dead, noRef_own, noRef_ptr, noRef_nil, Bool.and_true, Bool.true_and, Bool.and_self, List.contains_cons, List.contains_nil, Bool.or_false, Nat.reduceBEq, Bool.not_false, na, nb]) (by rfl)
        · exact clear_fre (by simp only [clear_nil, List.foldl_cons, List.foldl_nil, Option.some.injEq, List.map_cons, List.map_nil, List.getD_cons_zero, List.getD_cons_succ, List.set_cons_zero, List.set_cons_succ, Option.map_some, Option.bind_some, ne_eq, reduceCtorEq, not_false_eq_true, implies_true, beq_self_eq_true, BEq.rfl, if_true, if_false, Bool.false_eq_true, not_true_eq_false, Option.some.injEq, reduceIte, Bool.not_true, Bool.not_false, beq_true, beq_false, Bool.true_and, Bool.and_true, Bool.false_and, Bool.and_false, true_and, List.getElem?_cons_zero, List.getElem?_cons_succ, List.length_cons, List.length_nil, Nat.reduceAdd] <;> rfl) (by rfl) (by simp only [f_law04_PackBack_H0, List.all_cons, List.all_nil, noRef_v, noRef_dead, noRef_own, noRef_ptr, noRef_nil, Bool.and_true, Bool.true_and, Bool.and_self, List.contains_cons, List.contains_nil, Bool.or_false, Nat.reduceBEq, Bool.not_false, na, nb]) (by rfl)
    · have hW : (writeB xs).length + ms.length = T.length := by rw [← hTT, List.length_append]
      simp (disch := first | (simp only [ne_eq, reduceCtorEq, not_false_eq_true, implies_true, List.getElem?_cons_zero, List.getElem?_cons_succ]; done) | omega) only [f_law04_PackBack_L0, f_law04_PackBack_H0, WS, St.guard, St.put, evalO, reduceCtorEq, reduceIte, Nat.reduceAdd, Nat.reduceEqDiff, (va _).lenSlice, decide_false, List.take_length]
      refine WP_of (lErr L (hG (writeB xs).length) (hR _ (by omega))) ?_
      simp (disch := first | (simp only [ne_eq, reduceCtorEq, not_false_eq_true, implies_true, List.getElem?_cons_zero, List.getElem?_cons_succ]; done) | omega) only [WS, St.guard, St.put, evalO, reduceCtorEq, reduceIte, Nat.reduceAdd, Nat.reduceEqDiff, Int.reduceBEq]
      refine WP_of (lEnd L (hG (writeB xs).length) (hR _ (by omega))) ?_
      by_cases hm0 : ms.length = 0
      · have e1 : endV 0 (T.length - (writeB xs).length) = 0 := by unfold endV; rw [if_neg (by simp), if_neg (by omega)]
        simp (disch := first | (simp only [ne_eq, reduceCtorEq, not_false_eq_true, implies_true, List.getElem?_cons_zero, List.getElem?_cons_succ]; done) | omega) only [WS, St.guard, St.put, evalO, reduceCtorEq, reduceIte, Nat.reduceAdd, Nat.reduceEqDiff, e1, Int.reduceBEq, (vb _).lenSlice, goInt, hm0, Int.cast_ofNat_Int, fin_tmp, leave_v]
        simp
      · have e1 : endV 0 (T.length - (writeB xs).length) = 4 := by unfold endV; rw [if_neg (by simp), if_pos (by omega)]
        have e2 : ((ms.length : Int) == 0) = false := by rw [beq_eq_false_iff_ne]; omega
        simp (disch := first | (simp only [ne_eq, reduceCtorEq, not_false_eq_true, implies_true, List.getElem?_cons_zero, List.getElem?_cons_succ]; done) | omega) only [WS, St.guard, St.put, evalO, reduceCtorEq, reduceIte, Nat.reduceAdd, Nat.reduceEqDiff, e1, Int.reduceBEq, (vb _).lenSlice, goInt, e2, fin_tmp, leave_v]
        simp
end Go.AM
