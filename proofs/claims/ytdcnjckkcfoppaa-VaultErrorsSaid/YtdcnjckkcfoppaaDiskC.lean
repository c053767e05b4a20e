import Derived.Test.YtdcnjckkcfoppaaDiskA
set_option linter.unusedVariables false
set_option linter.unusedSimpArgs false
namespace Go.AM
variable {prog : String → Option IFn}
variable {G L : List (Option Blk)} {P : DPos} {D : DskD} {n : Nat}
structure RefDisk (prog : String → Option IFn) : Prop where
  new : prog "haberdash/haberdashref06.New" = some f_ref06_New
  write : prog "(*haberdash/haberdashref06.Disk).Write" = some f___ref06_Disk__Write
  sync : prog "(*haberdash/haberdashref06.Disk).Sync" = some f___ref06_Disk__Sync
  arm : prog "(*haberdash/haberdashref06.Disk).Arm" = some f___ref06_Disk__Arm
  crash : prog "(*haberdash/haberdashref06.Disk).Crash" = some f___ref06_Disk__Crash
  start : prog "(*haberdash/haberdashref06.Disk).Start" = some f___ref06_Disk__Start
  hit : prog "(*haberdash/haberdashref06.Disk).hit" = some f___ref06_Disk__hit
def DskD.rhit (D : DskD) : DskD := if D.armed = 0 then D else if D.armed = 1 then { D with armed := 0, off := true } else { D with armed := D.armed - 1 }
theorem refHit_spec (H : RefDisk prog) (h : P.Ok G.length n) (ha : D.armed < 2 ^ 63) :
    Ev prog (.call "(*haberdash/haberdashref06.Disk).hit" [.ptr (.o P.p) 5 0] (dset G P D)) (.ret (.v (.bool D.hits)) (dset G P D.rhit)) := by
  refine call_of_fin H.hit ?_
  simp only [f___ref06_Disk__hit_B, enter, List.length_cons, List.length_nil, List.replicate, Nat.reduceAdd, Nat.reduceSub, List.cons_append, List.nil_append]
  simp (disch := first | (simp only [DS, reduceCtorEq]; done) | omega) only [WS, St.guard, St.put, evalO, reduceCtorEq, reduceIte, Nat.reduceAdd, Nat.reduceEqDiff, d_ld4 h]
  by_cases h0 : D.armed = 0
  · have e1 : D.hits = false := by unfold DskD.hits; rw [h0]; rfl
    have e2 : D.rhit = D := by unfold DskD.rhit; rw [if_pos h0]
    have e3 : ¬ ((D.armed : Int) > 0) := by omega
    simp (disch := first | (simp only [DS, reduceCtorEq]; done) | omega) only [WS, St.guard, St.put, evalO, reduceCtorEq, reduceIte, Nat.reduceAdd, Nat.reduceEqDiff, e3, decide_false, fin_tmp, leave_v, e1, e2]
    simp
  · have e3 : (D.armed : Int) > 0 := by omega
    have e4 : (D.armed : Int) - 1 = ((D.armed - 1 : Nat) : Int) := by omega
    by_cases h1 : D.armed = 1
    · have e1 : D.hits = true := by unfold DskD.hits; rw [h1]; rfl
      have e2 : D.rhit = { D with armed := D.armed - 1, off := true } := by unfold DskD.rhit; rw [if_neg h0, if_pos h1, h1]
      have e5 : (((D.armed - 1 : Nat) : Int) == 0) = true := by rw [h1]; rfl
      simp (disch := first | (simp only [DS, reduceCtorEq]; done) | omega) only [WS, St.guard, St.put, evalO, reduceCtorEq, reduceIte, Nat.reduceAdd, Nat.reduceEqDiff, e3, decide_true, vBin_sub_i64, e4, d_st4 h, d_ld4 h, e5, d_st3 h, d_ld3 h, fin_tmp, leave_v, e2, e1]
      simp
    · have e1 : D.hits = false := by unfold DskD.hits; exact beq_eq_false_iff_ne.2 h1
      have e2 : D.rhit = { D with armed := D.armed - 1 } := by unfold DskD.rhit; rw [if_neg h0, if_neg h1]
      have e5 : (((D.armed - 1 : Nat) : Int) == 0) = false := by rw [beq_eq_false_iff_ne]; omega
      simp (disch := first | (simp only [DS, reduceCtorEq]; done) | omega) only [WS, St.guard, St.put, evalO, reduceCtorEq, reduceIte, Nat.reduceAdd, Nat.reduceEqDiff, e3, decide_true, vBin_sub_i64, e4, d_st4 h, d_ld4 h, e5, d_st3 h, d_ld3 h, fin_tmp, leave_v, e2, e1]
      simp
def mayR (D : DskD) (at' : Int) : Int := if D.off then 9 else if at' < 0 ∨ at' ≥ (D.a.length : Int) then 2 else 0
def DskD.rput (D : DskD) (i : Nat) (s : Sec) : DskD := { D with a := D.a.set i s, l := D.l.set i true }
def DskD.rwrite (D : DskD) (at' : Int) (s : Sec) : DskD := if mayR D at' = 0 then (D.rput at'.toNat s).rhit else D
def rwriteE (D : DskD) (at' : Int) : Int := if mayR D at' = 0 then (if D.hits then 9 else 0) else mayR D at'
theorem refWrite_spec (H : RefDisk prog) (h : P.Ok G.length D.a.length) (hl : D.l.length = D.a.length) (ha : D.armed < 2 ^ 63) {at' : Int} {s : Sec} :
    Ev prog (.call "(*haberdash/haberdashref06.Disk).Write" [.ptr (.o P.p) 5 0, .v (.int .i64 at'), .agg (s.1.map byteAV)] (dset G P D)) (.ret (.v (.int .i64 (rwriteE D at'))) (dset G P (D.rwrite at' s))) := by
  refine call_of_fin H.write ?_
  simp only [f___ref06_Disk__Write_B, enter, List.length_cons, List.length_nil, List.replicate, Nat.reduceAdd, Nat.reduceSub, List.cons_append, List.nil_append]
  have ln : ∀ L, prim ⟨dset G P D, L⟩ .lenSlice [dav0 .o P D] = some (.v (.int .i64 (D.a.length : Nat)), ⟨dset G P D, L⟩) := fun L => rfl
  have g1 : ∀ G, Good ⟨G, [some (dBlk (s.1.map byteAV) false false)]⟩ := fun G => ⟨dBlk_good, trivial⟩
  simp (disch := first | (simp only [DS, reduceCtorEq]; done) | omega) only [WS, St.guard, St.put, evalO, reduceCtorEq, reduceIte, Nat.reduceAdd, Nat.reduceEqDiff, box_bytes, s.2, d_ld3 h]
  cases hoff : D.off
  · by_cases h1 : at' < 0
    · have e : mayR D at' = 2 := by unfold mayR; rw [hoff, if_neg (by simp), if_pos (.inl h1)]
      have ew : D.rwrite at' s = D := by unfold DskD.rwrite; rw [e, if_neg (by omega)]
      have ee : rwriteE D at' = 2 := by unfold rwriteE; rw [e, if_neg (by omega)]
      rw [ew, ee]
      simp (disch := first | (simp only [DS, reduceCtorEq]; done) | omega) only [WS, St.guard, St.put, evalO, reduceCtorEq, reduceIte, Nat.reduceAdd, Nat.reduceEqDiff, h1, decide_true, fin_tmp, leave_v]
      simp
    · by_cases h2 : at' ≥ (D.a.length : Int)
      · have e : mayR D at' = 2 := by unfold mayR; rw [hoff, if_neg (by simp), if_pos (.inr h2)]
        have ew : D.rwrite at' s = D := by unfold DskD.rwrite; rw [e, if_neg (by omega)]
        have ee : rwriteE D at' = 2 := by unfold rwriteE; rw [e, if_neg (by omega)]
        rw [ew, ee]
        simp (disch := first | (simp only [DS, reduceCtorEq]; done) | omega) only [WS, St.guard, St.put, evalO, reduceCtorEq, reduceIte, Nat.reduceAdd, Nat.reduceEqDiff, h1, decide_false, d_ld0 h, ln, h2, decide_true, fin_tmp, leave_v]
        simp
      · have e : mayR D at' = 0 := by unfold mayR; rw [hoff, if_neg (by simp), if_neg (by omega)]
        obtain ⟨i, rfl⟩ : ∃ i : Nat, at' = (i : Int) := ⟨at'.toNat, by omega⟩
        have hi : i < D.a.length := by omega
        have ew : D.rwrite (i : Int) s = (D.rput i s).rhit := by unfold DskD.rwrite; rw [e, if_pos rfl]; rfl
        have ee : rwriteE D (i : Int) = if (D.rput i s).hits then 9 else 0 := by unfold rwriteE; rw [e, if_pos rfl]; rfl
        have v1 := fun L => d_v0 (L := L) h (D := D) rfl
        have ix1 : ∀ L, prim ⟨dset G P D, L⟩ (.indexAddr 64) [dav0 .o P D, .v (.int .i64 (i : Int))] = some (elemPtr (dav0 .o P D) 64 i, ⟨dset G P D, L⟩) := fun L => (v1 L).index hi
        have v2 := fun L => d_v2 (L := L) h (D := { D with a := D.a.set i s }) hl
        have ix2 : ∀ L, prim ⟨dset G P { D with a := D.a.set i s }, L⟩ (.indexAddr 1) [dav2 .o P D, .v (.int .i64 (i : Int))] = some (elemPtr (dav2 .o P D) 1 i, ⟨dset G P { D with a := D.a.set i s }, L⟩) := fun L => (v2 L).index (by show i < D.l.length; omega)
        have ld := load_sec (G := dset G P D) (L := [some (dBlk (s.1.map byteAV) false false)]) (j := 0) (bs := s.1) (o := false) (v := false) rfl s.2
        rw [ew, ee]
        simp (disch := first | (simp only [DS, reduceCtorEq]; done) | omega) only [WS, St.guard, St.put, evalO, reduceCtorEq, reduceIte, Nat.reduceAdd, Nat.reduceEqDiff, h1, decide_false, d_ld0 h, d_ld2 h, ln, h2, ld, ix1]
        refine WDP_loud (d_sta h hi) (g1 _).okAt ?_
        simp (disch := first | (simp only [DS, reduceCtorEq]; done) | omega) only [WS, St.guard, St.put, evalO, reduceCtorEq, reduceIte, Nat.reduceAdd, Nat.reduceEqDiff, ix2]
        refine WDP_loud (d_stl (D := { D with a := D.a.set i s }) h (by show i < D.l.length; omega)) (g1 _).okAt ?_
        simp (disch := first | (simp only [DS, reduceCtorEq]; done) | omega) only [WS, St.guard, St.put, evalO, reduceCtorEq, reduceIte, Nat.reduceAdd, Nat.reduceEqDiff]
        refine WP_of (op_turn ⟨dset G P (D.rput i s).rhit, [some (dBlk (s.1.map byteAV) false false)]⟩ (by
          have := refHit_spec H (D := D.rput i s) (h.app (X := [some (dBlk (s.1.map byteAV) false false)])) ha
          rw [dset_app h, dset_app h] at this
          exact this) rfl (by simp [dset_len]) rfl (g1 _) (g1 _)) ?_
        cases hh : (D.rput i s).hits
        · simp (disch := first | (simp only [DS, reduceCtorEq]; done) | omega) only [WS, St.guard, St.put, evalO, reduceCtorEq, reduceIte, Nat.reduceAdd, Nat.reduceEqDiff, fin_tmp, leave_v]
          simp
        · simp (disch := first | (simp only [DS, reduceCtorEq]; done) | omega) only [WS, St.guard, St.put, evalO, reduceCtorEq, reduceIte, Nat.reduceAdd, Nat.reduceEqDiff, fin_tmp, leave_v]
          simp
  · have e : mayR D at' = 9 := by unfold mayR; rw [hoff]; rfl
    have ew : D.rwrite at' s = D := by unfold DskD.rwrite; rw [e, if_neg (by omega)]
    have ee : rwriteE D at' = 9 := by unfold rwriteE; rw [e, if_neg (by omega)]
    rw [ew, ee]
    simp (disch := first | (simp only [DS, reduceCtorEq]; done) | omega) only [WS, St.guard, St.put, evalO, reduceCtorEq, reduceIte, Nat.reduceAdd, Nat.reduceEqDiff, fin_tmp, leave_v]
    simp
end Go.AM
namespace Go.AM
variable {prog : String → Option IFn}
variable {G L : List (Option Blk)} {P : DPos} {D : DskD} {n : Nat}
def DskD.sw (D : DskD) : DskD := ⟨D.b, D.a, D.l, D.off, D.armed⟩
theorem mayR_sw {at' : Int} : mayR D.sw at' = mayE D at' := rfl
theorem rwriteE_sw {at' : Int} : rwriteE D.sw at' = writeE D at' := rfl
theorem rhit_sw (ho : D.off = false) : D.sw.rhit = D.hit.sw := by
  unfold DskD.rhit DskD.hit
  show (if D.armed = 0 then _ else _) = _
  by_cases h0 : D.armed = 0
  · rw [if_pos h0, if_pos h0]
  · rw [if_neg h0, if_neg h0]
    show (if D.armed = 1 then _ else _) = _
    by_cases h1 : D.armed = 1
    · rw [if_pos h1]; simp only [DskD.sw, h1]; rfl
    · rw [if_neg h1]
      simp only [DskD.sw, beq_eq_false_iff_ne.2 h1, ho]
theorem rwrite_sw {at' : Int} {s : Sec} : D.sw.rwrite at' s = (D.write at' s).sw := by
  unfold DskD.rwrite DskD.write
  rw [mayR_sw]
  by_cases h : mayE D at' = 0
  · rw [if_pos h, if_pos h]
    exact rhit_sw (D := D.put at'.toNat s) (mayE_in h).2.2
  · rw [if_neg h, if_neg h]
theorem refSync_spec (H : RefDisk prog) (h : P.Ok G.length D.b.length) (hl : D.l.length = D.b.length) (hb : D.a.length = D.b.length) (ha : D.armed < 2 ^ 63) (h0 : 0 < D.b.length) (hN : D.b.length ≤ 20000) :
    Ev prog (.call "(*haberdash/haberdashref06.Disk).Sync" [.ptr (.o P.p) 5 0] (dset G P D.sw)) (.ret (.v (.int .i64 (writeE D 0))) (dset G P D.sync.sw)) := by
  refine call_of_fin H.sync ?_
  simp only [f___ref06_Disk__Sync_B, enter, List.length_cons, List.length_nil, List.replicate, Nat.reduceAdd, Nat.reduceSub, List.cons_append, List.nil_append]
  simp (disch := first | (simp only [DS, reduceCtorEq]; done) | omega) only [WS, St.guard, St.put, evalO, reduceCtorEq, reduceIte, Nat.reduceAdd, Nat.reduceEqDiff, d_ld3 h]
  cases hoff : D.off
  · have hm : mayE D 0 = 0 := by unfold mayE; rw [hoff, if_neg (by simp), if_neg (by omega)]
    have ee : writeE D 0 = if D.hits then 9 else 0 := by unfold writeE; rw [if_pos hm]
    have es : D.sync = if D.hits then D.hit else { D.hit with a := D.b, l := List.replicate D.l.length false } := by unfold DskD.sync; rw [if_pos hm]
    rw [ee, es]
    have e3 : D.sw.off = false := hoff
    rw [e3]
    simp (disch := first | (simp only [DS, reduceCtorEq]; done) | omega) only [WS, St.guard, St.put, evalO, reduceCtorEq, reduceIte, Nat.reduceAdd, Nat.reduceEqDiff]
    refine WP_of (op_turn ⟨dset G P D.hit.sw, []⟩ (by
      have := refHit_spec H (D := D.sw) (h.app (X := [])) ha
      rw [dset_app h, dset_app h, rhit_sw hoff] at this
      exact this) rfl (by simp [dset_len]) rfl trivial trivial) ?_
    have e4 : D.sw.hits = D.hits := rfl
    rw [e4]
    cases hh : D.hits
    · have hE : D.hit.b = D.b ∧ D.hit.a = D.a ∧ D.hit.l = D.l := by unfold DskD.hit; split <;> exact ⟨rfl, rfl, rfl⟩
      generalize D.hit = E at *
      obtain ⟨hEb, hEa, hEl⟩ := hE
      simp (disch := first | (simp only [DS, reduceCtorEq]; done) | omega) only [WS, St.guard, St.put, evalO, reduceCtorEq, reduceIte, Nat.reduceAdd, Nat.reduceEqDiff]
      have hlen1 : ∀ i, i ≤ D.b.length → (syncN E i).a.length = D.b.length := fun i hi => by simp [syncN, hEb, hEa]; omega
      have hlen2 : ∀ i, i ≤ D.b.length → (syncN E i).l.length = D.b.length := fun i hi => by simp [syncN, hEl]; omega
      have ln : ∀ L i, prim ⟨dset G P (syncN E i).sw, L⟩ .lenSlice [dav0 .o P (syncN E i).sw] = some (.v (.int .i64 (D.b.length : Nat)), ⟨dset G P (syncN E i).sw, L⟩) := fun L i => by rw [← hEb]; rfl
      refine WC_count (fun i => ⟨f___ref06_Disk__Sync_H0 (.ptr (.o P.p) 5 0) (.v (.int .i64 (i : Nat))), ⟨dset G P (syncN E i).sw, []⟩⟩) D.b.length ?_ (fun i hi => ?_) ?_
      · have : syncN E 0 = E := by unfold syncN; simp
        rw [this]
        exact clear_fre (by simp only [clear_nil, List.foldl_cons, List.foldl_nil, Option.some.injEq, LS, reduceCtorEq, reduceIte, Nat.reduceAdd] <;> rfl) (by rfl) (by rfl) (by rfl)
      · have hlt : (i : Int) < (D.b.length : Int) := by omega
        have hbi : E.b[i]? = some D.b[i] := by rw [hEb]; exact List.getElem?_eq_getElem hi
        have v0 := fun L => d_v0 (L := L) h (D := (syncN E i).sw) (congrArg List.length hEb)
        have v1 := fun L => d_v1 (L := L) h (D := (syncN E i).sw) (hlen1 i (by omega))
        have ix0 : ∀ L, prim ⟨dset G P (syncN E i).sw, L⟩ (.indexAddr 64) [dav0 .o P (syncN E i).sw, .v (.int .i64 (i : Int))] = some (elemPtr (dav0 .o P (syncN E i).sw) 64 i, ⟨dset G P (syncN E i).sw, L⟩) := fun L => (v0 L).index (by show i < E.b.length; rw [hEb]; exact hi)
        have ld : ∀ L, prim ⟨dset G P (syncN E i).sw, L⟩ (.load 64 true) [elemPtr (dav0 .o P (syncN E i).sw) 64 i] = some (.agg (D.b[i].1.map byteAV), ⟨dset G P (syncN E i).sw, L⟩) := fun L => (v0 L).load hbi
        have ix1 : ∀ L, prim ⟨dset G P (syncN E i).sw, L⟩ (.indexAddr 64) [dav1 .o P (syncN E i).sw, .v (.int .i64 (i : Int))] = some (elemPtr (dav1 .o P (syncN E i).sw) 64 i, ⟨dset G P (syncN E i).sw, L⟩) := fun L => (v1 L).index (by show i < (syncN E i).a.length; rw [hlen1 i (by omega)]; exact hi)
        have v2 := fun L => d_v2 (L := L) h (D := { (syncN E i).sw with b := (syncN E i).sw.b.set i D.b[i] }) (hlen2 i (by omega))
        have ix2 : ∀ L, prim ⟨dset G P { (syncN E i).sw with b := (syncN E i).sw.b.set i D.b[i] }, L⟩ (.indexAddr 1) [dav2 .o P (syncN E i).sw, .v (.int .i64 (i : Int))] = some (elemPtr (dav2 .o P (syncN E i).sw) 1 i, ⟨dset G P { (syncN E i).sw with b := (syncN E i).sw.b.set i D.b[i] }, L⟩) := fun L => (v2 L).index (by show i < (syncN E i).l.length; rw [hlen2 i (by omega)]; exact hi)
        have hnext : ({ (syncN E i).sw with b := (syncN E i).sw.b.set i D.b[i], l := (syncN E i).sw.l.set i false } : DskD) = (syncN E (i + 1)).sw := by
          unfold syncN DskD.sw
          simp only
          rw [take_drop_set hbi (by rw [hEa]; omega), take_drop_set (by rw [List.getElem?_replicate, if_pos (by rw [hEl]; omega)]) (by rw [hEl]; omega)]
        simp (disch := first | (simp only [DS, reduceCtorEq]; done) | omega) only [f___ref06_Disk__Sync_L0, f___ref06_Disk__Sync_H0, WS, St.guard, St.put, evalO, reduceCtorEq, reduceIte, Nat.reduceAdd, Nat.reduceEqDiff, d_ld0 h, ln, hlt, decide_true, d_ld1 h, d_ld2 h, ix1, ld, ix0]
        refine WDP_loud (d_stb h (by show i < (syncN E i).a.length; rw [hlen1 i (by omega)]; exact hi)) (good0.okAt) ?_
        simp (disch := first | (simp only [DS, reduceCtorEq]; done) | omega) only [WS, St.guard, St.put, evalO, reduceCtorEq, reduceIte, Nat.reduceAdd, Nat.reduceEqDiff, ix2]
        refine WDP_loud (d_stl (D := { (syncN E i).sw with b := (syncN E i).sw.b.set i D.b[i] }) h (by show i < (syncN E i).l.length; rw [hlen2 i (by omega)]; exact hi)) (good0.okAt) ?_
        simp only [hnext]
        simp (disch := first | (simp only [DS, reduceCtorEq]; done) | omega) only [WS, St.guard, St.put, evalO, reduceCtorEq, reduceIte, Nat.reduceAdd, Nat.reduceEqDiff, vBin_add_i64]
        exact clear_fre (by simp only [clear_nil, List.foldl_cons, List.foldl_nil, Option.some.injEq, LS, reduceCtorEq, reduceIte, Nat.reduceAdd] <;> rfl) (by rfl) (by rfl) (by rfl)
      · have hend : syncN E D.b.length = { E with a := D.b, l := List.replicate D.l.length false } := by
          unfold syncN
          rw [hEb, hEa, hEl, List.take_of_length_le (Nat.le_refl _), List.drop_of_length_le (by omega), List.take_of_length_le (by simp; omega), List.drop_of_length_le (by omega), List.append_nil, List.append_nil]
        simp (disch := first | (simp only [DS, reduceCtorEq]; done) | omega) only [f___ref06_Disk__Sync_L0, f___ref06_Disk__Sync_H0, WS, St.guard, St.put, evalO, reduceCtorEq, reduceIte, Nat.reduceAdd, Nat.reduceEqDiff, d_ld0 h, ln, Int.lt_irrefl, decide_false, fin_tmp, leave_v]
        rw [hend]
        simp
    · simp (disch := first | (simp only [DS, reduceCtorEq]; done) | omega) only [WS, St.guard, St.put, evalO, reduceCtorEq, reduceIte, Nat.reduceAdd, Nat.reduceEqDiff, fin_tmp, leave_v]
      simp
  · have hm : mayE D 0 = 9 := by unfold mayE; rw [hoff]; rfl
    have ew : D.sync = D := by unfold DskD.sync; rw [if_neg (by omega)]
    have ee : writeE D 0 = 9 := by unfold writeE; rw [if_neg (by omega), hm]
    have e3 : D.sw.off = true := hoff
    rw [ew, ee, e3]
    simp (disch := first | (simp only [DS, reduceCtorEq]; done) | omega) only [WS, St.guard, St.put, evalO, reduceCtorEq, reduceIte, Nat.reduceAdd, Nat.reduceEqDiff, fin_tmp, leave_v]
    simp
end Go.AM
namespace Go.AM
variable {prog : String → Option IFn}
variable {G L : List (Option Blk)} {P : DPos} {D : DskD} {n : Nat}
def secSet (s : Sec) (j : Nat) (c : UInt8) : Sec := ⟨s.1.set j c, by rw [List.length_set]; exact s.2⟩
theorem secE_set {s : Sec} {j : Nat} {c : UInt8} : secE.E (secSet s j c) = (secE.E s).set j (byteAV c) := by
  show (s.1.set j c).map byteAV = (s.1.map byteAV).set j (byteAV c)
  rw [List.map_set]
section
variable (h : P.Ok G.length n)
include h
theorem d_stbb {i j : Nat} {c : UInt8} {s : Sec} (hbi : D.b[i]? = some s) (hj : j < 64) :
    prim ⟨dset G P D, L⟩ (.store 1 false) [.ptr (.o P.q1) (D.b.length * 64) (i * 64 + j), byteAV c] = some (.v undef, ⟨dset G P { D with b := D.b.set i (secSet s j c) }, L⟩) := by
  have hi := lt_of_get hbi
  rw [px_store, show (byteAV c).cellsOf = some [byteAV c] from rfl]
  simp only [Option.bind_some, Hp.mayFreeze, Hp.get, dset_1 h, dsec, Option.join_some, Bool.false_eq_true, if_false, dBlk_cells]
  have hlt : i * 64 + j < D.b.length * 64 := by omega
  refine (if_pos ⟨secE.row_len _, rfl, rfl, by omega, rfl⟩).trans ?_
  rw [lay_one (by rw [secE.row_len]; exact hlt)]
  have e := row_setf (T := secE) (f := j) (x := byteAV c) (by show j < 64; omega) (z := s) (z' := secSet s j c) secE_set hbi
  have e' : (secE.row D.b).set (i * 64 + j) (byteAV c) = secE.row (D.b.set i (secSet s j c)) := e
  rw [e', ← set_b h (A := D.b.set i (secSet s j c)) (by simp)]
  rfl
theorem d_ldab {i j : Nat} {s : Sec} (hbi : D.a[i]? = some s) (hj : j < 64) :
    prim ⟨dset G P D, L⟩ (.load 1 false) [.ptr (.o P.q0) (D.a.length * 64) (i * 64 + j)] = some (byteAV (s.1.getD j 0), ⟨dset G P D, L⟩) := by
  have hi := lt_of_get hbi
  rw [px_load_o, dset_0 h]
  show (if (secE.row D.a).length = _ ∧ _ then (whole false (((secE.row D.a).drop (i * 64 + j)).take 1)).map _ else none) = _
  refine (if_pos ⟨secE.row_len _, by omega⟩).trans ?_
  have e1 : ((secE.row D.a).drop (i * 64 + j)).take 1 = [byteAV (s.1.getD j 0)] := by
    have ch := secE.row_chunk hbi
    have hlen := s.2
    have e2 : (secE.row D.a)[i * 64 + j]? = some (byteAV (s.1.getD j 0)) := by
      have := congrArg (fun l : List AV => l[j]?) ch
      simp only [List.getElem?_take] at this
      rw [if_pos (show j < secE.esz from hj), List.getElem?_drop] at this
      rw [show i * secE.esz + j = i * 64 + j from rfl] at this
      rw [this]
      show (s.1.map byteAV)[j]? = _
      rw [List.getElem?_map, List.getD_eq_getElem?_getD, List.getElem?_eq_getElem (by omega)]; rfl
    rw [List.take_one, List.head?_drop, e2]; rfl
  rw [e1]; rfl
end
def crN (E : DskD) (i : Nat) (m : Sec) : DskD := ⟨E.b, E.a.set i m, E.l, E.off, E.armed⟩
theorem mixS_zero {s u : Sec} : mixS 0 s u = s := by apply Subtype.ext; show u.1.take 0 ++ s.1.drop 0 = _; simp
theorem clampN_nat {j : Nat} (hj : j ≤ 64) : clampN (j : Int) = j := by unfold clampN; omega
theorem mixS_succ {s u : Sec} {j : Nat} (hj : j < 64) : secSet (mixS (j : Int) s u) j (u.1.getD j 0) = mixS ((j + 1 : Nat) : Int) s u := by
  have hu := u.2; have hs := s.2
  apply Subtype.ext
  show (u.1.take (clampN (j : Int)) ++ s.1.drop (clampN (j : Int))).set j (u.1.getD j 0) = u.1.take (clampN ((j + 1 : Nat) : Int)) ++ s.1.drop (clampN ((j + 1 : Nat) : Int))
  rw [clampN_nat (by omega), clampN_nat (by omega)]
  exact take_drop_set (by rw [List.getD_eq_getElem?_getD, List.getElem?_eq_getElem (by omega)]; rfl) (by omega)
theorem mixS_clamp {k : Int} {s u : Sec} : mixS ((clampN k : Nat) : Int) s u = mixS k s u := by
  apply Subtype.ext
  show u.1.take (clampN ((clampN k : Nat) : Int)) ++ _ = u.1.take (clampN k) ++ _
  rw [clampN_nat clampN_le]
end Go.AM
