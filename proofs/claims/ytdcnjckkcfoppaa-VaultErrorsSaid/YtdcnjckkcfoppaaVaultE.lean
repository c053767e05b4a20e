import Derived.Test.YtdcnjckkcfoppaaVaultB
import Derived.Test.YtdcnjckkcfoppaaJourE
import Derived.Test.YtdcnjckkcfoppaaVaultC
set_option linter.unusedVariables false
set_option linter.unusedSimpArgs false
namespace Go.AM
variable {prog : String → Option IFn}
variable {G L : List (Option Blk)} {P : DPos} {D : DskD} {n q p pv i j : Nat} {B : Option Blk} {cs : List AV} {J J0 J1 : JD} {V : VD}
def yX (P : DPos) (i : Nat) (J : JD) : List AV := yC (fun k => if k = 0 then .l i else .o (k - 1)) (P.p + 1) 0 J
theorem yX_up {g : Nat} : AV.ren.rens (up g) (yX P i J) = yC .o P.p (g + i) J := by
  simp [yX, yC, AV.ren.rens, AV.ren, up]
theorem yX_labs : AV.labs.labss (yX P i J) = [.o P.p, .l i] := by simp [yX, yC_labs']
def fy (L : List (Option Blk)) (P : DPos) (i j : Nat) (J : JD) : List (Option Blk) := (L.set i (recB J.recs)).set j (some (sBlk (yX P i J) false))
theorem fy_len : (fy L P i j J).length = L.length := by simp [fy]
theorem into_fy (h : P.Ok G.length n) : (⟨dset G P D, fy L P i j J⟩ : Hp).into = dj (⟨G, L⟩ : Hp).into P (G.length + i) (G.length + j) D (recB J.recs) (yC .o P.p (G.length + i) J) := by
  rw [into_dsetL h]
  have s : ∀ (M : List (Option Blk)) (k : Nat) (x : Option Blk), (G ++ M).set (G.length + k) x = G ++ M.set k x := fun M k x => by rw [List.set_append_right _ _ (by omega)]; simp
  have e2 : (some (sBlk (yX P i J) false)).map (Blk.ren (up G.length)) = some (sBlk (yC .o P.p (G.length + i) J) false) := by
    simp only [Option.map_some, Blk.ren, sBlk, Bool.false_eq_true, if_false, yX_up]
  have e1 : (recB J.recs).map (Blk.ren (up G.length)) = recB J.recs := rfl
  have ei : (⟨G, fy L P i j J⟩ : Hp).into = ((⟨G, L⟩ : Hp).into.set (G.length + i) (recB J.recs)).set (G.length + j) (some (sBlk (yC .o P.p (G.length + i) J) false)) := by
    unfold Hp.into fy
    simp only [List.map_set, e1, e2]
    rw [s, s]
  rw [ei]
  unfold dj oset
  have hg : G.length ≤ (⟨G, L⟩ : Hp).into.length := by rw [into_len]; simp
  have hp := h.hp; have h0 := h.h0; have h1 := h.h1; have h2 := h.h2
  have far : ∀ (M : List (Option Blk)) (k : Nat) (x : Option Blk), G.length ≤ k → dset (M.set k x) P D = (dset M P D).set k x := fun M k x hk => by
    unfold dset
    rw [List.set_comm x _ (by omega : k ≠ P.q0), List.set_comm x _ (by omega : k ≠ P.q1), List.set_comm x _ (by omega : k ≠ P.q2), List.set_comm x _ (by omega : k ≠ P.p)]
  rw [far _ _ _ (by omega), far _ _ _ (by omega)]
theorem f_goodY (hg : Good ⟨dset G P D, L⟩) (h : P.Ok G.length n) (hij : i < j) : Good ⟨dset G P D, fy L P i j J⟩ := by
  have hp := h.hp
  have g1 : Good ⟨dset G P D, L.set i (recB J.recs)⟩ := Good.setO (h := ⟨dset G P D, L⟩) hg (fun b hb => by cases hb; rfl)
  refine Good.setB g1 ?_
  show (AV.labs.labss (yX P i J)).all _ = true
  rw [yX_labs]
  simp [refLt, dset_len]; omega
theorem fopY {f xs} {r : AV} {D' : DskD} {J' : JD} (h : P.Ok G.length n) (hij : i < j) (hj : j < L.length) (hg : Good ⟨dset G P D, L⟩) (hr : r.lf = true)
    (he : Ev prog (.call f (xs.map (AV.ren (up G.length))) (dj (⟨G, L⟩ : Hp).into P (G.length + i) (G.length + j) D (recB J.recs) (yC .o P.p (G.length + i) J))) (.ret r (dj (⟨G, L⟩ : Hp).into P (G.length + i) (G.length + j) D' (recB J'.recs) (yC .o P.p (G.length + i) J')))) :
    Ev prog (.op (.call f []) xs ⟨dset G P D, fy L P i j J⟩) (.val r ⟨dset G P D', fy L P i j J'⟩) := by
  refine op_turn ⟨dset G P D', fy L P i j J'⟩ ?_ hr (by simp only [dset_len]) (by simp only [fy_len]) (f_goodY hg h hij) (f_goodY (good_D hg) h hij)
  rw [into_fy h, into_fy h]
  simp only [dset_len]
  exact he
theorem fobjY {f xs} {J' : JD} (h : P.Ok G.length n) (hg : Good ⟨dset G P D, L⟩) (hij : i ≠ j) (hi : L[i]? = some none) (hj : L[j]? = some none) (hx : ∀ g, xs.map (AV.ren (up g)) = xs)
    (he : Ev prog (.call f xs (dset (⟨G, L⟩ : Hp).into P D)) (.ret (.tup [.ptr (.o ((⟨G, L⟩ : Hp).into.length + 1)) 8 0, .v (.int .i64 0)]) (dset (⟨G, L⟩ : Hp).into P D ++ newYO (⟨G, L⟩ : Hp).into.length P.p J'))) :
    Ev prog (.op (.call f [i, j]) xs ⟨dset G P D, L⟩) (.val (.tup [.ptr (.l j) 8 0, .v (.int .i64 0)]) ⟨dset G P D, fy L P i j J'⟩) := by
  have hp := h.hp
  have hil : (⟨dset G P D, L⟩ : Hp).into.length = (⟨G, L⟩ : Hp).into.length := by rw [into_len, into_len]; simp only [dset_len]
  refine op_obj (h := ⟨dset G P D, L⟩) (Bq := dBlk (recE.row J'.recs) true J'.recs.isEmpty) (cs := yC .o P.p (⟨dset G P D, L⟩ : Hp).into.length J') (cs2 := yX P i J') (fun a => .tup [a, .v (.int .i64 0)]) (fun ρ a => rfl) ?_ hij hi hj hg rfl ?_
  · rw [hx, hil, into_dsetL h]; exact he
  · have d0 : down (dset G P D).length L.length [i, j] (.o P.p) = some (.o P.p) := by simp only [down, dset_len]; rw [if_pos hp]
    have d1 : down (dset G P D).length L.length [i, j] (.o (⟨dset G P D, L⟩ : Hp).into.length) = some (.l i) := down_into0 (h := ⟨dset G P D, L⟩) (sites := [i, j])
    show AV.ren.rens (down (dset G P D).length L.length [i, j]) _ = _
    simp only [yC, yX, AV.ren.rens, AV.ren, d0, d1]
    simp
def rvC (f : Nat → Lab) (pd pj : Nat) (V : VD) : List AV := [.ptr (f pd) 5 0, .ptr (f pj) 8 0, .v (.int .i64 (V.half : Nat)), .v (u32 V.ep), .v (.bool V.dead)]
def yB (P : DPos) (i : Nat) (J : JD) : Option Blk := some (sBlk (yX P i J) false)
def newRO (g pd : Nat) (J : JD) (V : VD) : List (Option Blk) := [recB J.recs, some (sBlk (yC .o pd g J) false), some (sBlk (rvC .o pd (g + 1) V) false)]
theorem leave_r3 {g : List (Option Blk)} {half : Nat} {ep : BitVec 32} {dead : Bool} {x : Value} (hc : i = 0 ∧ j = 1 ∨ i = 2 ∧ j = 3 ∨ i = 4 ∧ j = 5) (hi : L[i]? = some (recB J.recs)) (hj : L[j]? = some (yB P i J)) (hv : L[6]? = some (vB P (.ptr (.l j) 8 0) half ep dead)) (hp : P.p < g.length) :
    (⟨g, L⟩ : Hp).leave (.tup [.ptr (.l 6) 5 0, .v x]) = some (.tup [.ptr (.o (g.length + 2)) 5 0, .v x], g ++ [recB J.recs, some (sBlk (yC .o P.p g.length J) false), some (sBlk (rvC .o P.p (g.length + 1) ⟨half, ep, dead⟩) false)]) := by
  have h1 : (⟨g, L⟩ : Hp).get (.l i) = some (dBlk (recE.row J.recs) true J.recs.isEmpty) := by
    show (L[i]?).join = _; rw [hi]; rfl
  have h2 : (⟨g, L⟩ : Hp).get (.l j) = some (sBlk (yX P i J) false) := by
    show (L[j]?).join = _; rw [hj]; rfl
  have h3 : (⟨g, L⟩ : Hp).get (.l 6) = some (sBlk [.ptr (.o P.p) 5 0, .ptr (.l j) 8 0, .v (.int .i64 (half : Nat)), .v (u32 ep), .v (.bool dead)] false) := by
    show (L[6]?).join = _; rw [hv]; rfl
  have s1 : (dBlk (recE.row J.recs) true J.recs.isEmpty).labs = [] := rfl
  have s2 : (sBlk (yX P i J) false).labs = [.o P.p, .l i] := yX_labs
  have s3 : (sBlk [.ptr (.o P.p) 5 0, .ptr (.l j) 8 0, .v (.int .i64 (half : Nat)), .v (u32 ep), .v (.bool dead)] false).labs = [.o P.p, .l j] := by
    show AV.labs.labss _ = _
    simp [sBlk, AV.labs.labss, AV.labs]
  have hcol : collect (⟨g, L⟩ : Hp) 40 [.l 6] [] = [6, j, i] := by
    rcases hc with ⟨rfl, rfl⟩ | ⟨rfl, rfl⟩ | ⟨rfl, rfl⟩ <;> simp [collect, h1, h2, h3, s1, s2, s3]
  have k0 : keepMap g.length [i, j, 6] (.l i) = some (.o g.length) := by
    rcases hc with ⟨rfl, rfl⟩ | ⟨rfl, rfl⟩ | ⟨rfl, rfl⟩ <;> rfl
  have k1 : keepMap g.length [i, j, 6] (.l j) = some (.o (g.length + 1)) := by
    rcases hc with ⟨rfl, rfl⟩ | ⟨rfl, rfl⟩ | ⟨rfl, rfl⟩ <;> rfl
  have k2 : keepMap g.length [i, j, 6] (.l 6) = some (.o (g.length + 2)) := by
    rcases hc with ⟨rfl, rfl⟩ | ⟨rfl, rfl⟩ | ⟨rfl, rfl⟩ <;> rfl
  have kp : keepMap g.length [i, j, 6] (.o P.p) = some (.o P.p) := rfl
  have r2 : AV.ren.rens (keepMap g.length [i, j, 6]) (yX P i J) = yC .o P.p g.length J := by
    simp [yX, yC, AV.ren.rens, AV.ren, k0, kp]
  have r3 : (sBlk [.ptr (.o P.p) 5 0, .ptr (.l j) 8 0, .v (.int .i64 (half : Nat)), .v (u32 ep), .v (.bool dead)] false).ren (keepMap g.length [i, j, 6]) = sBlk (rvC .o P.p (g.length + 1) ⟨half, ep, dead⟩) false := by
    simp [Blk.ren, sBlk, rvC, AV.ren.rens, AV.ren, k1, kp]
  have r2' : (sBlk (yX P i J) false).ren (keepMap g.length [i, j, 6]) = sBlk (yC .o P.p g.length J) false := by
    simp only [Blk.ren, sBlk, Bool.false_eq_true, if_false, r2]
  have r1 : ∀ ρ, (dBlk (recE.row J.recs) true J.recs.isEmpty).ren ρ = dBlk (recE.row J.recs) true J.recs.isEmpty := fun ρ => rfl
  have hl : (AV.tup [.ptr (.l 6) 5 0, .v x]).labs = [.l 6] := by simp [AV.labs, AV.labs.labss]
  have hr : (AV.tup [.ptr (.l 6) 5 0, .v x]).ren (keepMap g.length [i, j, 6]) = .tup [.ptr (.o (g.length + 2)) 5 0, .v x] := by
    simp [AV.ren, AV.ren.rens, k2]
  have e1 : L[i]?.join = some (dBlk (recE.row J.recs) true J.recs.isEmpty) := h1
  have e2 : L[j]?.join = some (sBlk (yX P i J) false) := h2
  have e3 : L[6]?.join = _ := h3
  unfold Hp.leave
  simp only [hl, hcol, List.reverse_cons, List.reverse_nil, List.nil_append, List.cons_append, List.map_cons, List.map_nil, e1, e2, e3, Option.map_some, r1, r2', r3, hr]
  rw [if_pos]
  · rfl
  · refine ⟨?_, by rcases hc with ⟨rfl, rfl⟩ | ⟨rfl, rfl⟩ | ⟨rfl, rfl⟩ <;> decide⟩
    have l2 : (sBlk (yC .o P.p g.length J) false).labs = [.o P.p, .o g.length] := yC_labs'
    have l3 : (sBlk (rvC .o P.p (g.length + 1) ⟨half, ep, dead⟩) false).labs = [.o P.p, .o (g.length + 1)] := by
      show AV.labs.labss _ = _
      simp [sBlk, rvC, AV.labs.labss, AV.labs]
    simp only [outBlks, s1, l2, l3, List.all_nil, List.all_cons, Bool.and_true, Bool.true_and, labLt]
    simp
    omega
structure RefV (prog : String → Option IFn) : Prop extends RefJ prog where
  rblank : prog "haberdash/haberdashref06.Blank" = some f_ref06_Blank
  ropen : prog "haberdash/haberdashref06.Open" = some f_ref06_Open
  rrecord : prog "(*haberdash/haberdashref06.Journal).record" = some f___ref06_Journal__record
  rovault : prog "haberdash/haberdashref06.OpenVault" = some f_ref06_OpenVault
  rmark : prog "haberdash/haberdashref04.Mark" = some f_ref04_Mark
def rL (P : DPos) (J0 J1 : JD) (Y0 Y1 Y2 V : Option Blk) : List (Option Blk) := [recB J0.recs, yB P 0 J0, recB J1.recs, yB P 2 J1, Y0, Y1, V, Y2]
def jpOk6 (a : AV) : Bool := a.labs.all (refLt 0 6)
theorem yB_good {g k i : Nat} (hp : P.p < g) (hi : i < k) : ∀ b, yB P i J = some b → b.labs.all (refLt g k) = true := fun b e => by
  injection e with e; subst e
  refine sBlk_good ?_
  rw [yX_labs]
  simp [refLt, hp, hi]
theorem refLt_mono6 {g k : Nat} {x : Lab} (h : refLt 0 k x = true) : refLt g k x = true := by
  cases x with
  | o i => simp [refLt] at h
  | l i => exact h
theorem good_rL (hp : P.p < G.length) {Y0 Y2 : Option Blk} {jp : AV} {half : Nat} {ep : BitVec 32} {dead : Bool} (h0 : ∀ b, Y0 = some b → b.labs = []) (h2 : ∀ b, Y2 = some b → b.labs = []) (hj : jpOk6 jp = true) {Y1 : Option Blk} (h1 : Y1 = none ∨ ∃ J, Y1 = yB P 4 J) :
    Good ⟨dset G P D, rL P J0 J1 Y0 Y1 Y2 (vB P jp half ep dead)⟩ := by
  have hl : (dset G P D).length = G.length := dset_len
  have d : ∀ {Y : Option Blk} {k}, (∀ b, Y = some b → b.labs = []) → ∀ b, Y = some b → b.labs.all (refLt G.length k) = true := fun h b e => by rw [h b e]; rfl
  have rb : ∀ (J : JD) k, ∀ b, recB J.recs = some b → b.labs.all (refLt G.length k) = true := fun J k b e => by cases e; rfl
  unfold Good rL
  rw [hl]
  refine goodL_opt (rb _ _) (goodL_opt (yB_good hp (by omega)) (goodL_opt (rb _ _) (goodL_opt (yB_good hp (by omega)) (goodL_opt (d h0) (goodL_opt ?_ (goodL_opt (fun b e => ?_) (goodL_opt (d h2) trivial)))))))
  · rcases h1 with h1 | ⟨J, h1⟩
    · rw [h1]; intro b e; cases e
    · rw [h1]; exact yB_good hp (by omega)
  · injection e with e; subst e
    refine sBlk_good ?_
    have hj' : jp.labs.all (refLt G.length 6) = true := by
      unfold jpOk6 at hj
      rw [List.all_eq_true] at hj ⊢
      exact fun x hx => refLt_mono6 (hj x hx)
    simp [AV.labs.labss, AV.labs, refLt, hp] at hj' ⊢
    exact hj'
def opBg (D : DskD) : Int × DskD × JD := bgJ D 0 (D.b.length / 2) (vEp D) []
def opFirst (D : DskD) : Prop := (vJ0 D).fi = 0#32 ∧ vHalf D = 0
instance {D : DskD} : Decidable (opFirst D) := by unfold opFirst; infer_instance
def rvAns (G : List (Option Blk)) (P : DPos) (D : DskD) : AV × List (Option Blk) :=
  if openEr D ≠ 0 then (.tup [.v (.pointer none), .v (.int .i64 (openEr D))], dset G P D.sw)
  else if opFirst D ∧ (opBg D).1 ≠ 0 then (.tup [.v (.pointer none), .v (.int .i64 (opBg D).1)], dset G P (opBg D).2.1.sw)
  else (.tup [.ptr (.o (G.length + 2)) 5 0, .v (.int .i64 0)], dset G P (openV D).1.sw ++ newRO G.length P.p (openV D).2.1 (openV D).2.2)
set_option maxRecDepth 100000 in
set_option maxHeartbeats 4000000 in
theorem ROpen_spec (H : RefV prog) (h : P.Ok G.length D.b.length) (z : Siz D D.b.length) (hl : D.b.length ≤ 20000) :
    Ev prog (.call "haberdash/haberdashref06.OpenVault" [.ptr (.o P.p) 5 0] (dset G P D.sw)) (.ret (rvAns G P D).1 (rvAns G P D).2) := by
  have hp := h.hp
  refine call_of_fin H.rovault ?_
  simp only [f_ref06_OpenVault_B, enter, List.length_cons, List.length_nil, List.replicate, Nat.reduceAdd, Nat.reduceSub, List.cons_append, List.nil_append]
  have l0 : ∀ L, prim ⟨dset G P D.sw, L⟩ (.load 1 false) [.ptr (.o P.p) 5 0] = some (dav0 .o P D.sw, ⟨dset G P D.sw, L⟩) := fun L => d_ld0 h
  have l3 : ∀ L, prim ⟨dset G P D.sw, L⟩ (.load 1 false) [.ptr (.o P.p) 5 3] = some (.v (.bool D.off), ⟨dset G P D.sw, L⟩) := fun L => d_ld3 h
  have ln : ∀ L, prim ⟨dset G P D.sw, L⟩ .lenSlice [dav0 .o P D.sw] = some (.v (.int .i64 (D.b.length : Nat)), ⟨dset G P D.sw, L⟩) := fun L => rfl
  have dv : ∀ L, TView secE ⟨dset G P D.sw, L⟩ (dav0 .o P D.sw) D.b := fun L => d_v0 h (D := D.sw) rfl
  have hq : vBin .quo (.int .i64 (D.b.length : Nat)) (.int .i64 2) = some (.int .i64 ((D.b.length / 2 : Nat))) := vBin_quo_i64 2 rfl (by omega) (by omega)
  have z0 : (.int .u32 0 : Value) = u32 0#32 := rfl
  have np : ∀ ks, noRef ks (.ptr (.o P.p) 5 0) = true := fun ks => by simp [noRef, AV.labs, labNot]
  rw [z0]
  have hend : ∀ {D : DskD} {X : List (Option Blk)} {e : Int}, (⟨dset G P D.sw, X⟩ : Hp).leave (.tup [.v (.pointer none), .v (.int .i64 e)]) = some (.tup [.v (.pointer none), .v (.int .i64 e)], dset G P D.sw) := leave_lf rfl
  have hbad : ∀ e, openEr D = e → e ≠ 0 → rvAns G P D = (.tup [.v (.pointer none), .v (.int .i64 e)], dset G P D.sw) := fun e he h0 => by
    unfold rvAns; rw [if_pos (by rw [he]; exact h0), he]
  simp (disch := first | (simp only [DS, reduceCtorEq]; done) | omega) only [WS, St.guard, St.put, evalO, reduceCtorEq, reduceIte, Nat.reduceAdd, Nat.reduceEqDiff, isNilV, Hp.isNil, l0, ln, hq]
  by_cases c4 : D.b.length < 4
  · have c : ((D.b.length / 2 : Nat) : Int) < 2 := by omega
    rw [hbad 2 (by unfold openEr; rw [if_pos c4]) (by decide)]
    simp (disch := first | (simp only [DS, reduceCtorEq]; done) | omega) only [WS, St.guard, St.put, evalO, reduceCtorEq, reduceIte, Nat.reduceAdd, Nat.reduceEqDiff, c, decide_true, fin_tmp2]
    exact ⟨by simp, hend⟩
  have c : ¬ ((D.b.length / 2 : Nat) : Int) < 2 := by omega
  simp (disch := first | (simp only [DS, reduceCtorEq]; done) | omega) only [WS, St.guard, St.put, evalO, reduceCtorEq, reduceIte, Nat.reduceAdd, Nat.reduceEqDiff, c, decide_false, l3]
  cases ho : D.off with
  | true =>
    rw [hbad 9 (by unfold openEr; rw [if_neg c4, ho]; rfl) (by decide)]
    simp (disch := first | (simp only [DS, reduceCtorEq]; done) | omega) only [WS, St.guard, St.put, evalO, reduceCtorEq, reduceIte, Nat.reduceAdd, Nat.reduceEqDiff, fin_tmp2]
    exact ⟨by simp, hend⟩
  | false =>
  simp (disch := first | (simp only [DS, reduceCtorEq]; done) | omega) only [WS, St.guard, St.put, evalO, reduceCtorEq, reduceIte, Nat.reduceAdd, Nat.reduceEqDiff]
  refine WC_count (fun i => ⟨f_ref06_OpenVault_H0 (.ptr (.o P.p) 5 0) (.v (.int .i64 (D.b.length / 2 : Nat))) (.v (u32 (grF D.b i))) (.v (.int .i64 (i : Nat))), ⟨dset G P D.sw, [none, none, none, none, none, none, none, none]⟩⟩) D.b.length ?_ (fun i hi => ?_) ?_
  · exact clear_fre (by simp only [clear_nil, List.foldl_cons, List.foldl_nil, Option.some.injEq, LS, reduceCtorEq, reduceIte, Nat.reduceAdd] <;> rfl) (by rfl) (by simp only [f_ref06_OpenVault_H0, List.all_cons, List.all_nil, noRef_v, noRef_dead, noRef_own, noRef_ptr, noRef_nil, Bool.and_true, Bool.true_and, Bool.and_self, List.contains_cons, List.contains_nil, Bool.or_false, Nat.reduceBEq, Bool.not_false, np]) (by rfl)
  · have hlt : (i : Int) < (D.b.length : Int) := by omega
    obtain ⟨w, hw⟩ : ∃ w, D.b[i]? = some w := ⟨_, List.getElem?_eq_getElem hi⟩
    have hg : grF D.b (i + 1) = maxU (grF D.b i) (markS w) := by
      show maxU _ (markS (secAt D.b (i : Nat))) = _
      unfold secAt; rw [Int.toNat_natCast, List.getD_eq_getElem?_getD, hw]; rfl
    have ix : ∀ L, prim ⟨dset G P D.sw, L⟩ (.indexAddr 64) [dav0 .o P D.sw, .v (.int .i64 (i : Int))] = some (elemPtr (dav0 .o P D.sw) 64 i, ⟨dset G P D.sw, L⟩) := fun L => (dv L).index hi
    have lw : ∀ L, prim ⟨dset G P D.sw, L⟩ (.load 64 true) [elemPtr (dav0 .o P D.sw) 64 i] = some (.agg (w.1.map byteAV), ⟨dset G P D.sw, L⟩) := fun L => (dv L).load hw
    simp (disch := first | (simp only [DS, reduceCtorEq]; done) | omega) only [f_ref06_OpenVault_L0, f_ref06_OpenVault_H0, WS, St.guard, St.put, evalO, reduceCtorEq, reduceIte, Nat.reduceAdd, Nat.reduceEqDiff, l0, ln, hlt, decide_true, ix, lw]
    refine (WP_p (x := u32 (markS w)) (by
      simp only [List.map_cons, List.map_nil, ren_sec]
      exact RefMark_spec H.rmark H.rfour w.2) (by exact trivial)).2 ?_
    simp (disch := first | (simp only [DS, reduceCtorEq]; done) | omega) only [WS, St.guard, St.put, evalO, reduceCtorEq, reduceIte, Nat.reduceAdd, Nat.reduceEqDiff, max_u32, vBin_add_i64]
    rw [hg]
    exact clear_fre (by simp only [clear_nil, List.foldl_cons, List.foldl_nil, Option.some.injEq, LS, reduceCtorEq, reduceIte, Nat.reduceAdd] <;> rfl) (by rfl) (by simp only [f_ref06_OpenVault_H0, List.all_cons, List.all_nil, noRef_v, noRef_dead, noRef_own, noRef_ptr, noRef_nil, Bool.and_true, Bool.true_and, Bool.and_self, List.contains_cons, List.contains_nil, Bool.or_false, Nat.reduceBEq, Bool.not_false, np]) (by rfl)
  have hEr : openEr D = if grF D.b D.b.length = BitVec.allOnes 32 then 6 else 0 := by unfold openEr; rw [if_neg c4, ho]; rfl
  by_cases hM : grF D.b D.b.length = BitVec.allOnes 32
  · rw [hbad 6 (by rw [hEr, if_pos hM]) (by decide)]
    simp (disch := first | (simp only [DS, reduceCtorEq]; done) | omega) only [f_ref06_OpenVault_L0, f_ref06_OpenVault_H0, WS, St.guard, St.put, evalO, reduceCtorEq, reduceIte, Nat.reduceAdd, Nat.reduceEqDiff, l0, ln, Int.lt_irrefl, decide_false, vBin_eq_max, hM, decide_true, fin_tmp2]
    exact ⟨by simp, hend⟩
  have hE0 : openEr D = 0 := by rw [hEr, if_neg hM]
  have hEp : vEp D ≠ 0#32 := fun e => by
    refine hM (BitVec.eq_of_toNat_eq ?_)
    have e := congrArg BitVec.toNat e
    unfold vEp at e
    rw [BitVec.toNat_add] at e
    simp only [BitVec.toNat_ofNat] at e
    rw [BitVec.toNat_allOnes]
    have := (grF D.b D.b.length).isLt
    omega
  have ha : vBin .add (u32 (grF D.b D.b.length)) (.int .u32 1) = some (u32 (vEp D)) := by
    simp only [vBin, u32, vEp, ne_eq, not_true_eq_false, if_false, Option.some.injEq, Value.int.injEq, true_and]
    show ((grF D.b D.b.length).toNat + 1 : Int) % 4294967296 = _
    rw [BitVec.toNat_add]
    simp only [BitVec.toNat_ofNat]
    omega
  have bd : ∀ h : Hp, prim h (.build [.pointer none, .pointer none, .int .i64 0, u32 0#32, .bool false] [(0, 1), (3, 1)]) [.ptr (.o P.p) 5 0, .v (u32 (vEp D))] =
    some (.agg [.ptr (.o P.p) 5 0, .v (.pointer none), .v (.int .i64 0), .v (u32 (vEp D)), .v (.bool false)], h) := fun h => rfl
  have bx : ∀ G, prim ⟨G, [none, none, none, none, none, none, none, none]⟩ (.box 6) [.agg [.ptr (.o P.p) 5 0, .v (.pointer none), .v (.int .i64 0), .v (u32 (vEp D)), .v (.bool false)]] =
    some (.ptr (.l 6) 5 0, ⟨G, [none, none, none, none, none, none, vB P (.v (.pointer none)) 0 (vEp D) false, none]⟩) := fun G => rfl
  have nE0 : newE D (0 : Nat) (D.b.length / 2 : Nat) (vEp D) = 0 := by
    unfold newE; rw [if_neg (by simp only [hEp, or_false]; omega), if_neg (by rw [ho]; simp)]
  have nE1 : newE D (D.b.length / 2 : Nat) (D.b.length / 2 : Nat) (vEp D) = 0 := by
    unfold newE; rw [if_neg (by simp only [hEp, or_false]; omega), if_neg (by rw [ho]; simp)]
  have hil : ∀ L, (⟨G, L⟩ : Hp).into.length = G.length + L.length := fun L => into_len
  have ok' : ∀ L, P.Ok (⟨G, L⟩ : Hp).into.length D.b.length := fun L => ⟨h.h0, h.h1, h.h2, by rw [hil]; omega, h.n01, h.n02, h.n12, h.k0, h.k1, h.k2⟩
  have la : ∀ i (J : JD), yX P i { J with la := 0#32 } = yX P i J := fun i J => rfl
  have o0 : openR D 0 (D.b.length / 2) (vEp D) = { vJ0 D with la := 0#32 } := openR_openJ (by omega)
  have o1 : openR D (D.b.length / 2) (D.b.length / 2) (vEp D) = { vJ1 D with la := 0#32 } := openR_openJ (by omega)
  have hdl : ∀ D : DskD, (dset G P D).length = G.length := fun D => dset_len
  have nn : ∀ b, (none : Option Blk) = some b → b.labs = [] := fun b e => by cases e
  have g1 : Good ⟨dset G P D.sw, [none, none, none, none, none, none, vB P (.v (.pointer none)) 0 (vEp D) false, none]⟩ := by
    unfold Good
    refine goodL_opt (k := 6) (fun b e => ?_) trivial
    injection e with e; subst e
    exact sBlk_good (by simp [AV.labs.labss, AV.labs, refLt, dset_len, hp])
  have g2 : Good ⟨dset G P D.sw, [recB (vJ0 D).recs, yB P 0 (vJ0 D), none, none, none, none, vB P (.v (.pointer none)) 0 (vEp D) false, none]⟩ := by
    refine ⟨dBlk_good, goodL_opt (yB_good (by rw [hdl]; exact hp) (by omega)) ?_⟩
    show goodL _ 6 _
    refine goodL_opt (k := 6) (fun b e => ?_) trivial
    injection e with e; subst e
    exact sBlk_good (by simp [AV.labs.labss, AV.labs, refLt, dset_len, hp])
  have gR : ∀ {D' : DskD} {Y0 Y2 : Option Blk} {jp : AV} {half : Nat} {Y1 : Option Blk}, (∀ b, Y0 = some b → b.labs = []) → (∀ b, Y2 = some b → b.labs = []) → jpOk6 jp = true → (Y1 = none ∨ ∃ J, Y1 = yB P 4 J) → Good ⟨dset G P D', rL P (vJ0 D) (vJ1 D) Y0 Y1 Y2 (vB P jp half (vEp D) false)⟩ := fun h0 h2 hj h1 => good_rL hp h0 h2 hj h1
  show WC prog _ _ _ _
  simp (disch := first | (simp only [DS, reduceCtorEq]; done) | omega) only [f_ref06_OpenVault_L0, f_ref06_OpenVault_H0, WS, St.guard, St.put, evalO, reduceCtorEq, reduceIte, Nat.reduceAdd, Nat.reduceEqDiff, l0, ln, Int.lt_irrefl, decide_false, vBin_eq_max, hM, ha, bd, bx]
  have ld3 : ∀ G X, prim ⟨G, [none, none, none, none, none, none, vB P (.v (.pointer none)) 0 (vEp D) false, X]⟩ (.load 1 false) [.ptr (.l 6) 5 3] = some (.v (u32 (vEp D)), ⟨G, [none, none, none, none, none, none, vB P (.v (.pointer none)) 0 (vEp D) false, X]⟩) := fun G X => rfl
  have ld3' : ∀ G, prim ⟨G, [recB (vJ0 D).recs, yB P 0 (vJ0 D), none, none, none, none, vB P (.v (.pointer none)) 0 (vEp D) false, none]⟩ (.load 1 false) [.ptr (.l 6) 5 3] = some (.v (u32 (vEp D)), ⟨G, [recB (vJ0 D).recs, yB P 0 (vJ0 D), none, none, none, none, vB P (.v (.pointer none)) 0 (vEp D) false, none]⟩) := fun G => rfl
  simp (disch := first | (simp only [DS, reduceCtorEq]; done) | omega) only [WS, St.guard, St.put, evalO, reduceCtorEq, reduceIte, Nat.reduceAdd, Nat.reduceEqDiff, ld3]
  refine WP_of (h' := ⟨dset G P D.sw, [recB (vJ0 D).recs, yB P 0 (vJ0 D), none, none, none, none, vB P (.v (.pointer none)) 0 (vEp D) false, none]⟩) (by
    have := fobjY (i := 0) (j := 1) (D := D.sw) (J' := openR D 0 (D.b.length / 2) (vEp D)) h g1 (by decide) rfl rfl (fun g => rfl) (openR_ok H.toTakeLib H.rblank H.ropen H.rrecord (ok' _) hl nE0)
    rw [o0] at this
    exact this) ?_
  simp (disch := first | (simp only [DS, reduceCtorEq]; done) | omega) only [WS, St.guard, St.put, evalO, reduceCtorEq, reduceIte, Nat.reduceAdd, Nat.reduceEqDiff, ld3']
  refine WP_of (h' := ⟨dset G P D.sw, rL P (vJ0 D) (vJ1 D) none none none (vB P (.v (.pointer none)) 0 (vEp D) false)⟩) (by
    have := fobjY (i := 2) (j := 3) (D := D.sw) (J' := openR D (D.b.length / 2) (D.b.length / 2) (vEp D)) h g2 (by decide) rfl rfl (fun g => rfl) (openR_ok H.toTakeLib H.rblank H.ropen H.rrecord (ok' _) hl nE1)
    rw [o1] at this
    exact this) ?_
  have sj : ∀ {g} {x k : Nat} {jp : AV} {Y0 Y1 Y2 : Option Blk}, prim ⟨g, rL P (vJ0 D) (vJ1 D) Y0 Y1 Y2 (vB P jp x (vEp D) false)⟩ (.store 1 false) [.ptr (.l 6) 5 1, .ptr (.l k) 8 0] = some (.v undef, ⟨g, rL P (vJ0 D) (vJ1 D) Y0 Y1 Y2 (vB P (.ptr (.l k) 8 0) x (vEp D) false)⟩) := fun {g x k jp Y0 Y1 Y2} => rfl
  have sh : ∀ {g} {x : Nat} {jp : AV} {Y0 Y1 Y2 : Option Blk}, prim ⟨g, rL P (vJ0 D) (vJ1 D) Y0 Y1 Y2 (vB P jp x (vEp D) false)⟩ (.store 1 false) [.ptr (.l 6) 5 2, .v (.int .i64 1)] = some (.v undef, ⟨g, rL P (vJ0 D) (vJ1 D) Y0 Y1 Y2 (vB P jp 1 (vEp D) false)⟩) := fun {g x jp Y0 Y1 Y2} => rfl
  have lj : ∀ {g} {x : Nat} {jp : AV} {Y0 Y1 Y2 : Option Blk}, prim ⟨g, rL P (vJ0 D) (vJ1 D) Y0 Y1 Y2 (vB P jp x (vEp D) false)⟩ (.load 1 false) [.ptr (.l 6) 5 1] = some (jp, ⟨g, rL P (vJ0 D) (vJ1 D) Y0 Y1 Y2 (vB P jp x (vEp D) false)⟩) := fun {g x jp Y0 Y1 Y2} => rfl
  have le : ∀ {g} {x : Nat} {jp : AV} {Y0 Y1 Y2 : Option Blk}, prim ⟨g, rL P (vJ0 D) (vJ1 D) Y0 Y1 Y2 (vB P jp x (vEp D) false)⟩ (.load 1 false) [.ptr (.l 6) 5 3] = some (.v (u32 (vEp D)), ⟨g, rL P (vJ0 D) (vJ1 D) Y0 Y1 Y2 (vB P jp x (vEp D) false)⟩) := fun {g x jp Y0 Y1 Y2} => rfl
  have f1 : ∀ {g} {X Y0 Y1 Y2 : Option Blk}, prim ⟨g, rL P (vJ0 D) (vJ1 D) Y0 Y1 Y2 X⟩ (.load 1 false) [.ptr (.l 1) 8 5] = some (.v (u32 (vJ0 D).fi), ⟨g, rL P (vJ0 D) (vJ1 D) Y0 Y1 Y2 X⟩) := fun {g X Y0 Y1 Y2} => rfl
  have f3 : ∀ {g} {X Y0 Y1 Y2 : Option Blk}, prim ⟨g, rL P (vJ0 D) (vJ1 D) Y0 Y1 Y2 X⟩ (.load 1 false) [.ptr (.l 3) 8 5] = some (.v (u32 (vJ1 D).fi), ⟨g, rL P (vJ0 D) (vJ1 D) Y0 Y1 Y2 X⟩) := fun {g X Y0 Y1 Y2} => rfl
  have gt : vBin .gtr (u32 (vJ1 D).fi) (u32 (vJ0 D).fi) = some (.bool (decide ((vJ1 D).fi.toNat > (vJ0 D).fi.toNat))) := by simp [vBin, u32]
  have u32_eq0 : ∀ e : BitVec 32, vBin .eql (u32 e) (u32 0#32) = some (.bool (decide (e = 0#32))) := fun e => AM.u32_eq0
  simp (disch := first | (simp only [DS, reduceCtorEq]; done) | omega) only [WS, St.guard, St.put, evalO, reduceCtorEq, reduceIte, Nat.reduceAdd, Nat.reduceEqDiff, sj, WC_draw, WD_nil, WD_cons, WDG_false, WDG_true, WDP_id, WDP_pick, WDP_build, WDP_bin, WDP_un, WDP_convInt, WDP_strStr, WDP_makeFunc, WDP_sliceStr, WDP_eq, WDP_eqBool, WDP_field, WDP_indexStr, WDP_indexAgg, WDP_extract, WDP_lenStr, WDP_lenSlice, WDP_lenArr, WDP_cap, WDP_min, WDP_max, WDP_nilCheck, WDP_slice, WDP_sliceArr, WDP_fieldAddr, WDP_indexAddr, WDP_indexArr, WDP_load, WDR_some, iP_eq, iN_eq, iG_eq, kI_eq, f1, f3, gt]
  by_cases hc : (vJ1 D).fi.toNat > (vJ0 D).fi.toNat
  · have hh : vHalf D = 1 := by unfold vHalf; rw [if_pos hc]
    have hf : (vJ1 D).fi ≠ 0#32 := fun e => by rw [e] at hc; simp at hc
    have eO : openV D = (D, vJ1 D, ⟨1, vEp D, false⟩) := by unfold openV; rw [hh]; rw [if_neg (by simp), if_pos rfl]
    have eR : rvAns G P D = (.tup [.ptr (.o (G.length + 2)) 5 0, .v (.int .i64 0)], dset G P D.sw ++ newRO G.length P.p (vJ1 D) ⟨1, vEp D, false⟩) := by
      unfold rvAns; rw [if_neg (by rw [hE0]; simp), if_neg (by unfold opFirst; rw [hh]; simp), eO]
    have hfb : ((vJ1 D).fi == 0#32) = false := beq_eq_false_iff_ne.2 hf
    rw [eR]
    simp (disch := first | (simp only [DS, reduceCtorEq]; done) | omega) only [WS, St.guard, St.put, evalO, reduceCtorEq, reduceIte, Nat.reduceAdd, Nat.reduceEqDiff, hc, decide_true, sj, sh, lj, f3, u32_eq0, hf, hfb, decide_false, fin_tmp2]
    refine ⟨by simp, ?_⟩
    have := leave_r3 (g := dset G P D.sw) (L := rL P (vJ0 D) (vJ1 D) none none none (vB P (.ptr (.l 3) 8 0) 1 (vEp D) false)) (J := vJ1 D) (x := .int .i64 0) (.inr (.inl ⟨rfl, rfl⟩)) rfl rfl rfl (by rw [hdl]; exact hp)
    rw [hdl] at this
    exact this
  have hh : vHalf D = 0 := by unfold vHalf; rw [if_neg hc]
  simp (disch := first | (simp only [DS, reduceCtorEq]; done) | omega) only [WS, St.guard, St.put, evalO, reduceCtorEq, reduceIte, Nat.reduceAdd, Nat.reduceEqDiff, hc, decide_false, lj, f1]
  by_cases hf : (vJ0 D).fi = 0#32
  · obtain ⟨R, eR⟩ : ∃ R, R = opBg D := ⟨_, rfl⟩
    have eF : opFirst D := ⟨hf, hh⟩
    have bl : ∀ {x : Option Blk}, (∀ b, x = some b → b.labs = []) → True := fun _ => trivial
    have bdl : ∀ {g} {X Y0 Y1 : Option Blk}, prim ⟨g, rL P (vJ0 D) (vJ1 D) Y0 Y1 none X⟩ (.buildSlice 7 false 1 1 [.int .u8 0] [(0, 1)]) [.v (.int .u8 1)] = some (.own (.l 7) 1 0 1 1 (some 1), ⟨g, rL P (vJ0 D) (vJ1 D) Y0 Y1 baseB X⟩) := fun {g X Y0 Y1} => rfl
    obtain ⟨N, eN⟩ : ∃ N, N = newJ 0 (D.b.length / 2) (vEp D) := ⟨_, rfl⟩
    simp (disch := first | (simp only [DS, reduceCtorEq]; done) | omega) only [WS, St.guard, St.put, evalO, reduceCtorEq, reduceIte, Nat.reduceAdd, Nat.reduceEqDiff, u32_eq0, hf, decide_true, le]
    refine WP_of (h' := ⟨dset G P D.sw, rL P (vJ0 D) (vJ1 D) (recB N.recs) (yB P 4 N) none (vB P (.ptr (.l 1) 8 0) 0 (vEp D) false)⟩) (by
      subst eN
      exact fobjY (i := 4) (j := 5) (D := D.sw) (J' := newJ 0 (D.b.length / 2) (vEp D)) h (gR nn nn rfl (.inl rfl)) (by decide) rfl rfl (fun g => rfl) (blank_ok H.rblank (ok' _) hl nE0)) ?_
    simp (disch := first | (simp only [DS, reduceCtorEq]; done) | omega) only [WS, St.guard, St.put, evalO, reduceCtorEq, reduceIte, Nat.reduceAdd, Nat.reduceEqDiff, sj, lj, bdl]
    have eR' : N.add D [1] = R := by rw [eR, eN]; rfl
    refine WP_of (a := .v (.int .i64 R.1)) (h' := ⟨dset G P R.2.1.sw, rL P (vJ0 D) (vJ1 D) (recB R.2.2.recs) (yB P 4 R.2.2) baseB (vB P (.ptr (.l 5) 8 0) 0 (vEp D) false)⟩) (by
      have := radd_spec (G := (⟨G, rL P (vJ0 D) (vJ1 D) none none baseB (vB P (.ptr (.l 5) 8 0) 0 (vEp D) false)⟩ : Hp).into) (P := P) (q := G.length + 4) (p := G.length + 5) (J := N) (n := D.b.length) H.toRefJ (f_ok h (by omega) (by show 5 < 8; omega)) z (by omega) hl
        (arg_blk (k := G.length + 7) (b := [1]) (cap := some 1) (X := dBlk [byteAV 1] false false) (by have := h.h0; have := h.h1; have := h.h2; exact ⟨by omega, by omega, by omega, by omega, by omega, by omega⟩) (by exact into_at (k := 7) rfl rfl) rfl rfl (by intro c hc; cases hc; simp))
        (by rw [eN]; exact hEp) (by rw [eN]; show 0 + D.b.length / 2 ≤ _; omega) (by rw [eN]; show 0 ≤ D.b.length / 2; omega) (by rw [eN]; show 0 ≤ 0; omega) (by show 1 < 2 ^ 62; omega)
      rw [eR'] at this
      exact fopY (L := rL P (vJ0 D) (vJ1 D) none none baseB (vB P (.ptr (.l 5) 8 0) 0 (vEp D) false)) (i := 4) (j := 5) (D' := R.2.1.sw) (J' := R.2.2) h (by omega) (by show 5 < 8; omega) (gR nn (fun b e => by cases e; rfl) rfl (.inl rfl)) rfl this) ?_
    by_cases h0 : R.1 = 0
    · have e2 : rvAns G P D = (.tup [.ptr (.o (G.length + 2)) 5 0, .v (.int .i64 0)], dset G P R.2.1.sw ++ newRO G.length P.p R.2.2 ⟨0, vEp D, false⟩) := by
        unfold rvAns openV
        rw [if_neg (by rw [hE0]; simp), if_neg (by rw [← eR, h0]; simp), if_pos ⟨hf, hh⟩, eR]
        rfl
      rw [e2]
      simp (disch := first | (simp only [DS, reduceCtorEq]; done) | omega) only [WS, St.guard, St.put, evalO, reduceCtorEq, reduceIte, Nat.reduceAdd, Nat.reduceEqDiff, h0, Int.reduceBNe, fin_tmp2]
      refine ⟨by simp, ?_⟩
      have := leave_r3 (g := dset G P R.2.1.sw) (L := rL P (vJ0 D) (vJ1 D) (recB R.2.2.recs) (yB P 4 R.2.2) baseB (vB P (.ptr (.l 5) 8 0) 0 (vEp D) false)) (J := R.2.2) (x := .int .i64 0) (.inr (.inr ⟨rfl, rfl⟩)) rfl rfl rfl (by rw [hdl]; exact hp)
      rw [hdl] at this
      exact this
    · have e2 : rvAns G P D = (.tup [.v (.pointer none), .v (.int .i64 R.1)], dset G P R.2.1.sw) := by
        unfold rvAns
        rw [if_neg (by rw [hE0]; simp), if_pos ⟨eF, by rw [← eR]; exact h0⟩, eR]
      have h0' : (R.1 != 0) = true := by rw [bne_iff_ne]; exact h0
      rw [e2]
      simp (disch := first | (simp only [DS, reduceCtorEq]; done) | omega) only [WS, St.guard, St.put, evalO, reduceCtorEq, reduceIte, Nat.reduceAdd, Nat.reduceEqDiff, h0', fin_tmp2]
      exact ⟨by simp, hend⟩
  · have eO : openV D = (D, vJ0 D, ⟨0, vEp D, false⟩) := by unfold openV; rw [if_neg (fun e => hf e.1), hh]; rfl
    have eR : rvAns G P D = (.tup [.ptr (.o (G.length + 2)) 5 0, .v (.int .i64 0)], dset G P D.sw ++ newRO G.length P.p (vJ0 D) ⟨0, vEp D, false⟩) := by
      unfold rvAns; rw [if_neg (by rw [hE0]; simp), if_neg (by unfold opFirst; exact fun e => hf e.1.1), eO]
    have hfb : ((vJ0 D).fi == 0#32) = false := beq_eq_false_iff_ne.2 hf
    rw [eR]
    simp (disch := first | (simp only [DS, reduceCtorEq]; done) | omega) only [WS, St.guard, St.put, evalO, reduceCtorEq, reduceIte, Nat.reduceAdd, Nat.reduceEqDiff, u32_eq0, hf, hfb, decide_false, fin_tmp2]
    refine ⟨by simp, ?_⟩
    have := leave_r3 (g := dset G P D.sw) (L := rL P (vJ0 D) (vJ1 D) none none none (vB P (.ptr (.l 1) 8 0) 0 (vEp D) false)) (J := vJ0 D) (x := .int .i64 0) (.inl ⟨rfl, rfl⟩) rfl rfl rfl (by rw [hdl]; exact hp)
    rw [hdl] at this
    exact this
end Go.AM
namespace Go.AM
variable {prog : String → Option IFn}
variable {G L : List (Option Blk)} {P : DPos} {D : DskD} {n q p pv i j : Nat} {B : Option Blk} {cs : List AV} {J J0 J1 : JD} {V : VD}
theorem Crash_specG (H : DiskLib prog) (h : P.Ok G.length D.b.length) (hl : D.l.length = D.b.length) (hb : D.a.length = D.b.length) (hN : D.b.length ≤ 20000) {a : AV} {ks : List Int} (va : ∀ E X L, View ⟨dset (G ++ X) P E, L⟩ a 1 ks.length (ks.map intAV)) (hc : a.cellsOf = some [a]) (hu : ∀ g, a.ren (up g) = a) (ho : a.labs.all (refLt G.length 0) = true) :
    Ev prog (.call "(*haberdash/disk.Disk).Crash" [.ptr (.o P.p) 5 0, a] (dset G P D)) (.ret (.tup []) (dset G P (D.crash ks))) := by
  refine call_of_fin H.crash ?_
  obtain ⟨dd, hdd⟩ : ∃ dd, dd = AV.lf.lfs [a] := ⟨_, rfl⟩
  simp only [f___disk_Disk__Crash_B, enter, List.length_cons, List.length_nil, List.replicate, Nat.reduceAdd, Nat.reduceSub, List.cons_append, List.nil_append]
  have bx : ∀ G, prim ⟨G, [none]⟩ (.box 0) [a] = some (.ptr (.l 0) 1 0, ⟨G, [some (sBlk [a] dd)]⟩) := fun G => by
    rw [px_box, hc]
    simp only [Option.bind_some, Hp.new, List.getElem?_cons_zero, Option.map_some, newBlk_s, ← hdd]; rfl
  have mf : ∀ h : Hp, prim h (.makeFunc "(*haberdash/disk.Disk).Crash$1" 0) [.ptr (.l 0) 1 0] = some (.fn "(*haberdash/disk.Disk).Crash$1" [] [.ptr (.l 0) 1 0], h) := fun h => rfl
  simp (disch := first | (simp only [DS, reduceCtorEq]; done) | omega) only [WS, St.guard, St.put, evalO, reduceCtorEq, reduceIte, Nat.reduceAdd, Nat.reduceEqDiff, bx, isNilV, Hp.isNil, mf]
  have g1 : ∀ D : DskD, Good ⟨dset G P D, [some (sBlk [a] dd)]⟩ := fun D => ⟨sBlk_good (by rw [dset_len]; simpa [AV.labs.labss] using ho), trivial⟩
  have hin : ∀ D : DskD, (⟨dset G P D, [some (sBlk [a] dd)]⟩ : Hp).into = dset G P D ++ [some (sBlk [a] dd)] := fun D => into_same fun B hB b e g => by
    simp only [List.mem_singleton] at hB
    subst hB
    cases e
    cases dd
    · simp only [Blk.ren, sBlk, Bool.false_eq_true, if_false, AV.ren.rens, hu]
    · rfl
  have hK : ∀ (E : DskD) (i : Nat), i < D.b.length → Ev prog (.op (.callV []) [.fn "(*haberdash/disk.Disk).Crash$1" [] [.ptr (.o (dset G P D).length) 1 0], .v (.int .i64 (i : Nat))] ⟨dset (G ++ [some (sBlk [a] dd)]) P E, []⟩)
      (.val (.v (.int .i64 (keepAt ks i))) ⟨dset (G ++ [some (sBlk [a] dd)]) P E, []⟩) := fun E i hi => by
    refine op_fnV (h' := ⟨dset (G ++ [some (sBlk [a] dd)]) P E, []⟩) ?_ rfl rfl rfl trivial trivial
    rw [into_nil]
    have hq : (dset (G ++ [some (sBlk [a] dd)]) P E)[(dset G P D).length]? = some (some (sBlk [a] dd)) := by
      rw [dset_app h, List.getElem?_append_right (by rw [dset_len, dset_len]; omega), dset_len, dset_len, Nat.sub_self]; rfl
    exact Crash1_spec H hq (fun L => va _ _ _) (by omega)
  refine WP_of (op_turn ⟨dset G P (D.settle (keepAt ks)), [some (sBlk [a] dd)]⟩ (by
    have := settle_spec H (D := D) (P := P) (h.app (X := [some (sBlk [a] dd)])) hl hb hN (fv := .fn "(*haberdash/disk.Disk).Crash$1" [] [.ptr (.o (dset G P D).length) 1 0]) (K := keepAt ks) (fun ks => by simp [noRef, AV.labs, AV.labs.labss, labNot]) hK
    rw [dset_app h, dset_app h] at this
    rw [hin, hin]
    exact this) rfl (by simp [dset_len]) rfl (g1 _) (g1 _)) ?_
  simp (disch := first | (simp only [DS, reduceCtorEq]; done) | omega) only [WS, St.guard, St.put, evalO, reduceCtorEq, reduceIte, Nat.reduceAdd, Nat.reduceEqDiff, d_st3 h]
  exact ⟨.inl trivial, fin_nil⟩
theorem refCrash_specG (H : RefDisk prog) (h : P.Ok G.length D.b.length) (hl : D.l.length = D.b.length) (hb : D.a.length = D.b.length) (hN : D.b.length ≤ 20000) {a : AV} {ks : List Int} (va : ∀ E L, View ⟨dset G P E, L⟩ a 1 ks.length (ks.map intAV)) :
    Ev prog (.call "(*haberdash/haberdashref06.Disk).Crash" [.ptr (.o P.p) 5 0, a] (dset G P D.sw)) (.ret (.tup []) (dset G P (D.crash ks).sw)) := by
  refine call_of_fin H.crash ?_
  have na : ∀ ks, noRef ks a = true := fun ks => noRef_out (View.out (va D []))
  simp only [f___ref06_Disk__Crash_B, enter, List.length_cons, List.length_nil, List.replicate, Nat.reduceAdd, Nat.reduceSub, List.cons_append, List.nil_append]
  simp (disch := first | (simp only [DS, reduceCtorEq]; done) | omega) only [WS, St.guard, St.put, evalO, reduceCtorEq, reduceIte, Nat.reduceAdd, Nat.reduceEqDiff]
  refine WC_count (fun i => ⟨f___ref06_Disk__Crash_H1 (.ptr (.o P.p) 5 0) a (.v (.int .i64 ((settleN (keepAt ks) D i).2 : Nat))) (.v (.int .i64 (i : Nat))), ⟨dset G P (settleN (keepAt ks) D i).1.sw, []⟩⟩) D.b.length ?_ (fun i hi => ?_) ?_
  · exact clear_fre (by simp only [clear_nil, List.foldl_cons, List.foldl_nil, Option.some.injEq, LS, reduceCtorEq, reduceIte, Nat.reduceAdd] <;> rfl) (by rfl) (by simp only [f___ref06_Disk__Crash_H1, List.all_cons, List.all_nil, noRef_v, noRef_dead, noRef_own, noRef_ptr, noRef_nil, Bool.and_true, Bool.true_and, Bool.and_self, List.contains_cons, List.contains_nil, Bool.or_false, Nat.reduceBEq, Bool.not_false, na]) (by rfl)
  · have hlt : (i : Int) < (D.b.length : Int) := by omega
    obtain ⟨e1, e2, e3, e4⟩ := settleN_len (D := D) (K := keepAt ks) i
    have hst : settleN (keepAt ks) D (i + 1) = if (settleN (keepAt ks) D i).1.l.getD i false then
      ({ (settleN (keepAt ks) D i).1 with a := (settleN (keepAt ks) D i).1.a.set i (mixS (keepAt ks (settleN (keepAt ks) D i).2) ((settleN (keepAt ks) D i).1.a.getD i zsec) ((settleN (keepAt ks) D i).1.b.getD i zsec)), b := (settleN (keepAt ks) D i).1.b.set i (mixS (keepAt ks (settleN (keepAt ks) D i).2) ((settleN (keepAt ks) D i).1.a.getD i zsec) ((settleN (keepAt ks) D i).1.b.getD i zsec)), l := (settleN (keepAt ks) D i).1.l.set i false }, (settleN (keepAt ks) D i).2 + 1)
      else settleN (keepAt ks) D i := rfl
    rw [hst]
    generalize settleN (keepAt ks) D i = q at *
    obtain ⟨E, c⟩ := q
    simp only at e1 e2 e3 e4 ⊢
    have hi1 : i < E.b.length := by omega
    have hi0 : i < E.a.length := by omega
    have hi2 : i < E.l.length := by omega
    have hli : E.l[i]? = some E.l[i] := List.getElem?_eq_getElem hi2
    have hai : E.a[i]? = some E.a[i] := List.getElem?_eq_getElem hi0
    have hbi : E.b[i]? = some E.b[i] := List.getElem?_eq_getElem hi1
    have el : E.l.getD i false = E.l[i] := by rw [List.getD_eq_getElem?_getD, hli]; rfl
    have ea : E.a.getD i zsec = E.a[i] := by rw [List.getD_eq_getElem?_getD, hai]; rfl
    have eb : E.b.getD i zsec = E.b[i] := by rw [List.getD_eq_getElem?_getD, hbi]; rfl
    rw [ea, eb, el]
    have ln : ∀ L, prim ⟨dset G P E.sw, L⟩ .lenSlice [dav0 .o P E.sw] = some (.v (.int .i64 (D.b.length : Nat)), ⟨dset G P E.sw, L⟩) := fun L => by rw [← e2]; rfl
    have v2 := fun L => d_v2 (L := L) h (D := E.sw) (by show E.l.length = _; omega)
    have ix2 : ∀ L, prim ⟨dset G P E.sw, L⟩ (.indexAddr 1) [dav2 .o P E.sw, .v (.int .i64 (i : Int))] = some (elemPtr (dav2 .o P E.sw) 1 i, ⟨dset G P E.sw, L⟩) := fun L => (v2 L).index hi2
    have ld2 : ∀ L, prim ⟨dset G P E.sw, L⟩ (.load 1 false) [elemPtr (dav2 .o P E.sw) 1 i] = some (.v (.bool E.l[i]), ⟨dset G P E.sw, L⟩) := fun L => (v2 L).load hli
    simp (disch := first | (simp only [DS, reduceCtorEq]; done) | omega) only [f___ref06_Disk__Crash_L1, f___ref06_Disk__Crash_H1, WS, St.guard, St.put, evalO, reduceCtorEq, reduceIte, Nat.reduceAdd, Nat.reduceEqDiff, d_ld0 h, ln, hlt, decide_true, d_ld2 h, ix2, ld2]
    cases hlo : E.l[i]
    · simp (disch := first | (simp only [DS, reduceCtorEq]; done) | omega) only [WS, St.guard, St.put, evalO, reduceCtorEq, reduceIte, Nat.reduceAdd, Nat.reduceEqDiff, vBin_add_i64]
      exact clear_fre (by simp only [clear_nil, List.foldl_cons, List.foldl_nil, Option.some.injEq, LS, reduceCtorEq, reduceIte, Nat.reduceAdd] <;> rfl) (by rfl) (by simp only [f___ref06_Disk__Crash_H1, List.all_cons, List.all_nil, noRef_v, noRef_dead, noRef_own, noRef_ptr, noRef_nil, Bool.and_true, Bool.true_and, Bool.and_self, List.contains_cons, List.contains_nil, Bool.or_false, Nat.reduceBEq, Bool.not_false, na]) (by rfl)
    · simp (disch := first | (simp only [DS, reduceCtorEq]; done) | omega) only [WS, St.guard, St.put, evalO, reduceCtorEq, reduceIte, Nat.reduceAdd, Nat.reduceEqDiff, (va _ _).lenSlice, goInt]
      have hck : ((c : Int) + 1) = ((c + 1 : Nat) : Int) := rfl
      have hkk := clampN_le (k := keepAt ks c)
      rcases Nat.eq_zero_or_pos ks.length with hk0 | hk0
      case' inl =>
        have q1 : ¬ (ks.length : Int) > 0 := by omega
        have ek : keepAt ks c = 0 := by unfold keepAt; rw [if_pos hk0]
        obtain ⟨T6, hT6⟩ : ∃ T : Int, T = ((clampN (keepAt ks c) : Nat) : Int) := ⟨_, rfl⟩
        have hT0 : T6 = 0 := by rw [hT6, ek]; rfl
        simp (disch := first | (simp only [DS, reduceCtorEq]; done) | omega) only [WS, St.guard, St.put, evalO, reduceCtorEq, reduceIte, Nat.reduceAdd, Nat.reduceEqDiff, q1, decide_false, vBin_add_i64]
      case' inr =>
        have q1 : (ks.length : Int) > 0 := by omega
        have hm : c % ks.length < ks.length := Nat.mod_lt _ (by omega)
        have hg : ks[c % ks.length]? = some ks[c % ks.length] := List.getElem?_eq_getElem hm
        have ek : keepAt ks c = ks[c % ks.length] := by unfold keepAt; rw [if_neg (by omega), List.getD_eq_getElem?_getD, hg]; rfl
        have ix : ∀ L, prim ⟨dset G P E.sw, L⟩ (.indexAddr 1) [a, .v (.int .i64 ((c % ks.length : Nat) : Int))] = some (elemPtr a 1 (c % ks.length), ⟨dset G P E.sw, L⟩) := fun L => (va _ _).index hm
        have le : ∀ L, prim ⟨dset G P E.sw, L⟩ (.load 1 false) [elemPtr a 1 (c % ks.length)] = some (intAV ks[c % ks.length], ⟨dset G P E.sw, L⟩) := fun L => (va _ _).load1 (by rw [List.getElem?_map, hg]; rfl)
        simp (disch := first | (simp only [DS, reduceCtorEq]; done) | omega) only [WS, St.guard, St.put, evalO, reduceCtorEq, reduceIte, Nat.reduceAdd, Nat.reduceEqDiff, q1, decide_true, (va _ _).lenSlice, goInt]
        rw [vRem_nat (by omega) (by omega)]
        simp (disch := first | (simp only [DS, reduceCtorEq]; done) | omega) only [WS, St.guard, St.put, evalO, reduceCtorEq, reduceIte, Nat.reduceAdd, Nat.reduceEqDiff, ix, le, intAV, maxs, mins, min64, vBin_add_i64]
        obtain ⟨T6, hT6⟩ : ∃ T : Int, T = ((clampN (keepAt ks c) : Nat) : Int) := ⟨_, rfl⟩
        have hT0 : T6 = ((clampN (keepAt ks c) : Nat) : Int) := hT6
        rw [← ek]
      all_goals
        generalize hkg : keepAt ks c = k at *
        refine WC_count (fun j => ⟨f___ref06_Disk__Crash_H0 (.ptr (.o P.p) 5 0) a (.v (.int .i64 ((c + 1 : Nat) : Int))) (.v (.int .i64 (i : Nat))) (.v (.int .i64 T6)) (.v (.int .i64 (j : Nat))), ⟨dset G P (crN E i (mixS (j : Int) E.a[i] E.b[i])), []⟩⟩) (clampN k) ?_ (fun j hj => ?_) ?_
        · have e0 : crN E i (mixS ((0 : Nat) : Int) E.a[i] E.b[i]) = E.sw := by
            have : mixS ((0 : Nat) : Int) E.a[i] E.b[i] = E.a[i] := mixS_zero
            rw [this]
            unfold crN
            rw [List.set_getElem_self]; rfl
          rw [e0, hT0]
          exact clear_fre (by simp only [clear_nil, List.foldl_cons, List.foldl_nil, Option.some.injEq, LS, reduceCtorEq, reduceIte, Nat.reduceAdd] <;> rfl) (by rfl) (by simp only [f___ref06_Disk__Crash_H0, List.all_cons, List.all_nil, noRef_v, noRef_dead, noRef_own, noRef_ptr, noRef_nil, Bool.and_true, Bool.true_and, Bool.and_self, List.contains_cons, List.contains_nil, Bool.or_false, Nat.reduceBEq, Bool.not_false, na]) (by rfl)
        · have hj64 : j < 64 := by omega
          have hltj : (j : Int) < T6 := by omega
          have hnx : secSet (mixS (j : Int) E.a[i] E.b[i]) j (E.b[i].1.getD j 0) = mixS ((j + 1 : Nat) : Int) E.a[i] E.b[i] := mixS_succ hj64
          have sb := d_stbb (L := []) h (D := crN E i (mixS (j : Int) E.a[i] E.b[i])) (i := i) (j := j) (c := E.b[i].1.getD j 0) (List.getElem?_set_self hi0) hj64
          have lb := fun L => d_ldab (L := L) h (D := crN E i (mixS (j : Int) E.a[i] E.b[i])) (i := i) (j := j) hbi hj64
          have e5 : ({ crN E i (mixS (j : Int) E.a[i] E.b[i]) with b := (crN E i (mixS (j : Int) E.a[i] E.b[i])).b.set i (secSet (mixS (j : Int) E.a[i] E.b[i]) j (E.b[i].1.getD j 0)) } : DskD) = crN E i (mixS ((j + 1 : Nat) : Int) E.a[i] E.b[i]) := by
            rw [hnx]; unfold crN; simp only [List.set_set]
          rw [e5] at sb
          generalize mixS ((j + 1 : Nat) : Int) E.a[i] E.b[i] = m2 at *
          generalize mixS (j : Int) E.a[i] E.b[i] = m1 at *
          have hl1 : (crN E i m1).b.length = D.b.length := by show (E.a.set i m1).length = _; rw [List.length_set]; omega
          have w0 := fun L => d_v0 (L := L) h (D := crN E i m1) (show E.b.length = _ by omega)
          have w1 := fun L => d_v1 (L := L) h (D := crN E i m1) hl1
          have ix0 : ∀ L, prim ⟨dset G P (crN E i m1), L⟩ (.indexAddr 64) [dav0 .o P (crN E i m1), .v (.int .i64 (i : Int))] = some (elemPtr (dav0 .o P (crN E i m1)) 64 i, ⟨dset G P (crN E i m1), L⟩) := fun L => (w0 L).index hi1
          have ix1 : ∀ L, prim ⟨dset G P (crN E i m1), L⟩ (.indexAddr 64) [dav1 .o P (crN E i m1), .v (.int .i64 (i : Int))] = some (elemPtr (dav1 .o P (crN E i m1)) 64 i, ⟨dset G P (crN E i m1), L⟩) := fun L => (w1 L).index (by omega)
          have ia0 : ∀ L, prim ⟨dset G P (crN E i m1), L⟩ (.indexArr 64 1) [elemPtr (dav0 .o P (crN E i m1)) 64 i, .v (.int .i64 (j : Int))] = some (.ptr (.o P.q0) ((crN E i m1).a.length * 64) (i * 64 + j), ⟨dset G P (crN E i m1), L⟩) := fun L => by
            simp only [dav0, elemPtr, Nat.zero_add]; rw [px_indexArr, natOf_nat]; simp [hj64]
          have ia1 : ∀ L, prim ⟨dset G P (crN E i m1), L⟩ (.indexArr 64 1) [elemPtr (dav1 .o P (crN E i m1)) 64 i, .v (.int .i64 (j : Int))] = some (.ptr (.o P.q1) ((crN E i m1).b.length * 64) (i * 64 + j), ⟨dset G P (crN E i m1), L⟩) := fun L => by
            simp only [dav1, elemPtr, Nat.zero_add]; rw [px_indexArr, natOf_nat]; simp [hj64]
          simp (disch := first | (simp only [DS, reduceCtorEq]; done) | omega) only [f___ref06_Disk__Crash_L0, f___ref06_Disk__Crash_H0, WS, St.guard, St.put, evalO, reduceCtorEq, reduceIte, Nat.reduceAdd, Nat.reduceEqDiff, hltj, decide_true, d_ld0 h, d_ld1 h, ix0, ix1, ia0, ia1, lb]
          refine WDP_loud sb (good0.okAt) ?_
          simp (disch := first | (simp only [DS, reduceCtorEq]; done) | omega) only [WS, St.guard, St.put, evalO, reduceCtorEq, reduceIte, Nat.reduceAdd, Nat.reduceEqDiff, vBin_add_i64]
          exact clear_fre (by simp only [clear_nil, List.foldl_cons, List.foldl_nil, Option.some.injEq, LS, reduceCtorEq, reduceIte, Nat.reduceAdd] <;> rfl) (by rfl) (by simp only [f___ref06_Disk__Crash_H0, List.all_cons, List.all_nil, noRef_v, noRef_dead, noRef_own, noRef_ptr, noRef_nil, Bool.and_true, Bool.true_and, Bool.and_self, List.contains_cons, List.contains_nil, Bool.or_false, Nat.reduceBEq, Bool.not_false, na]) (by rfl)
        · have hltj : ¬ ((clampN k : Nat) : Int) < T6 := by omega
          simp (disch := first | (simp only [DS, reduceCtorEq]; done) | omega) only [f___ref06_Disk__Crash_L0, f___ref06_Disk__Crash_H0, WS, St.guard, St.put, evalO, reduceCtorEq, reduceIte, Nat.reduceAdd, Nat.reduceEqDiff, hltj, decide_false, mixS_clamp]
          generalize mixS k E.a[i] E.b[i] = m
          have hl1 : (crN E i m).b.length = D.b.length := by show (E.a.set i m).length = _; rw [List.length_set]; omega
          have hm : (crN E i m).b[i]? = some m := List.getElem?_set_self hi0
          have w0 := fun L => d_v0 (L := L) h (D := crN E i m) (show E.b.length = _ by omega)
          have w1 := fun L => d_v1 (L := L) h (D := crN E i m) hl1
          have ix0 : ∀ L, prim ⟨dset G P (crN E i m), L⟩ (.indexAddr 64) [dav0 .o P (crN E i m), .v (.int .i64 (i : Int))] = some (elemPtr (dav0 .o P (crN E i m)) 64 i, ⟨dset G P (crN E i m), L⟩) := fun L => (w0 L).index hi1
          have ix1 : ∀ L, prim ⟨dset G P (crN E i m), L⟩ (.indexAddr 64) [dav1 .o P (crN E i m), .v (.int .i64 (i : Int))] = some (elemPtr (dav1 .o P (crN E i m)) 64 i, ⟨dset G P (crN E i m), L⟩) := fun L => (w1 L).index (by omega)
          have jl1 : ∀ L, prim ⟨dset G P (crN E i m), L⟩ (.load 64 true) [elemPtr (dav1 .o P (crN E i m)) 64 i] = some (.agg (m.1.map byteAV), ⟨dset G P (crN E i m), L⟩) := fun L => (w1 L).load hm
          have w2 := fun L => d_v2 (L := L) h (D := { crN E i m with a := (crN E i m).a.set i m }) (show E.l.length = _ by omega)
          have ix2 : ∀ L, prim ⟨dset G P { crN E i m with a := (crN E i m).a.set i m }, L⟩ (.indexAddr 1) [dav2 .o P (crN E i m), .v (.int .i64 (i : Int))] = some (elemPtr (dav2 .o P (crN E i m)) 1 i, ⟨dset G P { crN E i m with a := (crN E i m).a.set i m }, L⟩) := fun L => (w2 L).index hi2
          simp (disch := first | (simp only [DS, reduceCtorEq]; done) | omega) only [WS, St.guard, St.put, evalO, reduceCtorEq, reduceIte, Nat.reduceAdd, Nat.reduceEqDiff, d_ld0 h, d_ld1 h, d_ld2 h, ix0, ix1, jl1]
          refine WDP_loud (d_sta (D := crN E i m) h hi1) (good0.okAt) ?_
          simp (disch := first | (simp only [DS, reduceCtorEq]; done) | omega) only [WS, St.guard, St.put, evalO, reduceCtorEq, reduceIte, Nat.reduceAdd, Nat.reduceEqDiff, ix2]
          refine WDP_loud (d_stl (D := { crN E i m with a := (crN E i m).a.set i m }) h hi2) (good0.okAt) ?_
          simp (disch := first | (simp only [DS, reduceCtorEq]; done) | omega) only [WS, St.guard, St.put, evalO, reduceCtorEq, reduceIte, Nat.reduceAdd, Nat.reduceEqDiff, vBin_add_i64]
          exact clear_fre (by simp only [clear_nil, List.foldl_cons, List.foldl_nil, Option.some.injEq, LS, reduceCtorEq, reduceIte, Nat.reduceAdd] <;> rfl) (by rfl) (by simp only [f___ref06_Disk__Crash_H1, List.all_cons, List.all_nil, noRef_v, noRef_dead, noRef_own, noRef_ptr, noRef_nil, Bool.and_true, Bool.true_and, Bool.and_self, List.contains_cons, List.contains_nil, Bool.or_false, Nat.reduceBEq, Bool.not_false, na]) (by rfl)
  · have e2 := (settleN_len (D := D) (K := keepAt ks) D.b.length).2.1
    have hse : (D.crash ks).sw = { (settleN (keepAt ks) D D.b.length).1.sw with off := true, armed := 0 } := rfl
    rw [hse]
    generalize (settleN (keepAt ks) D D.b.length).1 = E at *
    have ln : ∀ L, prim ⟨dset G P E.sw, L⟩ .lenSlice [dav0 .o P E.sw] = some (.v (.int .i64 (D.b.length : Nat)), ⟨dset G P E.sw, L⟩) := fun L => by rw [← e2]; rfl
    have st4 := fun L => d_st4 (L := L) h (D := { E.sw with off := true }) (y := 0)
    simp only [Int.cast_ofNat_Int] at st4
    simp (disch := first | (simp only [DS, reduceCtorEq]; done) | omega) only [f___ref06_Disk__Crash_L1, f___ref06_Disk__Crash_H1, WS, St.guard, St.put, evalO, reduceCtorEq, reduceIte, Nat.reduceAdd, Nat.reduceEqDiff, d_ld0 h, ln, Int.lt_irrefl, decide_false, d_st3 h, st4]
    exact ⟨.inl trivial, fin_nil⟩
theorem VOpen_bad (H : VaultLib prog) (h : P.Ok G.length D.b.length) (hl : D.b.length ≤ 20000) (hE : openEr D ≠ 0) :
    Ev prog (.call "haberdash/vault.Open" [.ptr (.o P.p) 5 0] (dset G P D)) (.ret (.tup [.v (.pointer none), .v (.int .i64 (openEr D))]) (dset G P D)) := by
  have HD := H.toDiskLib
  refine call_of_fin H.vopen ?_
  simp only [f_vault_Open_B, enter, List.length_cons, List.length_nil, List.replicate, Nat.reduceAdd, Nat.reduceSub, List.cons_append, List.nil_append]
  have g0 : Good ⟨dset G P D, [none, none, none, none, none, none, none, none, none]⟩ := by unfold Good; exact trivial
  have hend : ∀ {X : List (Option Blk)} {e : Int}, (⟨dset G P D, X⟩ : Hp).leave (.tup [.v (.pointer none), .v (.int .i64 e)]) = some (.tup [.v (.pointer none), .v (.int .i64 e)], dset G P D) := leave_lf rfl
  unfold openEr at hE ⊢
  simp (disch := first | (simp only [DS, reduceCtorEq]; done) | omega) only [WS, St.guard, St.put, evalO, reduceCtorEq, reduceIte, Nat.reduceAdd, Nat.reduceEqDiff, isNilV, Hp.isNil]
  refine WP_of (fopD h g0 rfl (fun g => rfl) (fun G' h' => Len_spec HD h')) ?_
  by_cases c4 : D.b.length < 4
  · have c : (D.b.length : Int) < 4 := by omega
    rw [if_pos c4]
    simp (disch := first | (simp only [DS, reduceCtorEq]; done) | omega) only [WS, St.guard, St.put, evalO, reduceCtorEq, reduceIte, Nat.reduceAdd, Nat.reduceEqDiff, c, decide_true, fin_tmp2]
    exact ⟨by simp, hend⟩
  have c : ¬ (D.b.length : Int) < 4 := by omega
  rw [if_neg c4] at hE ⊢
  simp (disch := first | (simp only [DS, reduceCtorEq]; done) | omega) only [WS, St.guard, St.put, evalO, reduceCtorEq, reduceIte, Nat.reduceAdd, Nat.reduceEqDiff, c, decide_false]
  refine WP_of (fopD h g0 rfl (fun g => rfl) (fun G' h' => Down_spec HD h')) ?_
  cases ho : D.off with
  | true =>
    simp (disch := first | (simp only [DS, reduceCtorEq]; done) | omega) only [WS, St.guard, St.put, evalO, reduceCtorEq, reduceIte, Nat.reduceAdd, Nat.reduceEqDiff, fin_tmp2]
    exact ⟨by simp, hend⟩
  | false =>
    rw [ho] at hE
    simp only [Bool.false_eq_true, if_false] at hE ⊢
    have hM : grF D.b D.b.length = BitVec.allOnes 32 := by
      by_cases hM : grF D.b D.b.length = BitVec.allOnes 32
      · exact hM
      · rw [if_neg hM] at hE; exact absurd rfl hE
    rw [if_pos hM]
    simp (disch := first | (simp only [DS, reduceCtorEq]; done) | omega) only [WS, St.guard, St.put, evalO, reduceCtorEq, reduceIte, Nat.reduceAdd, Nat.reduceEqDiff]
    refine WP_of (fopD h g0 (r := .tup [.v (u32 0#32), .v (.int .i64 6)]) rfl (fun g => rfl) (fun G' h' => by
      have := greatest_spec H h' ho hl
      rwa [if_pos hM] at this)) ?_
    simp (disch := first | (simp only [DS, reduceCtorEq]; done) | omega) only [WS, St.guard, St.put, evalO, reduceCtorEq, reduceIte, Nat.reduceAdd, Nat.reduceEqDiff, Int.reduceBNe, fin_tmp2]
    exact ⟨by simp, hend⟩
structure VaultNil (prog : String → Option IFn) : Prop extends VaultLib prog where
  vcompact : prog "(*haberdash/vault.Vault).Compact" = some f___vault_Vault__Compact
  vbase : prog "(*haberdash/vault.Vault).Base" = some f___vault_Vault__Base
  vdisk : prog "(*haberdash/vault.Vault).Disk" = some f___vault_Vault__Disk
theorem Open_vnil (H : VaultLib prog) : Ev prog (.call "haberdash/vault.Open" [.v (.pointer none)] G) (.ret (.tup [.v (.pointer none), .v (.int .i64 1)]) G) := by
  refine call_of_fin H.vopen ?_
  simp only [f_vault_Open_B, enter, List.length_cons, List.length_nil, List.replicate, Nat.reduceAdd, Nat.reduceSub, List.cons_append, List.nil_append]
  simp (disch := first | (simp only [DS, reduceCtorEq]; done) | omega) only [WS, St.guard, St.put, evalO, reduceCtorEq, reduceIte, Nat.reduceAdd, Nat.reduceEqDiff, isNilV, Hp.isNil, fin_tmp2]
  simp [leave_lf, AV.lf, AV.lf.lfs]
theorem Add_vnil (H : VaultLib prog) {a : AV} : Ev prog (.call "(*haberdash/vault.Vault).Add" [.v (.pointer none), a] G) (.ret (.v (.int .i64 1)) G) := by
  refine call_of_fin H.vadd ?_
  simp only [f___vault_Vault__Add_B, enter, List.length_cons, List.length_nil, List.replicate, Nat.reduceAdd, Nat.reduceSub, List.cons_append, List.nil_append]
  simp (disch := first | (simp only [DS, reduceCtorEq]; done) | omega) only [WS, St.guard, St.put, evalO, reduceCtorEq, reduceIte, Nat.reduceAdd, Nat.reduceEqDiff, isNilV, Hp.isNil, fin_tmp, leave_v]
  simp
theorem Compact_vnil (H : VaultNil prog) {a : AV} : Ev prog (.call "(*haberdash/vault.Vault).Compact" [.v (.pointer none), a] G) (.ret (.v (.int .i64 1)) G) := by
  refine call_of_fin H.vcompact ?_
  simp only [f___vault_Vault__Compact_B, enter, List.length_cons, List.length_nil, List.replicate, Nat.reduceAdd, Nat.reduceSub, List.cons_append, List.nil_append]
  simp (disch := first | (simp only [DS, reduceCtorEq]; done) | omega) only [WS, St.guard, St.put, evalO, reduceCtorEq, reduceIte, Nat.reduceAdd, Nat.reduceEqDiff, isNilV, Hp.isNil, fin_tmp, leave_v]
  simp
theorem Base_vnil (H : VaultNil prog) : Ev prog (.call "(*haberdash/vault.Vault).Base" [.v (.pointer none)] G) (.ret (.v (.slice none 0 0)) G) := by
  refine call_of_fin H.vbase ?_
  simp only [f___vault_Vault__Base_B, enter, List.length_cons, List.length_nil, List.replicate, Nat.reduceAdd, Nat.reduceSub, List.cons_append, List.nil_append]
  simp (disch := first | (simp only [DS, reduceCtorEq]; done) | omega) only [WS, St.guard, St.put, evalO, reduceCtorEq, reduceIte, Nat.reduceAdd, Nat.reduceEqDiff, isNilV, Hp.isNil, fin_tmp, leave_v]
  simp
theorem Records_vnil (H : VaultLib prog) : Ev prog (.call "(*haberdash/vault.Vault).Records" [.v (.pointer none)] G) (.ret (.v (.slice none 0 0)) G) := by
  refine call_of_fin H.vrecs ?_
  simp only [f___vault_Vault__Records_B, enter, List.length_cons, List.length_nil, List.replicate, Nat.reduceAdd, Nat.reduceSub, List.cons_append, List.nil_append]
  simp (disch := first | (simp only [DS, reduceCtorEq]; done) | omega) only [WS, St.guard, St.put, evalO, reduceCtorEq, reduceIte, Nat.reduceAdd, Nat.reduceEqDiff, isNilV, Hp.isNil, fin_tmp, leave_v]
  simp
theorem Half_vnil (H : VaultLib prog) : Ev prog (.call "(*haberdash/vault.Vault).Half" [.v (.pointer none)] G) (.ret (.v (.int .i64 0)) G) := by
  refine call_of_fin H.vhalf ?_
  simp only [f___vault_Vault__Half_B, enter, List.length_cons, List.length_nil, List.replicate, Nat.reduceAdd, Nat.reduceSub, List.cons_append, List.nil_append]
  simp (disch := first | (simp only [DS, reduceCtorEq]; done) | omega) only [WS, St.guard, St.put, evalO, reduceCtorEq, reduceIte, Nat.reduceAdd, Nat.reduceEqDiff, isNilV, Hp.isNil, fin_tmp, leave_v]
  simp
theorem Used_vnil (H : VaultLib prog) : Ev prog (.call "(*haberdash/vault.Vault).Used" [.v (.pointer none)] G) (.ret (.v (.int .i64 0)) G) := by
  refine call_of_fin H.vused ?_
  simp only [f___vault_Vault__Used_B, enter, List.length_cons, List.length_nil, List.replicate, Nat.reduceAdd, Nat.reduceSub, List.cons_append, List.nil_append]
  simp (disch := first | (simp only [DS, reduceCtorEq]; done) | omega) only [WS, St.guard, St.put, evalO, reduceCtorEq, reduceIte, Nat.reduceAdd, Nat.reduceEqDiff, isNilV, Hp.isNil, fin_tmp, leave_v]
  simp
theorem Disk_vnil (H : VaultNil prog) : Ev prog (.call "(*haberdash/vault.Vault).Disk" [.v (.pointer none)] G) (.ret (.v (.pointer none)) G) := by
  refine call_of_fin H.vdisk ?_
  simp only [f___vault_Vault__Disk_B, enter, List.length_cons, List.length_nil, List.replicate, Nat.reduceAdd, Nat.reduceSub, List.cons_append, List.nil_append]
  simp (disch := first | (simp only [DS, reduceCtorEq]; done) | omega) only [WS, St.guard, St.put, evalO, reduceCtorEq, reduceIte, Nat.reduceAdd, Nat.reduceEqDiff, isNilV, Hp.isNil, fin_tmp, leave_v]
  simp
def lrv (L : List (Option Blk)) (P : DPos) (q p pv : Nat) (D : DskD) (J : JD) (V : VD) : List (Option Blk) := (lj L P q p D.sw (recB J.recs) (yC .l P.p q J)).set pv (some (sBlk (rvC .l P.p p V) false))
theorem tROpen (H : RefV prog) (h : LVOk L P q p pv D.b.length) (hL : Good ⟨G, L⟩) (z : Siz D D.b.length) (hl : D.b.length ≤ 20000) (hE : openEr D = 0) (hok : opFirst D → (opBg D).1 = 0)
    (hq : L[q]? = some none) (hp : L[p]? = some none) (hv : L[pv]? = some none) :
    Ev prog (.op (.call "haberdash/haberdashref06.OpenVault" [q, p, pv]) [.ptr (.l P.p) 5 0] ⟨G, lset L P D.sw⟩) (.val (.tup [.ptr (.l pv) 5 0, .v (.int .i64 0)]) ⟨G, lrv L P q p pv (openV D).1 (openV D).2.1 (openV D).2.2⟩) := by
  have hqp := h.o.qp; have hpg := h.o.pg; have hpp := h.o.pp; have hvv := h.v; have hlt := h.lt
  obtain ⟨f0, f1, f2, f3, f4, f5⟩ := h.f
  have ls : ∀ D k, k ∉ [P.q0, P.q1, P.q2, P.p] → (lset L P D)[k]? = L[k]? := fun D k hk => by
    simp only [List.mem_cons, List.not_mem_nil, or_false, not_or] at hk
    unfold lset; rw [List.getElem?_set, if_neg (by omega), List.getElem?_set, if_neg (by omega), List.getElem?_set, if_neg (by omega), List.getElem?_set, if_neg (by omega)]
  have kq : ∀ D, (lset L P D)[q]? = some none := fun D => by rw [ls D q (fun hk => h.o.fq q hk rfl)]; exact hq
  have kp : ∀ D, (lset L P D)[p]? = some none := fun D => by rw [ls D p (fun hk => h.o.fp p hk rfl)]; exact hp
  have kv : ∀ D, (lset L P D)[pv]? = some none := fun D => by rw [ls D pv (by simp; omega)]; exact hv
  have hi := (h.o.into (G := G)).d
  have hlen : (⟨G, L⟩ : Hp).into.length = G.length + L.length := into_len
  have hll : ∀ D, (lset L P D).length = L.length := fun D => by simp [lset]
  have hg : ∀ D, Good ⟨G, lset L P D⟩ := fun D => lset_good hL h.o.d
  have hs := ROpen_spec (G := (⟨G, L⟩ : Hp).into) (P := P.sh G.length) H hi z hl
  have eA : rvAns (⟨G, L⟩ : Hp).into (P.sh G.length) D = (.tup [.ptr (.o ((⟨G, L⟩ : Hp).into.length + 2)) 5 0, .v (.int .i64 0)], dset (⟨G, L⟩ : Hp).into (P.sh G.length) (openV D).1.sw ++ newRO (⟨G, L⟩ : Hp).into.length (P.sh G.length).p (openV D).2.1 (openV D).2.2) := by
    unfold rvAns
    rw [if_neg (by rw [hE]; simp), if_neg (fun e => e.2 (hok e.1))]
  rw [eA] at hs
  obtain ⟨W, hW⟩ : ∃ W, W = openV D := ⟨_, rfl⟩
  rw [← hW] at hs ⊢
  simp only at hs
  rw [← into_lsetG, ← into_lsetG] at hs
  have hfr : ∀ D, [q, p, pv].all (free (lset L P D)) = true := fun D => by simp [free_of_get (kq D), free_of_get (kp D), free_of_get (kv D)]
  refine .opCall (hg D.sw).okBlks hs ?_
  rw [back_into (h := ⟨G, lset L P D.sw⟩) (h' := ⟨G, lset L P W.1.sw⟩) rfl (by simp only [hll]) (hg W.1.sw).refsOK (by simp [newRO]) (by simp; omega) (hfr D.sw) (hfr W.1.sw)]
  have ep : padTo [q, p, pv].length (newRO (⟨G, L⟩ : Hp).into.length (P.sh G.length).p W.2.1 W.2.2) = newRO (⟨G, L⟩ : Hp).into.length (P.sh G.length).p W.2.1 W.2.2 := rfl
  have d0 : down G.length (lset L P D.sw).length [q, p, pv] (.o (G.length + P.p)) = some (.l P.p) := by
    simp only [down]; rw [if_neg (by omega), if_pos (by rw [hll]; omega)]; congr 2; omega
  have dk : ∀ k, down G.length (lset L P D.sw).length [q, p, pv] (.o (G.length + L.length + k)) = ([q, p, pv][k]?).map .l := fun k => by
    simp only [down]; rw [if_neg (by omega), if_neg (by rw [hll]; omega), hll]; congr 2; omega
  have d1 : down G.length (lset L P D.sw).length [q, p, pv] (.o (G.length + L.length)) = some (.l q) := dk 0
  have d2 : down G.length (lset L P D.sw).length [q, p, pv] (.o (G.length + L.length + 1)) = some (.l p) := dk 1
  have d3 : down G.length (lset L P D.sw).length [q, p, pv] (.o (G.length + L.length + 2)) = some (.l pv) := dk 2
  rw [ep]
  have eP : (P.sh G.length).p = G.length + P.p := rfl
  have er : ∀ ρ, (recB W.2.1.recs).map (Blk.ren ρ) = recB W.2.1.recs := fun ρ => rfl
  have e1 : (sBlk (yC .o (G.length + P.p) (G.length + L.length) W.2.1) false).ren (down G.length (lset L P D.sw).length [q, p, pv]) = sBlk (yC .l P.p q W.2.1) false := by
    simp only [Blk.ren, sBlk, Bool.false_eq_true, if_false, yC, AV.ren.rens, AV.ren, d0, d1]
  have e2 : (sBlk (rvC .o (G.length + P.p) (G.length + L.length + 1) W.2.2) false).ren (down G.length (lset L P D.sw).length [q, p, pv]) = sBlk (rvC .l P.p p W.2.2) false := by
    simp only [Blk.ren, sBlk, Bool.false_eq_true, if_false, rvC, AV.ren.rens, AV.ren, d0, d2]
  simp only [newRO, hlen, eP, List.map_cons, List.map_nil, er, Option.map_some, e1, e2, AM.putAll, AV.ren, AV.ren.rens, d3]
  rfl
end Go.AM
