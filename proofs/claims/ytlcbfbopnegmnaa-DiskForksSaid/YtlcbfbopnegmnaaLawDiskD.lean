import Derived.Test.YtlcbfbopnegmnaaDiskD
set_option linter.unusedVariables false
set_option linter.unusedSimpArgs false
namespace Go.AM
variable {prog : String → Option IFn}
variable {n : Nat} {D F : DskD}
abbrev Z16 : List (Option Blk) := List.replicate 16 none
def dk (i : Nat) (c : Option Nat) (o : Bool) (D : DskD) (X : List (Option Blk)) : List (Option Blk) := dboo o D.l :: dsec o D.b :: dsec o D.a :: dobj .l (dpos i c o) D :: X
def fL1 (n : Nat) (D : DskD) : List (Option Blk) := dk 0 (some n) false D [none, none, none, none, none, none, none, none, none, none, none, none]
def fL2 (n : Nat) (D E : DskD) : List (Option Blk) := dk 0 (some n) false D (dk 4 (some n) false E [none, none, none, none, none, none, none, none])
def fL3 (n : Nat) (D E F : DskD) : List (Option Blk) := dk 0 (some n) false D (dk 4 (some n) false E (dk 8 none true F [none, none, none, none]))
def fL4 (n : Nat) (D E F K : DskD) : List (Option Blk) := dk 0 (some n) false D (dk 4 (some n) false E (dk 8 none true F (dk 12 none true K [])))
theorem dk_good {i g : Nat} {c o D X} (h : goodL g (i + 4) X) : goodL g i (dk i c o D X) := by
  refine ⟨dBlk_good, dBlk_good, dBlk_good, sBlk_good ?_, h⟩
  simp [dobjC, dav0, dav1, dav2, dpos, AV.labs.labss, AV.labs, refLt]
  omega
theorem fg0 : Good ⟨[], Z16⟩ := trivial
theorem fg1 : Good ⟨[], fL1 n D⟩ := dk_good trivial
theorem fg2 {E} : Good ⟨[], fL2 n D E⟩ := dk_good (dk_good trivial)
theorem fg3 {E} : Good ⟨[], fL3 n D E F⟩ := dk_good (dk_good (dk_good trivial))
theorem fg4 {E K} : Good ⟨[], fL4 n D E F K⟩ := dk_good (dk_good (dk_good (dk_good trivial)))
theorem fi2 {E} : (⟨[], fL2 n D E⟩ : Hp).into = two Z16 (dpos 0 (some n) false) (dpos 4 (some n) false) D E := rfl
theorem fi4 {E K} : (⟨[], fL4 n D E F K⟩ : Hp).into = two (two Z16 (dpos 8 none true) (dpos 12 none true) F K) (dpos 0 (some n) false) (dpos 4 (some n) false) D E := rfl
theorem fi4' {E K} : (⟨[], fL4 n D E F K⟩ : Hp).into = two (two Z16 (dpos 0 (some n) false) (dpos 4 (some n) false) D E) (dpos 8 none true) (dpos 12 none true) F K := rfl
section
variable (H : LawF prog)
include H
theorem fNew (h1 : 1 ≤ n) (h2 : n ≤ 20000) : Ev prog (.op (.call "haberdash/disk.New" [0, 1, 2, 3]) [.v (.int .i64 (n : Nat))] ⟨[], Z16⟩) (.val (.tup [.ptr (.l 3) 5 0, .v (.int .i64 0)]) ⟨[], fL1 n (newD n)⟩) :=
  op_dsk (D := newD n) (R := fun a => .tup [a, .v (.int .i64 0)]) (fun ρ a => rfl) (New_spec H.toDiskLib h1 h2) (by decide) rfl rfl rfl rfl fg0
theorem fNewR (h1 : 1 ≤ n) (h2 : n ≤ 20000) : Ev prog (.op (.call "haberdash/haberdashref06.New" [4, 5, 6, 7]) [.v (.int .i64 (n : Nat))] ⟨[], fL1 n D⟩) (.val (.ptr (.l 7) 5 0) ⟨[], fL2 n D (newD n)⟩) :=
  op_dsk (D := newD n) (R := fun a => a) (fun ρ a => rfl) (refNew_spec H.ref h1 h2) (by decide) rfl rfl rfl rfl fg1
theorem fFork (z : Siz D n) (h1 : 1 ≤ n) (h2 : n ≤ 20000) {E} : Ev prog (.op (.call "(*haberdash/disk.Disk).Fork" [8, 9, 10, 11]) [.ptr (.l 3) 5 0] ⟨[], fL2 n D E⟩) (.val (.ptr (.l 11) 5 0) ⟨[], fL3 n D E D⟩) :=
  op_dsk (D := D) (R := fun a => a) (fun ρ a => rfl) (by
    have := Fork_spec H.toForkLib (P := dpos 0 (some n) false) (D := D) (G := dset Z16 (dpos 4 (some n) false) E) (by rw [z.b]; exact dpos_ok (by simp [dset_len]) le_some) (by rw [z.l, z.b]) (by rw [z.a, z.b]) (by rw [z.b]; exact h2) (by rw [z.b]; exact h1)
    exact this) (by decide) rfl rfl rfl rfl fg2
theorem fCopy (z : Siz F n) (h1 : 1 ≤ n) (h2 : n ≤ 20000) : Ev prog (.op (.call "(*haberdash/haberdashref06.Disk).Copy" [12, 13, 14, 15]) [.ptr (.l 7) 5 0] ⟨[], fL3 n D F.sw D⟩) (.val (.ptr (.l 15) 5 0) ⟨[], fL4 n D F.sw D F.sw⟩) :=
  op_dsk (D := F.sw) (R := fun a => a) (fun ρ a => rfl) (by
    have := refCopy_spec H.ref (P := dpos 4 (some n) false) (D := F.sw) (G := two Z16 (dpos 0 (some n) false) (dpos 8 none true) D D) (by show (dpos 4 (some n) false).Ok _ F.a.length; rw [z.a]; exact dpos_ok (by simp [two_len]) le_some) (by show F.l.length = F.a.length; rw [z.l, z.a]) (by show F.b.length = F.a.length; rw [z.a, z.b]) (by show F.a.length ≤ _; rw [z.a]; exact h2) (by show 0 < F.a.length; rw [z.a]; exact h1)
    exact this) (by decide) rfl rfl rfl rfl fg3
theorem fStep2 (z : Siz D n) (h1 : 1 ≤ n) (h2 : n ≤ 20000) (x : OpV) : Ev prog (.op (.call "haberdash/haberdashlaw06.step" []) [.ptr (.l 3) 5 0, .ptr (.l 7) 5 0, .agg (opAV x.o x.kp)] ⟨[], fL2 n D D.sw⟩) (.val (.v (.bool true)) ⟨[], fL2 n (D.step x.o) (D.step x.o).sw⟩) :=
  op_turn ⟨[], fL2 n (D.step x.o) (D.step x.o).sw⟩ (by
    simp only [List.map_cons, List.map_nil, ren_op]
    rw [fi2, fi2]
    exact step_spec H.toStepLib (G := Z16) (P := dpos 0 (some n) false) (Q := dpos 4 (some n) false) (two_ok (by omega) (by simp) le_some le_some) z h1 h2 x.va) rfl rfl rfl fg2 fg2
theorem fStep4 {D' : DskD} (z : Siz F n) (h1 : 1 ≤ n) (h2 : n ≤ 20000) (x : OpV) : Ev prog (.op (.call "haberdash/haberdashlaw06.step" []) [.ptr (.l 11) 5 0, .ptr (.l 15) 5 0, .agg (opAV x.o x.kp)] ⟨[], fL4 n D D' F F.sw⟩) (.val (.v (.bool true)) ⟨[], fL4 n D D' (F.step x.o) (F.step x.o).sw⟩) :=
  op_turn ⟨[], fL4 n D D' (F.step x.o) (F.step x.o).sw⟩ (by
    simp only [List.map_cons, List.map_nil, ren_op]
    rw [fi4', fi4']
    exact step_spec H.toStepLib (G := two Z16 (dpos 0 (some n) false) (dpos 4 (some n) false) D D') (P := dpos 8 none true) (Q := dpos 12 none true) (two_ok (by omega) (by simp [two_len]) le_none le_none) z h1 h2 x.va) rfl rfl rfl fg4 fg4
theorem fSame4 {D' : DskD} (z : Siz F n) (h2 : n ≤ 20000) : Ev prog (.op (.call "haberdash/haberdashlaw06.same" []) [.ptr (.l 11) 5 0, .ptr (.l 15) 5 0] ⟨[], fL4 n D D' F F.sw⟩) (.val (.v (.bool true)) ⟨[], fL4 n D D' F F.sw⟩) :=
  op_turn ⟨[], fL4 n D D' F F.sw⟩ (by
    rw [fi4']
    exact dsame_spec H.toStepLib (G := two Z16 (dpos 0 (some n) false) (dpos 4 (some n) false) D D') (P := dpos 8 none true) (Q := dpos 12 none true) (two_ok (by omega) (by simp [two_len]) le_none le_none) z h2) rfl rfl rfl fg4 fg4
theorem fSame1 {K : DskD} (z : Siz D n) (h2 : n ≤ 20000) : Ev prog (.op (.call "haberdash/haberdashlaw06.same" []) [.ptr (.l 3) 5 0, .ptr (.l 7) 5 0] ⟨[], fL4 n D D.sw F K⟩) (.val (.v (.bool true)) ⟨[], fL4 n D D.sw F K⟩) :=
  op_turn ⟨[], fL4 n D D.sw F K⟩ (by
    rw [fi4]
    exact dsame_spec H.toStepLib (G := two Z16 (dpos 8 none true) (dpos 12 none true) F K) (P := dpos 0 (some n) false) (Q := dpos 4 (some n) false) (two_ok (by omega) (by simp [two_len]) le_some le_some) z h2) rfl rfl rfl fg4 fg4
end
set_option maxRecDepth 100000 in
set_option maxHeartbeats 4000000 in
theorem DiskForks_law (H : LawF prog) (hp : prog "haberdash/haberdashlaw06.DiskForks" = some f_law06_DiskForks) {args} (h : IsAll [.int .i64, .slice opTy, .slice opTy] args) :
    ∃ G2, Ev prog (.call "haberdash/haberdashlaw06.DiskForks" args []) (.ret (.v (.bool true)) G2) := by
  rcases args with _ | ⟨a0, _ | ⟨a1, _ | ⟨a2, _ | _⟩⟩⟩ <;> try (simp [IsAll] at h; done)
  obtain ⟨⟨c0', h0, rfl⟩, ⟨c1', h1, rfl⟩, ⟨c2', h2, rfl⟩, _⟩ := h
  obtain ⟨n0, rfl, hn⟩ := is_i64 h0
  obtain ⟨a, xs, rfl, va, ham⟩ := is_ops h1
  obtain ⟨b, ys, rfl, vb, hbm⟩ := is_ops h2
  have na : ∀ ks, noRef ks a = true := fun ks => noRef_out (View.out (va ⟨[], []⟩))
  have nb : ∀ ks, noRef ks b = true := fun ks => noRef_out (View.out (vb ⟨[], []⟩))
  have h12 := umod_lt (c := n0) (n := 9) (by omega)
  have L6 := H.toLaw6
  refine ⟨[], call_of_fin hp ?_⟩
  simp only [f_law06_DiskForks_B, enter, List.length_cons, List.length_nil, List.replicate, Nat.reduceAdd, Nat.reduceSub, List.cons_append, List.nil_append, Ty.arg, intAV]
  simp (disch := first | (simp only [ne_eq, reduceCtorEq, not_false_eq_true, implies_true, List.getElem?_cons_zero, List.getElem?_cons_succ]; done) | omega) only [WS, St.guard, St.put, evalO, reduceCtorEq, reduceIte, Nat.reduceAdd, Nat.reduceEqDiff]
  rw [vRem_u64_lit (z := 9) 9 rfl (by omega)]
  simp (disch := first | (simp only [ne_eq, reduceCtorEq, not_false_eq_true, implies_true, List.getElem?_cons_zero, List.getElem?_cons_succ]; done) | omega) only [WS, St.guard, St.put, evalO, reduceCtorEq, reduceIte, Nat.reduceAdd, Nat.reduceEqDiff, wrap_i64_nat, vBin_add_i64]
  obtain ⟨n, hm⟩ : ∃ m : Nat, m = umod n0 9 + 1 := ⟨_, rfl⟩
  have em : (1 : Int) + ((umod n0 9 : Nat) : Int) = ((n : Nat) : Int) := by omega
  rw [em]
  have n1 : 1 ≤ n := by omega
  have n2 : n ≤ 20000 := by omega
  refine WP_of (fNew H n1 n2) ?_
  simp (disch := first | (simp only [ne_eq, reduceCtorEq, not_false_eq_true, implies_true, List.getElem?_cons_zero, List.getElem?_cons_succ]; done) | omega) only [WS, St.guard, St.put, evalO, reduceCtorEq, reduceIte, Nat.reduceAdd, Nat.reduceEqDiff]
  refine WP_of (fNewR H n1 n2) ?_
  simp (disch := first | (simp only [ne_eq, reduceCtorEq, not_false_eq_true, implies_true, List.getElem?_cons_zero, List.getElem?_cons_succ]; done) | omega) only [WS, St.guard, St.put, evalO, reduceCtorEq, reduceIte, Nat.reduceAdd, Nat.reduceEqDiff]
  have z := fun i => stepsN_siz (xs := xs) (Siz.new (N := n)) i
  refine WC_count (fun i => ⟨f_law06_DiskForks_H0 a b (.ptr (.l 3) 5 0) (.ptr (.l 7) 5 0) (.v (.int .i64 (i : Nat))), ⟨[], fL2 n (stepsN (newD n) xs i) (stepsN (newD n) xs i).sw⟩⟩) (min xs.length 40) ?_ (fun i hi => ?_) ?_
  · exact clear_fre (by simp only [clear_nil, List.foldl_cons, List.foldl_nil, Option.some.injEq, List.map_cons, List.map_nil, List.getD_cons_zero, List.getD_cons_succ, List.set_cons_zero, List.set_cons_succ, Option.map_some, Option.bind_some, ne_eq, reduceCtorEq, not_false_eq_true, implies_true, beq_self_eq_true, BEq.rfl, if_true, if_false, Bool.false_eq_true, not_true_eq_false, Option.some.injEq, reduceIte, Bool.not_true, Bool.not_false, beq_true, beq_false, Bool.true_and, Bool.and_true, Bool.false_and, Bool.and_false, true_and, List.getElem?_cons_zero, List.getElem?_cons_succ, List.length_cons, List.length_nil, Nat.reduceAdd] <;> rfl) (by rfl) (by simp only [f_law06_DiskForks_H0, List.all_cons, List.all_nil, noRef_v, noRef_dead, noRef_own, noRef_ptr, noRef_nil, Bool.and_true, Bool.true_and, Bool.and_self, List.contains_cons, List.contains_nil, Bool.or_false, Nat.reduceBEq, Bool.not_false, na, nb]) (by rfl)
  · have hlt : (i : Int) < (xs.length : Int) := by omega
    have hlt2 : (i : Int) < 40 := by omega
    obtain ⟨x, hx⟩ : ∃ x, xs[i]? = some x := ⟨_, List.getElem?_eq_getElem (show i < xs.length by omega)⟩
    have vk := x.va
    simp (disch := first | (simp only [ne_eq, reduceCtorEq, not_false_eq_true, implies_true, List.getElem?_cons_zero, List.getElem?_cons_succ]; done) | omega) only [f_law06_DiskForks_L0, f_law06_DiskForks_H0, WS, St.guard, St.put, evalO, reduceCtorEq, reduceIte, Nat.reduceAdd, Nat.reduceEqDiff, (va _).lenSlice, goInt, hlt, hlt2, decide_true, op_ix (va _) hx, op_fa (va _) hx, op_lf (va _) hx (f := 3) (by omega) rfl, (vk _).lenSlice]
    by_cases hk : (x.o.keep.length : Int) > 40
    · simp (disch := first | (simp only [ne_eq, reduceCtorEq, not_false_eq_true, implies_true, List.getElem?_cons_zero, List.getElem?_cons_succ]; done) | omega) only [WS, St.guard, St.put, evalO, reduceCtorEq, reduceIte, Nat.reduceAdd, Nat.reduceEqDiff, hk, decide_true]
      refine (WP_p (x := .bool true) (by exact awake6_16 L6 rfl) (by exact fg2)).2 ?_
      simp (disch := first | (simp only [ne_eq, reduceCtorEq, not_false_eq_true, implies_true, List.getElem?_cons_zero, List.getElem?_cons_succ]; done) | omega) only [WS, St.guard, St.put, evalO, reduceCtorEq, reduceIte, Nat.reduceAdd, Nat.reduceEqDiff, op_ix (va _) hx, op_fa (va _) hx, op_lf (va _) hx (f := 3) (by omega) rfl, (vk _).lenSlice, goInt, hk, decide_true, fin_tmp, leave_v]
      simp
    · simp (disch := first | (simp only [ne_eq, reduceCtorEq, not_false_eq_true, implies_true, List.getElem?_cons_zero, List.getElem?_cons_succ]; done) | omega) only [WS, St.guard, St.put, evalO, reduceCtorEq, reduceIte, Nat.reduceAdd, Nat.reduceEqDiff, hk, decide_false, op_ix (va _) hx, op_ld (va _) hx]
      refine WP_of (fStep2 H (z i) n1 n2 x) ?_
      rw [← stepsN_succ (D := newD n) hx]
      simp (disch := first | (simp only [ne_eq, reduceCtorEq, not_false_eq_true, implies_true, List.getElem?_cons_zero, List.getElem?_cons_succ]; done) | omega) only [WS, St.guard, St.put, evalO, reduceCtorEq, reduceIte, Nat.reduceAdd, Nat.reduceEqDiff, vBin_add_i64]
      exact clear_fre (by simp only [clear_nil, List.foldl_cons, List.foldl_nil, Option.some.injEq, List.map_cons, List.map_nil, List.getD_cons_zero, List.getD_cons_succ, List.set_cons_zero, List.set_cons_succ, Option.map_some, Option.bind_some, ne_eq, reduceCtorEq, not_false_eq_true, implies_true, beq_self_eq_true, BEq.rfl, if_true, if_false, Bool.false_eq_true, not_true_eq_false, Option.some.injEq, reduceIte, Bool.not_true, Bool.not_false, beq_true, beq_false, Bool.true_and, Bool.and_true, Bool.false_and, Bool.and_false, true_and, List.getElem?_cons_zero, List.getElem?_cons_succ, List.length_cons, List.length_nil, Nat.reduceAdd] <;> rfl) (by rfl) (by simp only [f_law06_DiskForks_H0, List.all_cons, List.all_nil, noRef_v, noRef_dead, noRef_own, noRef_ptr, noRef_nil, Bool.and_true, Bool.true_and, Bool.and_self, List.contains_cons, List.contains_nil, Bool.or_false, Nat.reduceBEq, Bool.not_false, na, nb]) (by rfl)
  · have hend : (¬ ((min xs.length 40 : Nat) : Int) < (xs.length : Int)) ∨ (((min xs.length 40 : Nat) : Int) < (xs.length : Int) ∧ ¬ ((min xs.length 40 : Nat) : Int) < 40) := by omega
    have zi := z (min xs.length 40)
    generalize stepsN (newD n) xs (min xs.length 40) = D at *
    generalize min xs.length 40 = m at *
    rcases hend with q | ⟨q, q2⟩
    case' inl => simp (disch := first | (simp only [ne_eq, reduceCtorEq, not_false_eq_true, implies_true, List.getElem?_cons_zero, List.getElem?_cons_succ]; done) | omega) only [f_law06_DiskForks_L0, f_law06_DiskForks_H0, WS, St.guard, St.put, evalO, reduceCtorEq, reduceIte, Nat.reduceAdd, Nat.reduceEqDiff, (va _).lenSlice, goInt, q, decide_false]
    case' inr => simp (disch := first | (simp only [ne_eq, reduceCtorEq, not_false_eq_true, implies_true, List.getElem?_cons_zero, List.getElem?_cons_succ]; done) | omega) only [f_law06_DiskForks_L0, f_law06_DiskForks_H0, WS, St.guard, St.put, evalO, reduceCtorEq, reduceIte, Nat.reduceAdd, Nat.reduceEqDiff, (va _).lenSlice, goInt, q, q2, decide_false, decide_true]
    all_goals
      refine WP_of (fFork H zi n1 n2) ?_
      simp (disch := first | (simp only [ne_eq, reduceCtorEq, not_false_eq_true, implies_true, List.getElem?_cons_zero, List.getElem?_cons_succ]; done) | omega) only [WS, St.guard, St.put, evalO, reduceCtorEq, reduceIte, Nat.reduceAdd, Nat.reduceEqDiff]
      refine WP_of (fCopy H zi n1 n2) ?_
      simp (disch := first | (simp only [ne_eq, reduceCtorEq, not_false_eq_true, implies_true, List.getElem?_cons_zero, List.getElem?_cons_succ]; done) | omega) only [WS, St.guard, St.put, evalO, reduceCtorEq, reduceIte, Nat.reduceAdd, Nat.reduceEqDiff]
      refine (WP_p (x := .bool true) (by exact awake6_16 L6 rfl) (by exact fg4)).2 ?_
      simp (disch := first | (simp only [ne_eq, reduceCtorEq, not_false_eq_true, implies_true, List.getElem?_cons_zero, List.getElem?_cons_succ]; done) | omega) only [WS, St.guard, St.put, evalO, reduceCtorEq, reduceIte, Nat.reduceAdd, Nat.reduceEqDiff, isNilV, Hp.isNil]
      have w := fun i => stepsN_siz (xs := ys) zi i
      refine WC_count (fun i => ⟨f_law06_DiskForks_H1 b (.ptr (.l 3) 5 0) (.ptr (.l 7) 5 0) (.ptr (.l 11) 5 0) (.ptr (.l 15) 5 0) (.v (.int .i64 (i : Nat))), ⟨[], fL4 n D D.sw (stepsN D ys i) (stepsN D ys i).sw⟩⟩) (min ys.length 40) ?_ (fun i hi => ?_) ?_
      · exact clear_fre (by simp only [clear_nil, List.foldl_cons, List.foldl_nil, Option.some.injEq, List.map_cons, List.map_nil, List.getD_cons_zero, List.getD_cons_succ, List.set_cons_zero, List.set_cons_succ, Option.map_some, Option.bind_some, ne_eq, reduceCtorEq, not_false_eq_true, implies_true, beq_self_eq_true, BEq.rfl, if_true, if_false, Bool.false_eq_true, not_true_eq_false, Option.some.injEq, reduceIte, Bool.not_true, Bool.not_false, beq_true, beq_false, Bool.true_and, Bool.and_true, Bool.false_and, Bool.and_false, true_and, List.getElem?_cons_zero, List.getElem?_cons_succ, List.length_cons, List.length_nil, Nat.reduceAdd] <;> rfl) (by rfl) (by simp only [f_law06_DiskForks_H1, List.all_cons, List.all_nil, noRef_v, noRef_dead, noRef_own, noRef_ptr, noRef_nil, Bool.and_true, Bool.true_and, Bool.and_self, List.contains_cons, List.contains_nil, Bool.or_false, Nat.reduceBEq, Bool.not_false, nb]) (by rfl)
      · have hlt : (i : Int) < (ys.length : Int) := by omega
        have hlt2 : (i : Int) < 40 := by omega
        obtain ⟨x, hx⟩ : ∃ x, ys[i]? = some x := ⟨_, List.getElem?_eq_getElem (show i < ys.length by omega)⟩
        have vk := x.va
        simp (disch := first | (simp only [ne_eq, reduceCtorEq, not_false_eq_true, implies_true, List.getElem?_cons_zero, List.getElem?_cons_succ]; done) | omega) only [f_law06_DiskForks_L1, f_law06_DiskForks_H1, WS, St.guard, St.put, evalO, reduceCtorEq, reduceIte, Nat.reduceAdd, Nat.reduceEqDiff, (vb _).lenSlice, goInt, hlt, hlt2, decide_true, op_ix (vb _) hx, op_fa (vb _) hx, op_lf (vb _) hx (f := 3) (by omega) rfl, (vk _).lenSlice]
        by_cases hk : (x.o.keep.length : Int) > 40
        · simp (disch := first | (simp only [ne_eq, reduceCtorEq, not_false_eq_true, implies_true, List.getElem?_cons_zero, List.getElem?_cons_succ]; done) | omega) only [WS, St.guard, St.put, evalO, reduceCtorEq, reduceIte, Nat.reduceAdd, Nat.reduceEqDiff, hk, decide_true, fin_tmp, leave_v]
          simp
        · simp (disch := first | (simp only [ne_eq, reduceCtorEq, not_false_eq_true, implies_true, List.getElem?_cons_zero, List.getElem?_cons_succ]; done) | omega) only [WS, St.guard, St.put, evalO, reduceCtorEq, reduceIte, Nat.reduceAdd, Nat.reduceEqDiff, hk, decide_false, op_ix (vb _) hx, op_ld (vb _) hx]
          refine WP_of (fStep4 H (w i) n1 n2 x) ?_
          rw [← stepsN_succ (D := D) hx]
          simp (disch := first | (simp only [ne_eq, reduceCtorEq, not_false_eq_true, implies_true, List.getElem?_cons_zero, List.getElem?_cons_succ]; done) | omega) only [WS, St.guard, St.put, evalO, reduceCtorEq, reduceIte, Nat.reduceAdd, Nat.reduceEqDiff]
          refine WP_of (fSame4 H (w (i + 1)) n2) ?_
          simp (disch := first | (simp only [ne_eq, reduceCtorEq, not_false_eq_true, implies_true, List.getElem?_cons_zero, List.getElem?_cons_succ]; done) | omega) only [WS, St.guard, St.put, evalO, reduceCtorEq, reduceIte, Nat.reduceAdd, Nat.reduceEqDiff, vBin_add_i64]
          exact clear_fre (by simp only [clear_nil, List.foldl_cons, List.foldl_nil, Option.some.injEq, List.map_cons, List.map_nil, List.getD_cons_zero, List.getD_cons_succ, List.set_cons_zero, List.set_cons_succ, Option.map_some, Option.bind_some, ne_eq, reduceCtorEq, not_false_eq_true, implies_true, beq_self_eq_true, BEq.rfl, if_true, if_false, Bool.false_eq_true, not_true_eq_false, Option.some.injEq, reduceIte, Bool.not_true, Bool.not_false, beq_true, beq_false, Bool.true_and, Bool.and_true, Bool.false_and, Bool.and_false, true_and, List.getElem?_cons_zero, List.getElem?_cons_succ, List.length_cons, List.length_nil, Nat.reduceAdd] <;> rfl) (by rfl) (by simp only [f_law06_DiskForks_H1, List.all_cons, List.all_nil, noRef_v, noRef_dead, noRef_own, noRef_ptr, noRef_nil, Bool.and_true, Bool.true_and, Bool.and_self, List.contains_cons, List.contains_nil, Bool.or_false, Nat.reduceBEq, Bool.not_false, nb]) (by rfl)
      · have hend : (¬ ((min ys.length 40 : Nat) : Int) < (ys.length : Int)) ∨ (((min ys.length 40 : Nat) : Int) < (ys.length : Int) ∧ ¬ ((min ys.length 40 : Nat) : Int) < 40) := by omega
        generalize stepsN D ys (min ys.length 40) = F at *
        generalize min ys.length 40 = m at *
        rcases hend with q | ⟨q, q2⟩
        case' inl => simp (disch := first | (simp only [ne_eq, reduceCtorEq, not_false_eq_true, implies_true, List.getElem?_cons_zero, List.getElem?_cons_succ]; done) | omega) only [f_law06_DiskForks_L1, f_law06_DiskForks_H1, WS, St.guard, St.put, evalO, reduceCtorEq, reduceIte, Nat.reduceAdd, Nat.reduceEqDiff, (vb _).lenSlice, goInt, q, decide_false]
        case' inr => simp (disch := first | (simp only [ne_eq, reduceCtorEq, not_false_eq_true, implies_true, List.getElem?_cons_zero, List.getElem?_cons_succ]; done) | omega) only [f_law06_DiskForks_L1, f_law06_DiskForks_H1, WS, St.guard, St.put, evalO, reduceCtorEq, reduceIte, Nat.reduceAdd, Nat.reduceEqDiff, (vb _).lenSlice, goInt, q, q2, decide_false, decide_true]
        all_goals
          refine WP_of (fSame1 H zi n2) ?_
          simp (disch := first | (simp only [ne_eq, reduceCtorEq, not_false_eq_true, implies_true, List.getElem?_cons_zero, List.getElem?_cons_succ]; done) | omega) only [WS, St.guard, St.put, evalO, reduceCtorEq, reduceIte, Nat.reduceAdd, Nat.reduceEqDiff, fin_tmp, leave_v]
          simp
end Go.AM
