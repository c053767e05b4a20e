import Derived.Test.YtdcnjckkcfoppaaJourB
set_option linter.unusedVariables false
set_option linter.unusedSimpArgs false
namespace Go.AM
variable {prog : String → Option IFn}
def zT (k : Nat) : Txt := List.replicate k 0
def needRun (n : Nat) (xs : List Int) : Nat → DskD × JD
  | 0 => (newD n, newJ 0 n 1#32)
  | i + 1 => match xs[i]? with
    | some x => ((needRun n xs i).2.add (needRun n xs i).1 (zT (umod x 200 + 1))).2
    | none => needRun n xs i
structure NeedInv (n : Nat) (q : DskD × JD) : Prop where
  live : Live q.1
  z : Siz q.1 n
  dead : q.2.dead = false
  jn : q.2.n = n
  frm : q.2.frm = 0
  ep : q.2.ep = 1#32
  used : q.2.used ≤ n
  cnt : q.2.recs.length ≤ q.2.used
  recs : ∀ b ∈ q.2.recs, b ≠ [] ∧ b.length ≤ 200
theorem needN_pos {k : Nat} (h : 1 ≤ k) : 1 ≤ needN k := by unfold needN; omega
theorem need_step {n : Nat} {q : DskD × JD} (h : NeedInv n q) (h0 : 0 < n) {k : Nat} (h1 : 1 ≤ k) (h2 : k ≤ 200) :
    (q.2.used + needN k ≤ n → (q.2.add q.1 (zT k)).1 = 0 ∧ (q.2.add q.1 (zT k)).2.2 = q.2.note (zT k) (needN k) ∧ NeedInv n (q.2.add q.1 (zT k)).2) ∧
    (n < q.2.used + needN k → q.2.add q.1 (zT k) = (6, q.1, q.2)) := by
  have hl : (zT k).length = k := by simp [zT]
  refine ⟨fun hf => ?_, fun hf => ?_⟩
  · obtain ⟨D', e, l', z'⟩ := add_live (J := q.2) (b := zT k) h.dead h.live h.z h0 (by omega) (by omega) (by rw [hl, h.jn]; exact hf) (by rw [h.frm, h.jn]; omega)
    rw [hl] at e
    rw [e]
    have hp := needN_pos h1
    refine ⟨rfl, rfl, l', z', h.dead, h.jn, h.frm, h.ep, ?_, ?_, ?_⟩
    · show q.2.used + needN k ≤ n; exact hf
    · show (q.2.recs ++ [zT k]).length ≤ q.2.used + needN k
      have := h.cnt
      simp only [List.length_append, List.length_cons, List.length_nil]; omega
    · intro b hb
      have hb' : b ∈ q.2.recs ++ [zT k] := hb
      rcases List.mem_append.1 hb' with hb' | hb'
      · exact h.recs b hb'
      · simp only [List.mem_singleton] at hb'
        subst hb'
        exact ⟨by intro h3; rw [h3] at hl; simp at hl; omega, by omega⟩
  · exact add_full (b := zT k) h.dead h.live (by omega) (by omega) (by rw [hl, h.jn]; exact hf)
theorem needRun_inv {n : Nat} {xs : List Int} (h0 : 0 < n) : ∀ i, NeedInv n (needRun n xs i)
  | 0 => ⟨newD_live, .new, rfl, rfl, rfl, rfl, Nat.zero_le _, Nat.zero_le _, by intro b hb; simp [needRun, newJ] at hb⟩
  | i + 1 => by
    have h := needRun_inv (xs := xs) h0 i
    show NeedInv n (match xs[i]? with | some x => _ | none => _)
    cases hx : xs[i]? with
    | none => exact h
    | some x =>
      have hk := umod_lt (c := x) (n := 200) (by omega)
      obtain ⟨a, b⟩ := need_step h h0 (k := umod x 200 + 1) (by omega) (by omega)
      by_cases hf : (needRun n xs i).2.used + needN (umod x 200 + 1) ≤ n
      · exact (a hf).2.2
      · show NeedInv n (((needRun n xs i).2.add (needRun n xs i).1 (zT (umod x 200 + 1))).2)
        rw [b (by omega)]; exact h
set_option maxRecDepth 100000 in
set_option maxHeartbeats 4000000 in
theorem JournalNeeds_law (H : Law8 prog) (hp : prog "haberdash/haberdashlaw08.JournalNeeds" = some f_law08_JournalNeeds) {args} (h : IsAll [.int .i64, .slice (.int .i64)] args) :
    ∃ G2, Ev prog (.call "haberdash/haberdashlaw08.JournalNeeds" args []) (.ret (.v (.bool true)) G2) := by
  rcases args with _ | ⟨a0, _ | ⟨a1, _ | _⟩⟩ <;> try (simp [IsAll] at h; done)
  obtain ⟨⟨c0', h0, rfl⟩, ⟨c1', h1, rfl⟩, _⟩ := h
  obtain ⟨n0, rfl, hn⟩ := is_i64 h0
  obtain ⟨a, xs, rfl, va, ham, hxi⟩ := is_ints h1
  have HJ := H.toJourLib
  have HD := HJ.toDiskLib
  have na : ∀ ks, noRef ks a = true := fun ks => noRef_out (View.out (va ⟨[], []⟩))
  have h12 := umod_lt (c := n0) (n := 20) (by omega)
  have hroom : room = 140737488355328 := rfl
  refine ⟨[], call_of_fin hp ?_⟩
  simp only [f_law08_JournalNeeds_B, enter, List.length_cons, List.length_nil, List.replicate, Nat.reduceAdd, Nat.reduceSub, List.cons_append, List.nil_append, Ty.arg, intAV]
  simp (disch := first | (simp only [ne_eq, reduceCtorEq, not_false_eq_true, implies_true, List.getElem?_cons_zero, List.getElem?_cons_succ]; done) | omega) only [WS, St.guard, St.put, evalO, reduceCtorEq, reduceIte, Nat.reduceAdd, Nat.reduceEqDiff]
  refine (WP_p (x := .int .i64 (umod n0 20 : Nat)) (by exact Mod_spec H.mod 20 rfl (by omega) (by omega)) (by exact trivial)).2 ?_
  simp (disch := first | (simp only [ne_eq, reduceCtorEq, not_false_eq_true, implies_true, List.getElem?_cons_zero, List.getElem?_cons_succ]; done) | omega) only [WS, St.guard, St.put, evalO, reduceCtorEq, reduceIte, Nat.reduceAdd, Nat.reduceEqDiff, vBin_add_i64]
  obtain ⟨n, hm⟩ : ∃ m : Nat, m = umod n0 20 + 1 := ⟨_, rfl⟩
  have em : (1 : Int) + ((umod n0 20 : Nat) : Int) = ((n : Nat) : Int) := by omega
  rw [em]
  have n1 : 1 ≤ n := by omega
  have n2 : n ≤ 20000 := by omega
  have lk : ∀ X : List (Option Blk), 5 < X.length → LOk X (dpos 0 (some n) false) 4 5 n := fun X hX => lok0 le_some hX
  have D8 : Dat (List.replicate 8 none) := by intro B hB b e; rw [List.eq_of_mem_replicate hB] at e; cases e
  refine WP_of (h' := ⟨[], lset (List.replicate 8 none) (dpos 0 (some n) false) (newD n)⟩) (by exact op_dsk (D := newD n) (R := fun a => .tup [a, .v (.int .i64 0)]) (fun ρ a => rfl) (New_spec HD n1 n2) (by decide) rfl rfl rfl rfl (dat_good D8)) ?_
  simp (disch := first | (simp only [ne_eq, reduceCtorEq, not_false_eq_true, implies_true, List.getElem?_cons_zero, List.getElem?_cons_succ]; done) | omega) only [WS, St.guard, St.put, evalO, reduceCtorEq, reduceIte, Nat.reduceAdd, Nat.reduceEqDiff]
  refine WP_of (by exact sNew HJ (L := List.replicate 8 none) (lk _ (by simp)) (dat_good D8) (D := newD n) (frm := 0) (nn := n) (ep := 1#32) rfl rfl (by simp [newD]; omega) (newE_new (by omega) (by omega) (by decide))) ?_
  simp (disch := first | (simp only [ne_eq, reduceCtorEq, not_false_eq_true, implies_true, List.getElem?_cons_zero, List.getElem?_cons_succ]; done) | omega) only [WS, St.guard, St.put, evalO, reduceCtorEq, reduceIte, Nat.reduceAdd, Nat.reduceEqDiff]
  refine (WP_p (x := .bool true) (by exact awake8_spec H) (by exact jG (J := newJ 0 n 1#32) (dat_good D8) (lk _ (by simp)))).2 ?_
  simp (disch := first | (simp only [ne_eq, reduceCtorEq, not_false_eq_true, implies_true, List.getElem?_cons_zero, List.getElem?_cons_succ]; done) | omega) only [WS, St.guard, St.put, evalO, reduceCtorEq, reduceIte, Nat.reduceAdd, Nat.reduceEqDiff, Int.reduceBNe, isNilV, Hp.isNil]
  have inv := fun i => needRun_inv (n := n) (xs := xs) (by omega) i
  have ls : ∀ (m k : Nat) (h : Hp), prim h .lenSlice [.own (.l k) m 0 m 1 none] = some (.v (.int .i64 (m : Nat)), h) := fun m k h => rfl
  refine WC_count (fun i => ⟨f_law08_JournalNeeds_H0 (.v (.int .i64 (n : Nat))) a (.ptr (.l 5) 9 0) (.v (.int .i64 ((needRun n xs i).2.used : Nat))) (.v (.int .i64 ((needRun n xs i).2.recs.length : Nat))) (.v (.int .i64 (i : Nat))), ⟨[], lj (List.replicate 8 none) (dpos 0 (some n) false) 4 5 (needRun n xs i).1 (recB (needRun n xs i).2.recs) (jC .l 3 4 (needRun n xs i).2)⟩⟩) (min xs.length 30) ?_ (fun i hi => ?_) ?_
  · exact clear_fre (by simp only [clear_nil, List.foldl_cons, List.foldl_nil, Option.some.injEq, List.map_cons, List.map_nil, List.getD_cons_zero, List.getD_cons_succ, List.set_cons_zero, List.set_cons_succ, Option.map_some, Option.bind_some, ne_eq, reduceCtorEq, not_false_eq_true, implies_true, beq_self_eq_true, BEq.rfl, if_true, if_false, Bool.false_eq_true, not_true_eq_false, Option.some.injEq, reduceIte, Bool.not_true, Bool.not_false, beq_true, beq_false, Bool.true_and, Bool.and_true, Bool.false_and, Bool.and_false, true_and, List.getElem?_cons_zero, List.getElem?_cons_succ, List.length_cons, List.length_nil, Nat.reduceAdd] <;> rfl) (by rfl) (by simp only [f_law08_JournalNeeds_H0, List.all_cons, List.all_nil, noRef_v, noRef_dead, noRef_own, noRef_ptr, noRef_nil, Bool.and_true, Bool.true_and, Bool.and_self, List.contains_cons, List.contains_nil, Bool.or_false, Nat.reduceBEq, Bool.not_false, na]) (by rfl)
  · have hlt : (i : Int) < (xs.length : Int) := by omega
    have hlt2 : (i : Int) < 30 := by omega
    obtain ⟨x, hx⟩ : ∃ x, xs[i]? = some x := ⟨_, List.getElem?_eq_getElem (show i < xs.length by omega)⟩
    have ix : ∀ h, prim h (.indexAddr 1) [a, .v (.int .i64 (i : Int))] = some (elemPtr a 1 i, h) := fun h => (va h).index (lt_of_get hx)
    have ld : ∀ h, prim h (.load 1 false) [elemPtr a 1 i] = some (intAV x, h) := fun h => (va h).load1 (by rw [List.getElem?_map, hx]; rfl)
    have hk := umod_lt (c := x) (n := 200) (by omega)
    have I := inv i
    have I' := inv (i + 1)
    have hnx : needRun n xs (i + 1) = ((needRun n xs i).2.add (needRun n xs i).1 (zT (umod x 200 + 1))).2 := by
      show (match xs[i]? with | some x => _ | none => _) = _
      rw [hx]
    rw [hnx] at I' ⊢
    obtain ⟨k, hkk⟩ : ∃ k, k = umod x 200 + 1 := ⟨_, rfl⟩
    have ek : (1 : Int) + ((umod x 200 : Nat) : Int) = ((k : Nat) : Int) := by omega
    have ek2 : ((k : Int) + 45) = ((k + 45 : Nat) : Int) := by omega
    rw [← hkk] at I' ⊢
    generalize needRun n xs i = q at *
    obtain ⟨D, J⟩ := q
    obtain ⟨sa, sb⟩ := need_step I (by omega) (k := k) (by omega) (by omega)
    have gj : ∀ {D J}, Good ⟨[], lj (List.replicate 8 none) (dpos 0 (some n) false) 4 5 D (recB J.recs) (jC .l 3 4 J)⟩ := jG (dat_good D8) (lk _ (by simp))
    have hzl : (zT k).length = k := by simp [zT]
    have mb : prim ⟨[], lj (List.replicate 8 none) (dpos 0 (some n) false) 4 5 D (recB J.recs) (jC .l 3 4 J)⟩ (.makeSlice 6 1 1 [.int .u8 0]) [.v (.int .i64 (k : Int)), .v (.int .i64 (k : Int))] =
        some (.own (.l 6) k 0 k 1 (some k), ⟨[], lj [none, none, none, none, none, none, some (dBlk ((zT k).map byteAV) false false), none] (dpos 0 (some n) false) 4 5 D (recB J.recs) (jC .l 3 4 J)⟩) := make_bytes (site := 6) (k := k) rfl (by omega)
    have D6 : Dat [none, none, none, none, none, none, some (dBlk ((zT k).map byteAV) false false), none] := by
      intro B hB b e; subst e; simp at hB; subst hB; rfl
    have l6 := lk [none, none, none, none, none, none, some (dBlk ((zT k).map byteAV) false false), none] (by simp)
    have Ic := I.cnt; have Iu := I.used; have In := I.jn; have If := I.frm
    simp only at Ic Iu In If
    simp (disch := first | (simp only [ne_eq, reduceCtorEq, not_false_eq_true, implies_true, List.getElem?_cons_zero, List.getElem?_cons_succ]; done) | omega) only [f_law08_JournalNeeds_L0, f_law08_JournalNeeds_H0, WS, St.guard, St.put, evalO, reduceCtorEq, reduceIte, Nat.reduceAdd, Nat.reduceEqDiff, (va _).lenSlice, goInt, hlt, hlt2, decide_true, ix, ld, intAV]
    refine (WP_p (x := .int .i64 (umod x 200 : Nat)) (by exact Mod_spec H.mod 200 rfl (by omega) (by omega)) (by exact gj)).2 ?_
    simp (disch := first | (simp only [ne_eq, reduceCtorEq, not_false_eq_true, implies_true, List.getElem?_cons_zero, List.getElem?_cons_succ]; done) | omega) only [WS, St.guard, St.put, evalO, reduceCtorEq, reduceIte, Nat.reduceAdd, Nat.reduceEqDiff, vBin_add_i64, ek, ek2]
    rw [vBin_quo_i64 (z := 46) 46 rfl (by omega) (by omega)]
    have en : (k + 45) / 46 = needN k := rfl
    rw [en]
    have hnk : needN k ≤ 10 := by unfold needN; omega
    simp (disch := first | (simp only [ne_eq, reduceCtorEq, not_false_eq_true, implies_true, List.getElem?_cons_zero, List.getElem?_cons_succ]; done) | omega) only [WS, St.guard, St.put, evalO, reduceCtorEq, reduceIte, Nat.reduceAdd, Nat.reduceEqDiff]
    refine (WR_eq mb).2 ?_
    simp (disch := first | (simp only [ne_eq, reduceCtorEq, not_false_eq_true, implies_true, List.getElem?_cons_zero, List.getElem?_cons_succ]; done) | omega) only [WS, St.guard, St.put, evalO, reduceCtorEq, reduceIte, Nat.reduceAdd, Nat.reduceEqDiff]
    refine WP_of (by exact sAdd HJ (J := J) l6 (dat_good D6) I.z (by omega) (b := zT k) (by have := arg_own (G := []) (k := 6) (b := zT k) (o := false) (cap := some k) l6 rfl (by simp [dpos]) (fun c hc => by cases hc; omega); rw [hzl] at this; exact this) (by rw [I.ep]; decide) (by omega) (by omega) (by omega) (by omega)) ?_
    simp (disch := first | (simp only [ne_eq, reduceCtorEq, not_false_eq_true, implies_true, List.getElem?_cons_zero, List.getElem?_cons_succ]; done) | omega) only [WS, St.guard, St.put, evalO, reduceCtorEq, reduceIte, Nat.reduceAdd, Nat.reduceEqDiff]
    have gj6 : ∀ {D J}, Good ⟨[], lj [none, none, none, none, none, none, some (dBlk ((zT k).map byteAV) false false), none] (dpos 0 (some n) false) 4 5 D (recB J.recs) (jC .l 3 4 J)⟩ := jG (dat_good D6) l6
    by_cases hf : J.used + needN k ≤ n
    · obtain ⟨a1, a2, a3⟩ := sa hf
      simp only at a1 a2 a3
      rw [a1]
      generalize hR : (J.add D (zT k)).2 = R at *
      obtain ⟨D', J'⟩ := R
      simp only at a2 a3 I' ⊢
      have Jc := a3.cnt; have Ju := a3.used
      simp only at Jc Ju
      have eu : J'.used = J.used + needN k := by rw [a2]; rfl
      have er : J'.recs.length = J.recs.length + 1 := by rw [a2]; simp [JD.note]
      have q1 : (J.used : Int) + (needN k : Int) ≤ (n : Int) := by omega
      have q1' : (J'.used : Int) ≤ (n : Int) := by omega
      have q2 : (J.used : Int) + (needN k : Int) = (J'.used : Int) := by omega
      have q3 : (J.recs.length : Int) + 1 = (J'.recs.length : Int) := by omega
      refine (WP_p (x := .int .i64 (needN k : Nat)) (by exact Need_spec HJ (by omega)) (by exact gj6)).2 ?_
      simp (disch := first | (simp only [ne_eq, reduceCtorEq, not_false_eq_true, implies_true, List.getElem?_cons_zero, List.getElem?_cons_succ]; done) | omega) only [WS, St.guard, St.put, evalO, reduceCtorEq, reduceIte, Nat.reduceAdd, Nat.reduceEqDiff, bne_self_eq_false, Int.reduceBEq, Int.reduceBNe, vBin_add_i64, q1, q1', decide_true, q2, q3]
      refine WP_of (by exact sUsed HJ (J := J') l6 (dat_good D6)) ?_
      simp (disch := first | (simp only [ne_eq, reduceCtorEq, not_false_eq_true, implies_true, List.getElem?_cons_zero, List.getElem?_cons_succ]; done) | omega) only [WS, St.guard, St.put, evalO, reduceCtorEq, reduceIte, Nat.reduceAdd, Nat.reduceEqDiff, bne_self_eq_false]
      refine WP_of (by exact sRecs HJ (J := J') l6 (dat_good D6) (i := 7) (fun b hb => (a3.recs b hb).1) (fun b hb => by have := (a3.recs b hb).2; omega) (by omega) rfl) ?_
      simp (disch := first | (simp only [ne_eq, reduceCtorEq, not_false_eq_true, implies_true, List.getElem?_cons_zero, List.getElem?_cons_succ]; done) | omega) only [WS, St.guard, St.put, evalO, reduceCtorEq, reduceIte, Nat.reduceAdd, Nat.reduceEqDiff, ls, bne_self_eq_false, vBin_add_i64]
      exact clear_fre (by simp only [clear_nil, List.foldl_cons, List.foldl_nil, Option.some.injEq, List.map_cons, List.map_nil, List.getD_cons_zero, List.getD_cons_succ, List.set_cons_zero, List.set_cons_succ, Option.map_some, Option.bind_some, ne_eq, reduceCtorEq, not_false_eq_true, implies_true, beq_self_eq_true, BEq.rfl, if_true, if_false, Bool.false_eq_true, not_true_eq_false, Option.some.injEq, reduceIte, Bool.not_true, Bool.not_false, beq_true, beq_false, Bool.true_and, Bool.and_true, Bool.false_and, Bool.and_false, true_and, List.getElem?_cons_zero, List.getElem?_cons_succ, List.length_cons, List.length_nil, Nat.reduceAdd] <;> rfl) (by rfl) (by simp only [f_law08_JournalNeeds_H0, List.all_cons, List.all_nil, noRef_v, noRef_dead, noRef_own, noRef_ptr, noRef_nil, Bool.and_true, Bool.true_and, Bool.and_self, List.contains_cons, List.contains_nil, Bool.or_false, Nat.reduceBEq, Bool.not_false, na]) (by rfl)
    · have a1 := sb (by show n < J.used + needN k; omega)
      simp only at a1
      rw [a1]
      have q1 : ¬ (J.used : Int) + (needN k : Int) ≤ (n : Int) := by omega
      refine (WP_p (x := .int .i64 (needN k : Nat)) (by exact Need_spec HJ (by omega)) (by exact gj6)).2 ?_
      simp (disch := first | (simp only [ne_eq, reduceCtorEq, not_false_eq_true, implies_true, List.getElem?_cons_zero, List.getElem?_cons_succ]; done) | omega) only [WS, St.guard, St.put, evalO, reduceCtorEq, reduceIte, Nat.reduceAdd, Nat.reduceEqDiff, bne_self_eq_false, Int.reduceBEq, Int.reduceBNe, vBin_add_i64, q1, decide_false]
      refine WP_of (by exact sUsed HJ (J := J) l6 (dat_good D6)) ?_
      simp (disch := first | (simp only [ne_eq, reduceCtorEq, not_false_eq_true, implies_true, List.getElem?_cons_zero, List.getElem?_cons_succ]; done) | omega) only [WS, St.guard, St.put, evalO, reduceCtorEq, reduceIte, Nat.reduceAdd, Nat.reduceEqDiff, bne_self_eq_false]
      refine WP_of (by exact sRecs HJ (J := J) l6 (dat_good D6) (i := 7) (fun b hb => (I.recs b hb).1) (fun b hb => by have := (I.recs b hb).2; omega) (by omega) rfl) ?_
      simp (disch := first | (simp only [ne_eq, reduceCtorEq, not_false_eq_true, implies_true, List.getElem?_cons_zero, List.getElem?_cons_succ]; done) | omega) only [WS, St.guard, St.put, evalO, reduceCtorEq, reduceIte, Nat.reduceAdd, Nat.reduceEqDiff, ls, bne_self_eq_false, vBin_add_i64]
      exact clear_fre (by simp only [clear_nil, List.foldl_cons, List.foldl_nil, Option.some.injEq, List.map_cons, List.map_nil, List.getD_cons_zero, List.getD_cons_succ, List.set_cons_zero, List.set_cons_succ, Option.map_some, Option.bind_some, ne_eq, reduceCtorEq, not_false_eq_true, implies_true, beq_self_eq_true, BEq.rfl, if_true, if_false, Bool.false_eq_true, not_true_eq_false, Option.some.injEq, reduceIte, Bool.not_true, Bool.not_false, beq_true, beq_false, Bool.true_and, Bool.and_true, Bool.false_and, Bool.and_false, true_and, List.getElem?_cons_zero, List.getElem?_cons_succ, List.length_cons, List.length_nil, Nat.reduceAdd] <;> rfl) (by rfl) (by simp only [f_law08_JournalNeeds_H0, List.all_cons, List.all_nil, noRef_v, noRef_dead, noRef_own, noRef_ptr, noRef_nil, Bool.and_true, Bool.true_and, Bool.and_self, List.contains_cons, List.contains_nil, Bool.or_false, Nat.reduceBEq, Bool.not_false, na]) (by rfl)
  · have hend : (¬ ((min xs.length 30 : Nat) : Int) < (xs.length : Int)) ∨ (((min xs.length 30 : Nat) : Int) < (xs.length : Int) ∧ ¬ ((min xs.length 30 : Nat) : Int) < 30) := by omega
    have I := inv (min xs.length 30)
    generalize needRun n xs (min xs.length 30) = q at *
    obtain ⟨D, J⟩ := q
    generalize min xs.length 30 = m at *
    have Ic := I.cnt; have Iu := I.used; have In := I.jn; have If := I.frm
    simp only at Ic Iu In If
    rcases hend with q | ⟨q, q2⟩
    case' inl => simp (disch := first | (simp only [ne_eq, reduceCtorEq, not_false_eq_true, implies_true, List.getElem?_cons_zero, List.getElem?_cons_succ]; done) | omega) only [f_law08_JournalNeeds_L0, f_law08_JournalNeeds_H0, WS, St.guard, St.put, evalO, reduceCtorEq, reduceIte, Nat.reduceAdd, Nat.reduceEqDiff, (va _).lenSlice, goInt, q, decide_false]
    case' inr => simp (disch := first | (simp only [ne_eq, reduceCtorEq, not_false_eq_true, implies_true, List.getElem?_cons_zero, List.getElem?_cons_succ]; done) | omega) only [f_law08_JournalNeeds_L0, f_law08_JournalNeeds_H0, WS, St.guard, St.put, evalO, reduceCtorEq, reduceIte, Nat.reduceAdd, Nat.reduceEqDiff, (va _).lenSlice, goInt, q, q2, decide_false, decide_true]
    all_goals
      refine WP_of (by exact sAdd HJ (J := J) (lk _ (by simp)) (dat_good D8) I.z (by omega) (b := []) (by exact arg_nil) (by rw [I.ep]; decide) (by omega) (by omega) (by omega) (by simp)) ?_
      rw [add_none I.dead I.live]
      simp (disch := first | (simp only [ne_eq, reduceCtorEq, not_false_eq_true, implies_true, List.getElem?_cons_zero, List.getElem?_cons_succ]; done) | omega) only [WS, St.guard, St.put, evalO, reduceCtorEq, reduceIte, Nat.reduceAdd, Nat.reduceEqDiff, Int.reduceBEq]
      refine (WP_p (x := .int .i64 0) (by exact Need_spec HJ (k := 0) (by omega)) (by exact jG (dat_good D8) (lk _ (by simp)))).2 ?_
      simp (disch := first | (simp only [ne_eq, reduceCtorEq, not_false_eq_true, implies_true, List.getElem?_cons_zero, List.getElem?_cons_succ]; done) | omega) only [WS, St.guard, St.put, evalO, reduceCtorEq, reduceIte, Nat.reduceAdd, Nat.reduceEqDiff, Int.reduceBEq, fin_tmp, leave_v]
      simp
end Go.AM
