import Derived.Test.YtlcbfbopnegmnaaDiskB
set_option linter.unusedVariables false
set_option linter.unusedSimpArgs false
namespace Go.AM
variable {prog : String → Option IFn}
theorem aw6_5 : run (look fs6) 400 (.call "haberdash/haberdashlaw06.awake" [] (List.replicate 5 none)) = some (.ret (.v (.bool true)) (List.replicate 5 none)) := by kernel_rfl
theorem awake6_5 (H : Law6 prog) {G} (hG : G.length = 5) : Ev prog (.call "haberdash/haberdashlaw06.awake" [] G) (.ret (.v (.bool true)) G) := ev_run H.fs hG aw6_5
structure Len (D : DskD) (N : Nat) : Prop where
  a : D.a.length = N
  b : D.b.length = N
  l : D.l.length = N
theorem Len.hit {D : DskD} {N} (h : Len D N) : Len D.hit N := by unfold DskD.hit; split <;> exact ⟨h.a, h.b, h.l⟩
theorem Len.put {D : DskD} {N i s} (h : Len D N) : Len (D.put i s) N := ⟨h.a, by simp [DskD.put, h.b], by simp [DskD.put, h.l]⟩
theorem Len.write {D : DskD} {N i s} (h : Len D N) : Len (D.write i s) N := by unfold DskD.write; split; exact h.put.hit; exact h
theorem Len.settle {D : DskD} {N K} (h : Len D N) : Len (D.settle K) N := by
  obtain ⟨h1, h2, h3, _⟩ := settleN_len (D := D) (K := K) D.b.length
  exact ⟨h1.trans h.a, h2.trans h.b, h3.trans h.l⟩
theorem Len.start {D : DskD} {N} (h : Len D N) : Len D.start N := by
  unfold DskD.start; split
  · have := h.settle (K := fun _ => 0); exact ⟨this.a, this.b, this.l⟩
  · exact h
def hitN (m : Nat) : Nat → DskD
  | 0 => { newD 20 with armed := m }
  | i + 1 => (hitN m i).write (i : Int) (fullS (UInt8.ofNat (i + 1)))
theorem hitN_is {m : Nat} (hm : 0 < m) : ∀ i, i ≤ 15 → Len (hitN m i) 20 ∧ (hitN m i).off = decide (m ≤ i) ∧ (hitN m i).armed = m - i
  | 0, _ => ⟨⟨by simp [hitN, newD], by simp [hitN, newD], by simp [hitN, newD]⟩, by rw [decide_eq_false (by omega)]; rfl, rfl⟩
  | i + 1, hi => by
    obtain ⟨h1, h2, h3⟩ := hitN_is hm i (by omega)
    refine ⟨h1.write, ?_⟩
    show ((hitN m i).write (i : Int) _).off = _ ∧ ((hitN m i).write (i : Int) _).armed = _
    generalize hitN m i = D at *
    unfold DskD.write
    by_cases hmi : m ≤ i
    · have ho : D.off = true := by rw [h2, decide_eq_true hmi]
      have : mayE D (i : Int) ≠ 0 := by unfold mayE; rw [ho, if_pos rfl]; omega
      rw [if_neg this, decide_eq_true (by omega), h3]
      exact ⟨ho, by omega⟩
    · have ho : D.off = false := by rw [h2, decide_eq_false hmi]
      rw [if_pos (mayE_on ho (by rw [h1.b]; omega))]
      unfold DskD.hit
      have ha : (D.put (i : Int).toNat (fullS (UInt8.ofNat (i + 1)))).armed = m - i := h3
      rw [if_neg (by rw [ha]; omega)]
      simp only [ha]
      refine ⟨?_, by omega⟩
      by_cases h : m - i = 1
      · rw [h, decide_eq_true (by omega)]; rfl
      · rw [decide_eq_false (by omega), beq_eq_false_iff_ne.2 h]
theorem is_boolsX {cs : List AV} (h : (Ty.slice .bool).Is cs) : ∃ a, ∃ bs : List Bool, cs = [a] ∧ (∀ h, View h a 1 bs.length (bs.map fun b => .v (.bool b))) ∧ bs.length ≤ maxLen := by
  rcases h with rfl | ⟨es, rfl, h, hl⟩
  · exact ⟨_, [], rfl, fun h => view_nil (by omega), by simp⟩
  · obtain ⟨bs, hb⟩ : ∃ bs : List Bool, es = bs.map fun b => [.v (.bool b)] := by
      clear hl
      induction es with
      | nil => exact ⟨[], rfl⟩
      | cons e es ih =>
        obtain ⟨bs, hb⟩ := ih fun x hx => h x (by simp [hx])
        obtain ⟨b, hb2⟩ := h e (by simp)
        exact ⟨b :: bs, by rw [hb, hb2]; rfl⟩
    subst hb
    have e : (bs.map fun b => [AV.v (.bool b)]).flatten = bs.map fun b => AV.v (.bool b) := by
      clear h hl
      induction bs with
      | nil => rfl
      | cons b bs ih => simp only [List.map_cons, List.flatten_cons, ih]; rfl
    refine ⟨_, bs, rfl, fun h => ?_, by simpa using hl⟩
    rw [e, List.length_map]
    exact view_ro (by decide) (by simp [Ty.size])
set_option maxRecDepth 100000 in
set_option maxHeartbeats 4000000 in
theorem DiskHits_law (H : Law6 prog) (hp : prog "haberdash/haberdashlaw06.DiskHits" = some f_law06_DiskHits) {args} (h : IsAll [.int .i64, .slice .bool] args) :
    ∃ G2, Ev prog (.call "haberdash/haberdashlaw06.DiskHits" args []) (.ret (.v (.bool true)) G2) := by
  rcases args with _ | ⟨a0, _ | ⟨a1, _ | _⟩⟩ <;> try (simp [IsAll] at h; done)
  obtain ⟨⟨c0', h0, rfl⟩, ⟨c1', h1, rfl⟩, _⟩ := h
  obtain ⟨n0, rfl, hn⟩ := is_i64 h0
  obtain ⟨b, bs, rfl, vb, hbm⟩ := is_boolsX h1
  have L := H.toDiskLib
  have nb : ∀ ks, noRef ks b = true := fun ks => noRef_out (View.out (vb ⟨[], []⟩))
  have h12 := umod_lt (c := n0) (n := 12) (by omega)
  have dn : Dat [none] := by intro B hB b e; subst e; simp at hB
  refine ⟨[], call_of_fin hp ?_⟩
  simp only [f_law06_DiskHits_B, enter, List.length_cons, List.length_nil, List.replicate, Nat.reduceAdd, Nat.reduceSub, List.cons_append, List.nil_append, Ty.arg, intAV]
  simp (disch := first | (simp only [ne_eq, reduceCtorEq, not_false_eq_true, implies_true, List.getElem?_cons_zero, List.getElem?_cons_succ]; done) | omega) only [WS, St.guard, St.put, evalO, reduceCtorEq, reduceIte, Nat.reduceAdd, Nat.reduceEqDiff]
  rw [vRem_u64_lit (z := 12) 12 rfl (by omega)]
  simp (disch := first | (simp only [ne_eq, reduceCtorEq, not_false_eq_true, implies_true, List.getElem?_cons_zero, List.getElem?_cons_succ]; done) | omega) only [WS, St.guard, St.put, evalO, reduceCtorEq, reduceIte, Nat.reduceAdd, Nat.reduceEqDiff, wrap_i64_nat, vBin_add_i64]
  obtain ⟨m, hm⟩ : ∃ m : Nat, m = umod n0 12 + 1 := ⟨_, rfl⟩
  have em : (1 : Int) + ((umod n0 12 : Nat) : Int) = ((m : Nat) : Int) := by omega
  rw [em]
  refine WP_of (lDNew L dn (N := 20) (by omega) (by omega)) ?_
  simp (disch := first | (simp only [ne_eq, reduceCtorEq, not_false_eq_true, implies_true, List.getElem?_cons_zero, List.getElem?_cons_succ]; done) | omega) only [WS, St.guard, St.put, evalO, reduceCtorEq, reduceIte, Nat.reduceAdd, Nat.reduceEqDiff]
  refine (WP_p (x := .bool true) (by exact awake6_5 H rfl) (by exact dL_good dn)).2 ?_
  simp (disch := first | (simp only [ne_eq, reduceCtorEq, not_false_eq_true, implies_true, List.getElem?_cons_zero, List.getElem?_cons_succ]; done) | omega) only [WS, St.guard, St.put, evalO, reduceCtorEq, reduceIte, Nat.reduceAdd, Nat.reduceEqDiff, Int.reduceBNe, isNilV, Hp.isNil, (vb _).lenSlice, goInt]
  by_cases q1 : (bs.length : Int) > 15
  · simp (disch := first | (simp only [ne_eq, reduceCtorEq, not_false_eq_true, implies_true, List.getElem?_cons_zero, List.getElem?_cons_succ]; done) | omega) only [WS, St.guard, St.put, evalO, reduceCtorEq, reduceIte, Nat.reduceAdd, Nat.reduceEqDiff, q1, decide_true]
    refine (WP_p (x := .bool true) (by exact awake6_5 H rfl) (by exact dL_good dn)).2 ?_
    simp (disch := first | (simp only [ne_eq, reduceCtorEq, not_false_eq_true, implies_true, List.getElem?_cons_zero, List.getElem?_cons_succ]; done) | omega) only [WS, St.guard, St.put, evalO, reduceCtorEq, reduceIte, Nat.reduceAdd, Nat.reduceEqDiff, fin_tmp, leave_v]
    simp
  simp (disch := first | (simp only [ne_eq, reduceCtorEq, not_false_eq_true, implies_true, List.getElem?_cons_zero, List.getElem?_cons_succ]; done) | omega) only [WS, St.guard, St.put, evalO, reduceCtorEq, reduceIte, Nat.reduceAdd, Nat.reduceEqDiff, q1, decide_false]
  refine WP_of (lDArm L dn (m := (m : Int))) ?_
  have e0 : ({ newD 20 with armed := (m : Int).toNat } : DskD) = hitN m 0 := by rw [Int.toNat_natCast]; rfl
  rw [e0]
  simp (disch := first | (simp only [ne_eq, reduceCtorEq, not_false_eq_true, implies_true, List.getElem?_cons_zero, List.getElem?_cons_succ]; done) | omega) only [WS, St.guard, St.put, evalO, reduceCtorEq, reduceIte, Nat.reduceAdd, Nat.reduceEqDiff]
  have st : ∀ (D : DskD) (u : Sec), prim ⟨[], dL 20 D [some (dBlk (zs64.map byteAV) false false)]⟩ (.store 64 false) [.ptr (.l 4) 64 0, .agg (u.1.map byteAV)] = some (.v undef, ⟨[], dL 20 D [some (dBlk (u.1.map byteAV) false false)]⟩) := fun D u =>
    store_all (L := dL 20 D [some (dBlk (zs64.map byteAV) false false)]) (j := 4) (cells := zs64.map byteAV) (o := false) (v := false) rfl rfl (by simpa using u.2) bytes_lfs
  have al : ∀ D, prim ⟨[], dL 20 D [none]⟩ (.alloc 4 zeros64 []) [] = some (.ptr (.l 4) 64 0, ⟨[], dL 20 D [some (dBlk (zs64.map byteAV) false false)]⟩) := fun D => alloc_zeros rfl
  have dd : ∀ u : Sec, Dat [some (dBlk (u.1.map byteAV) false false)] := fun u => by intro B hB b e; subst e; simp at hB; subst hB; rfl
  refine WC_count (fun i => ⟨f_law06_DiskHits_H0 (.v (.int .i64 (m : Nat))) b (.ptr (.l 3) 5 0) (.v (.int .i64 (i : Nat))), ⟨[], dL 20 (hitN m i) [none]⟩⟩) bs.length ?_ (fun i hi => ?_) ?_
  · exact clear_fre (by simp only [clear_nil, List.foldl_cons, List.foldl_nil, Option.some.injEq, List.map_cons, List.map_nil, List.getD_cons_zero, List.getD_cons_succ, List.set_cons_zero, List.set_cons_succ, Option.map_some, Option.bind_some, ne_eq, reduceCtorEq, not_false_eq_true, implies_true, beq_self_eq_true, BEq.rfl, if_true, if_false, Bool.false_eq_true, not_true_eq_false, Option.some.injEq, reduceIte, Bool.not_true, Bool.not_false, beq_true, beq_false, Bool.true_and, Bool.and_true, Bool.false_and, Bool.and_false, true_and, List.getElem?_cons_zero, List.getElem?_cons_succ, List.length_cons, List.length_nil, Nat.reduceAdd] <;> rfl) (by rfl) (by simp only [f_law06_DiskHits_H0, List.all_cons, List.all_nil, noRef_v, noRef_dead, noRef_own, noRef_ptr, noRef_nil, Bool.and_true, Bool.true_and, Bool.and_self, List.contains_cons, List.contains_nil, Bool.or_false, Nat.reduceBEq, Bool.not_false, nb]) (by rfl)
  · have hlt : (i : Int) < (bs.length : Int) := by omega
    have hbi : bs[i]? = some bs[i] := List.getElem?_eq_getElem hi
    have ix : ∀ h, prim h (.indexAddr 1) [b, .v (.int .i64 (i : Int))] = some (elemPtr b 1 i, h) := fun h => (vb h).index hi
    have ld : ∀ h, prim h (.load 1 false) [elemPtr b 1 i] = some (.v (.bool bs[i]), h) := fun h => (vb h).load1 (by rw [List.getElem?_map, hbi]; rfl)
    obtain ⟨g1, g2, g3⟩ := hitN_is (m := m) (by omega) i (by omega)
    obtain ⟨g1', g2', g3'⟩ := hitN_is (m := m) (by omega) (i + 1) (by omega)
    have hnx : (hitN m i).write (i : Int) (fullS (UInt8.ofNat (i + 1))) = hitN m (i + 1) := rfl
    have hwm : (hitN m i).write (-1) (fullS 1) = hitN m i := by
      have : mayE (hitN m i) (-1) ≠ 0 := by unfold mayE; split; omega; rw [if_pos (.inl (by omega))]; omega
      unfold DskD.write; rw [if_neg this]
    simp (disch := first | (simp only [ne_eq, reduceCtorEq, not_false_eq_true, implies_true, List.getElem?_cons_zero, List.getElem?_cons_succ]; done) | omega) only [f_law06_DiskHits_L0, f_law06_DiskHits_H0, WS, St.guard, St.put, evalO, reduceCtorEq, reduceIte, Nat.reduceAdd, Nat.reduceEqDiff, (vb _).lenSlice, goInt, hlt, decide_true]
    refine WP_of (lDRead L dn (at' := 20) g1.b) ?_
    simp (disch := first | (simp only [ne_eq, reduceCtorEq, not_false_eq_true, implies_true, List.getElem?_cons_zero, List.getElem?_cons_succ]; done) | omega) only [WS, St.guard, St.put, evalO, reduceCtorEq, reduceIte, Nat.reduceAdd, Nat.reduceEqDiff, al, st]
    generalize readV (hitN m i) 20 = u
    refine (WP_r (r := .agg ((fullS 1).1.map byteAV)) (by exact full_spec L (c := 1)) (by simp [AV.lf, bytes_lfs]) (by exact dL_good (dd u))).2 ?_
    simp (disch := first | (simp only [ne_eq, reduceCtorEq, not_false_eq_true, implies_true, List.getElem?_cons_zero, List.getElem?_cons_succ]; done) | omega) only [WS, St.guard, St.put, evalO, reduceCtorEq, reduceIte, Nat.reduceAdd, Nat.reduceEqDiff]
    refine WP_of (lDWrite L (dd u) (at' := -1) (s := fullS 1) g1.b g1.l (by omega)) ?_
    rw [hwm]
    simp (disch := first | (simp only [ne_eq, reduceCtorEq, not_false_eq_true, implies_true, List.getElem?_cons_zero, List.getElem?_cons_succ]; done) | omega) only [WS, St.guard, St.put, evalO, reduceCtorEq, reduceIte, Nat.reduceAdd, Nat.reduceEqDiff, vBin_add_i64]
    have ew : Value.int .u8 (IntKind.u8.wrap ((i : Int) + 1)) = u8 (UInt8.ofNat (i + 1)) := by
      have h := cvU8 (n := i + 1) (h := ⟨[], []⟩)
      rw [px_convInt] at h
      simp only [Option.some.injEq, Prod.mk.injEq, AV.v.injEq, and_true] at h
      exact h
    rw [ew]
    refine (WP_r (r := .agg ((fullS (UInt8.ofNat (i + 1))).1.map byteAV)) (by exact full_spec L) (by simp [AV.lf, bytes_lfs]) (by exact dL_good (dd u))).2 ?_
    simp (disch := first | (simp only [ne_eq, reduceCtorEq, not_false_eq_true, implies_true, List.getElem?_cons_zero, List.getElem?_cons_succ]; done) | omega) only [WS, St.guard, St.put, evalO, reduceCtorEq, reduceIte, Nat.reduceAdd, Nat.reduceEqDiff]
    refine WP_of (lDWrite L (dd u) (at' := (i : Int)) (s := fullS (UInt8.ofNat (i + 1))) g1.b g1.l (by omega)) ?_
    rw [hnx]
    simp (disch := first | (simp only [ne_eq, reduceCtorEq, not_false_eq_true, implies_true, List.getElem?_cons_zero, List.getElem?_cons_succ]; done) | omega) only [WS, St.guard, St.put, evalO, reduceCtorEq, reduceIte, Nat.reduceAdd, Nat.reduceEqDiff, ix, ld]
    have wi : ∀ D : DskD, D.off = true → ∀ at', writeE D at' = 9 ∧ mayE D at' = 9 := fun D ho at' => by
      have : mayE D at' = 9 := by unfold mayE; rw [ho, if_pos rfl]
      exact ⟨by unfold writeE; rw [this, if_neg (by omega)], this⟩
    cases hb : bs[i]
    · simp (disch := first | (simp only [ne_eq, reduceCtorEq, not_false_eq_true, implies_true, List.getElem?_cons_zero, List.getElem?_cons_succ]; done) | omega) only [WS, St.guard, St.put, evalO, reduceCtorEq, reduceIte, Nat.reduceAdd, Nat.reduceEqDiff]
      by_cases p1 : i + 1 < m
      · have p1' : (i : Int) + 1 < (m : Int) := by omega
        have ho : (hitN m i).off = false := by rw [g2, decide_eq_false (by omega)]
        have f1 : mayE (hitN m i) 20 = 2 := by unfold mayE; rw [ho, if_neg (by simp), if_pos (.inr (by rw [g1.b]; omega))]
        have f2' : mayE (hitN m i) (-1) = 2 := by unfold mayE; rw [ho, if_neg (by simp), if_pos (.inl (by omega))]
        have f2 : writeE (hitN m i) (-1) = 2 := by unfold writeE; rw [f2', if_neg (by omega)]
        have f3 : writeE (hitN m i) (i : Int) = 0 := by
          unfold writeE
          rw [if_pos (mayE_on ho (by rw [g1.b]; omega)), if_neg]
          unfold DskD.hits
          rw [g3]; simp; omega
        have f4 : (hitN m (i + 1)).off = false := by rw [g2', decide_eq_false (by omega)]
        rw [f1, f2, f3]
        simp (disch := first | (simp only [ne_eq, reduceCtorEq, not_false_eq_true, implies_true, List.getElem?_cons_zero, List.getElem?_cons_succ]; done) | omega) only [WS, St.guard, St.put, evalO, reduceCtorEq, reduceIte, Nat.reduceAdd, Nat.reduceEqDiff, p1', decide_true, Int.reduceBNe, vBin_add_i64]
        refine WP_of (lDDown L (dd u)) ?_
        rw [f4]
        simp (disch := first | (simp only [ne_eq, reduceCtorEq, not_false_eq_true, implies_true, List.getElem?_cons_zero, List.getElem?_cons_succ]; done) | omega) only [WS, St.guard, St.put, evalO, reduceCtorEq, reduceIte, Nat.reduceAdd, Nat.reduceEqDiff, vBin_add_i64]
        exact clear_fre (by simp only [clear_nil, List.foldl_cons, List.foldl_nil, Option.some.injEq, List.map_cons, List.map_nil, List.getD_cons_zero, List.getD_cons_succ, List.set_cons_zero, List.set_cons_succ, Option.map_some, Option.bind_some, ne_eq, reduceCtorEq, not_false_eq_true, implies_true, beq_self_eq_true, BEq.rfl, if_true, if_false, Bool.false_eq_true, not_true_eq_false, Option.some.injEq, reduceIte, Bool.not_true, Bool.not_false, beq_true, beq_false, Bool.true_and, Bool.and_true, Bool.false_and, Bool.and_false, true_and, List.getElem?_cons_zero, List.getElem?_cons_succ, List.length_cons, List.length_nil, Nat.reduceAdd] <;> rfl) (by rfl) (by simp only [f_law06_DiskHits_H0, List.all_cons, List.all_nil, noRef_v, noRef_dead, noRef_own, noRef_ptr, noRef_nil, Bool.and_true, Bool.true_and, Bool.and_self, List.contains_cons, List.contains_nil, Bool.or_false, Nat.reduceBEq, Bool.not_false, nb]) (by rfl)
      · have p1' : ¬ (i : Int) + 1 < (m : Int) := by omega
        have f3 : writeE (hitN m i) (i : Int) = 9 := by
          by_cases hmi : m ≤ i
          · exact (wi _ (by rw [g2, decide_eq_true hmi]) _).1
          · have ho : (hitN m i).off = false := by rw [g2, decide_eq_false hmi]
            unfold writeE
            rw [if_pos (mayE_on ho (by rw [g1.b]; omega)), if_pos]
            unfold DskD.hits
            rw [g3]; simp; omega
        have f4 : (hitN m (i + 1)).off = true := by rw [g2', decide_eq_true (by omega)]
        rw [f3]
        simp (disch := first | (simp only [ne_eq, reduceCtorEq, not_false_eq_true, implies_true, List.getElem?_cons_zero, List.getElem?_cons_succ]; done) | omega) only [WS, St.guard, St.put, evalO, reduceCtorEq, reduceIte, Nat.reduceAdd, Nat.reduceEqDiff, p1', decide_false, Int.reduceBNe, vBin_add_i64]
        refine WP_of (lDDown L (dd u)) ?_
        rw [f4]
        simp (disch := first | (simp only [ne_eq, reduceCtorEq, not_false_eq_true, implies_true, List.getElem?_cons_zero, List.getElem?_cons_succ]; done) | omega) only [WS, St.guard, St.put, evalO, reduceCtorEq, reduceIte, Nat.reduceAdd, Nat.reduceEqDiff, vBin_add_i64]
        exact clear_fre (by simp only [clear_nil, List.foldl_cons, List.foldl_nil, Option.some.injEq, List.map_cons, List.map_nil, List.getD_cons_zero, List.getD_cons_succ, List.set_cons_zero, List.set_cons_succ, Option.map_some, Option.bind_some, ne_eq, reduceCtorEq, not_false_eq_true, implies_true, beq_self_eq_true, BEq.rfl, if_true, if_false, Bool.false_eq_true, not_true_eq_false, Option.some.injEq, reduceIte, Bool.not_true, Bool.not_false, beq_true, beq_false, Bool.true_and, Bool.and_true, Bool.false_and, Bool.and_false, true_and, List.getElem?_cons_zero, List.getElem?_cons_succ, List.length_cons, List.length_nil, Nat.reduceAdd] <;> rfl) (by rfl) (by simp only [f_law06_DiskHits_H0, List.all_cons, List.all_nil, noRef_v, noRef_dead, noRef_own, noRef_ptr, noRef_nil, Bool.and_true, Bool.true_and, Bool.and_self, List.contains_cons, List.contains_nil, Bool.or_false, Nat.reduceBEq, Bool.not_false, nb]) (by rfl)
    · simp (disch := first | (simp only [ne_eq, reduceCtorEq, not_false_eq_true, implies_true, List.getElem?_cons_zero, List.getElem?_cons_succ]; done) | omega) only [WS, St.guard, St.put, evalO, reduceCtorEq, reduceIte, Nat.reduceAdd, Nat.reduceEqDiff]
      refine WP_of (lDStart L (dd u) g1'.b g1'.l g1'.a (by omega)) ?_
      have gs := g1'.start
      have ga : (hitN m (i + 1)).start.armed < 2 ^ 63 := by
        unfold DskD.start
        split
        · show (0 : Nat) < 2 ^ 63; omega
        · rw [g3']; omega
      simp (disch := first | (simp only [ne_eq, reduceCtorEq, not_false_eq_true, implies_true, List.getElem?_cons_zero, List.getElem?_cons_succ]; done) | omega) only [WS, St.guard, St.put, evalO, reduceCtorEq, reduceIte, Nat.reduceAdd, Nat.reduceEqDiff]
      refine WP_of (lDSync L (dd u) gs.b gs.l gs.a ga (by omega)) ?_
      by_cases p1 : i + 1 < m
      · have es : (hitN m (i + 1)).start = hitN m (i + 1) := by unfold DskD.start; rw [g2', decide_eq_false (by omega)]; rfl
        rw [es]
        have ho : (hitN m (i + 1)).off = false := by rw [g2', decide_eq_false (by omega)]
        by_cases p2 : m = i + 2
        · have f3 : writeE (hitN m (i + 1)) 0 = 9 := by
            unfold writeE
            rw [if_pos (show mayE (hitN m (i + 1)) 0 = 0 from mayE_on (at' := 0) ho (by rw [g1'.b]; omega)), if_pos]
            unfold DskD.hits; rw [g3']; simp; omega
          have e2 : ((m : Int) == (i : Int) + 2) = true := by rw [beq_iff_eq]; omega
          rw [f3]
          simp (disch := first | (simp only [ne_eq, reduceCtorEq, not_false_eq_true, implies_true, List.getElem?_cons_zero, List.getElem?_cons_succ]; done) | omega) only [WS, St.guard, St.put, evalO, reduceCtorEq, reduceIte, Nat.reduceAdd, Nat.reduceEqDiff, vBin_add_i64, Int.reduceBEq, e2, fin_tmp, leave_v]
          simp
        · have f3 : writeE (hitN m (i + 1)) 0 = 0 := by
            unfold writeE
            rw [if_pos (show mayE (hitN m (i + 1)) 0 = 0 from mayE_on (at' := 0) ho (by rw [g1'.b]; omega)), if_neg]
            unfold DskD.hits; rw [g3']; simp; omega
          have e2 : ((m : Int) == (i : Int) + 2) = false := by rw [beq_eq_false_iff_ne]; omega
          rw [f3]
          simp (disch := first | (simp only [ne_eq, reduceCtorEq, not_false_eq_true, implies_true, List.getElem?_cons_zero, List.getElem?_cons_succ]; done) | omega) only [WS, St.guard, St.put, evalO, reduceCtorEq, reduceIte, Nat.reduceAdd, Nat.reduceEqDiff, vBin_add_i64, Int.reduceBEq, e2, fin_tmp, leave_v]
          simp
      · have e2 : ((m : Int) == (i : Int) + 2) = false := by rw [beq_eq_false_iff_ne]; omega
        have e3 : (m : Int) ≤ (i : Int) + 1 := by omega
        generalize writeE (hitN m (i + 1)).start 0 = e
        cases he : (e == 9)
        · simp (disch := first | (simp only [ne_eq, reduceCtorEq, not_false_eq_true, implies_true, List.getElem?_cons_zero, List.getElem?_cons_succ]; done) | omega) only [WS, St.guard, St.put, evalO, reduceCtorEq, reduceIte, Nat.reduceAdd, Nat.reduceEqDiff, vBin_add_i64, he, e2, e3, decide_true, fin_tmp, leave_v]
          simp
        · simp (disch := first | (simp only [ne_eq, reduceCtorEq, not_false_eq_true, implies_true, List.getElem?_cons_zero, List.getElem?_cons_succ]; done) | omega) only [WS, St.guard, St.put, evalO, reduceCtorEq, reduceIte, Nat.reduceAdd, Nat.reduceEqDiff, vBin_add_i64, he, e2, e3, decide_true, fin_tmp, leave_v]
          simp
  · simp (disch := first | (simp only [ne_eq, reduceCtorEq, not_false_eq_true, implies_true, List.getElem?_cons_zero, List.getElem?_cons_succ]; done) | omega) only [f_law06_DiskHits_L0, f_law06_DiskHits_H0, WS, St.guard, St.put, evalO, reduceCtorEq, reduceIte, Nat.reduceAdd, Nat.reduceEqDiff, (vb _).lenSlice, goInt, decide_false, fin_tmp, leave_v]
    simp
end Go.AM
