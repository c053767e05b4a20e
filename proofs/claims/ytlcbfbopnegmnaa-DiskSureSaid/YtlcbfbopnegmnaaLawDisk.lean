import Derived.Test.YtlcbfbopnegmnaaDiskB
set_option linter.unusedVariables false
set_option linter.unusedSimpArgs false
namespace Go.AM
variable {prog : String → Option IFn}
theorem dat3 : Dat [none, none, none] := by intro B hB b e; subst e; simp at hB
def lastA (as : Txt) : List Sec := as.map fullS ++ (List.replicate 24 zsec).drop as.length
theorem lastA_len {as : Txt} (h : as.length ≤ 20) : (lastA as).length = 24 := by unfold lastA; simp; omega
def D2 (as : Txt) : DskD := ⟨lastA as, lastA as, List.replicate 24 false, false, 0⟩
def D3 (as bs : Txt) : DskD := ⟨lastA as, bs.map fullS ++ (lastA as).drop bs.length, List.replicate bs.length true ++ List.replicate (24 - bs.length) false, false, 0⟩
def lastZ (as bs : Txt) (ks : List Int) : List Sec := mixN (keepAt ks) (D3 as bs) bs.length ++ (lastA as).drop bs.length
theorem lastZ_len {as bs : Txt} {ks} (h : as.length ≤ 20) (h2 : bs.length ≤ 20) : (lastZ as bs ks).length = 24 := by unfold lastZ; rw [List.length_append, mixN_len, List.length_drop, lastA_len h]; omega
theorem sure_sync {as : Txt} (h : as.length ≤ 20) : (wrN (as.map fullS) (newD 24) (as.map fullS).length).sync = D2 as := by
  rw [wrN_all]
  unfold DskD.sync
  rw [if_pos (by refine mayE_on (at' := 0) rfl ?_; simp [newD]; omega)]
  rw [if_neg (by simp [DskD.hits, newD])]
  rw [hit_off rfl]
  simp only [newD, D2, lastA, List.length_map, List.length_append, List.length_replicate, List.length_drop]
  congr 1
  congr 1
  omega
theorem sure_last {as bs : Txt} (h2 : bs.length ≤ 20) : wrN (bs.map fullS) (D2 as) (bs.map fullS).length = D3 as bs := by
  rw [wrN_all]
  simp only [D2, D3, List.length_map, List.drop_replicate]
theorem sure_crash {as bs : Txt} {ks : List Int} (h : as.length ≤ 20) (h2 : bs.length ≤ 20) : (D3 as bs).crash ks = ⟨lastZ as bs ks, lastZ as bs ks, List.replicate 24 false, true, 0⟩ := by
  have hb : (D3 as bs).b.length = bs.length + (24 - bs.length) := by simp [D3, lastA_len h]
  have ha : (D3 as bs).a.length = bs.length + (24 - bs.length) := by simp only [D3, lastA_len h]; omega
  unfold DskD.crash
  rw [settle_is (K := keepAt ks) hb ha rfl, show bs.length + (24 - bs.length) = 24 by omega]
  have e : (D3 as bs).b.drop bs.length = (lastA as).drop bs.length := by
    unfold D3; simp only; rw [show bs.length = (bs.map fullS).length by simp, List.drop_left]
  rw [e]; rfl
theorem sure_start {Z : List Sec} (h : Z.length = 24) : (⟨Z, Z, List.replicate 24 false, true, 0⟩ : DskD).start = ⟨Z, Z, List.replicate 24 false, false, 0⟩ := by
  unfold DskD.start
  rw [if_pos rfl, settle_is (D := ⟨Z, Z, List.replicate 24 false, true, 0⟩) (m := 0) (r := 24) (by simpa using h) (by simpa using h) rfl]
  rfl
theorem lastA_at {as : Txt} {i : Nat} (h : as.length ≤ 20) (hi : i < 24) : (lastA as).getD i zsec = if h : i < as.length then fullS as[i] else zsec := by
  unfold lastA
  rw [List.getD_eq_getElem?_getD]
  by_cases h1 : i < as.length
  · rw [dif_pos h1, List.getElem?_append_left (by simpa using h1), List.getElem?_map, List.getElem?_eq_getElem h1]; rfl
  · rw [dif_neg h1, List.getElem?_append_right (by simp; omega), List.getElem?_drop, List.getElem?_replicate]
    split <;> rfl
theorem lastZ_at {as bs : Txt} {ks : List Int} {i : Nat} (h : as.length ≤ 20) (h2 : bs.length ≤ 20) (hi : i < 24) :
    (lastZ as bs ks).getD i zsec = if h : i < bs.length then mixS (keepAt ks i) ((lastA as).getD i zsec) (fullS bs[i]) else (lastA as).getD i zsec := by
  unfold lastZ
  rw [List.getD_eq_getElem?_getD]
  by_cases h1 : i < bs.length
  · have e : (D3 as bs).b.getD i zsec = fullS bs[i] := by
      unfold D3; simp only
      rw [List.getD_eq_getElem?_getD, List.getElem?_append_left (by simpa using h1), List.getElem?_map, List.getElem?_eq_getElem h1]; rfl
    rw [dif_pos h1, List.getElem?_append_left (by rw [mixN_len]; exact h1)]
    unfold mixN
    rw [List.getElem?_map, List.getElem?_range h1, Option.map_some, Option.getD_some, e]
    rfl
  · rw [dif_neg h1, List.getElem?_append_right (by rw [mixN_len]; omega), mixN_len, List.getElem?_drop, List.getD_eq_getElem?_getD]
    congr 2; omega
theorem sec_byte {G L} {j : Nat} {s : Sec} {o v : Bool} (hL : L[j]? = some (some (dBlk (s.1.map byteAV) o v))) {i : Nat} (hi : i < 64) : prim ⟨G, L⟩ (.load 1 false) [.ptr (.l j) 64 i] = some (.v (u8 (s.1.getD i 0)), ⟨G, L⟩) := by
  have hs := s.2
  rw [px_load_l, hL]
  show (if (s.1.map byteAV).length = 64 ∧ i + 1 ≤ 64 then (whole false (((s.1.map byteAV).drop i).take 1)).map fun a => (a, _) else none) = _
  rw [if_pos ⟨by simpa using hs, by omega⟩, List.drop_eq_getElem_cons (by simpa using (by omega : i < s.1.length)), List.take_succ_cons, List.take_zero, List.getElem_map, List.getD_eq_getElem?_getD, List.getElem?_eq_getElem (by omega)]
  rfl
theorem mix_get {k : Int} {s t : Sec} {j : Nat} (hj : j < 64) : (mixS k s t).1.getD j 0 = if j < clampN k then t.1.getD j 0 else s.1.getD j 0 := by
  have hs := s.2
  have ht := t.2
  have hk := clampN_le (k := k)
  show (t.1.take (clampN k) ++ s.1.drop (clampN k)).getD j 0 = _
  simp only [List.getD_eq_getElem?_getD]
  by_cases h : j < clampN k
  · rw [if_pos h, List.getElem?_append_left (by simp; omega), List.getElem?_take, if_pos h]
  · rw [if_neg h, List.getElem?_append_right (by simp; omega), List.getElem?_drop, List.length_take]
    congr 2; omega
def secB (s : Sec) : Option Blk := some (dBlk (s.1.map byteAV) false false)
theorem neq_same {x : UInt8} : vBin .neq (u8 x) (u8 x) = some (.bool false) := by simp [vBin, u8]
set_option maxRecDepth 100000 in
set_option maxHeartbeats 4000000 in
theorem DiskSure_law (H : Law6 prog) (hp : prog "haberdash/haberdashlaw06.DiskSure" = some f_law06_DiskSure) {args} (h : IsAll [.slice (.int .u8), .slice (.int .u8), .slice (.int .i64)] args) :
    ∃ G2, Ev prog (.call "haberdash/haberdashlaw06.DiskSure" args []) (.ret (.v (.bool true)) G2) := by
  rcases args with _ | ⟨a0, _ | ⟨a1, _ | ⟨a2, _ | _⟩⟩⟩ <;> try (simp [IsAll] at h; done)
  obtain ⟨⟨c0', h0, rfl⟩, ⟨c1', h1, rfl⟩, ⟨c2', h2, rfl⟩, _⟩ := h
  obtain ⟨a, as, rfl, va, ham⟩ := is_bytes h0
  obtain ⟨b, bs, rfl, vb, hbm⟩ := is_bytes h1
  obtain ⟨c, ks, rfl, vc, hcm, hI⟩ := is_ints h2
  have L := H.toDiskLib
  have na : ∀ ks, noRef ks a = true := fun ks => noRef_out (View.out (va ⟨[], []⟩))
  have nb : ∀ ks, noRef ks b = true := fun ks => noRef_out (View.out (vb ⟨[], []⟩))
  have nc : ∀ ks, noRef ks c = true := fun ks => noRef_out (View.out (vc ⟨[], []⟩))
  refine ⟨[], call_of_fin hp ?_⟩
  simp only [f_law06_DiskSure_B, enter, List.length_cons, List.length_nil, List.replicate, Nat.reduceAdd, Nat.reduceSub, List.cons_append, List.nil_append, Ty.arg]
  have aw : Good ⟨[], [none, none, none, none, none, none, none]⟩ := trivial
  simp (disch := first | (simp only [ne_eq, reduceCtorEq, not_false_eq_true, implies_true, List.getElem?_cons_zero, List.getElem?_cons_succ]; done) | omega) only [WS, St.guard, St.put, evalO, reduceCtorEq, reduceIte, Nat.reduceAdd, Nat.reduceEqDiff, (va _).lenSlice, (vb _).lenSlice, (vc _).lenSlice, goInt]
  by_cases q1 : (as.length : Int) > 20
  · simp (disch := first | (simp only [ne_eq, reduceCtorEq, not_false_eq_true, implies_true, List.getElem?_cons_zero, List.getElem?_cons_succ]; done) | omega) only [WS, St.guard, St.put, evalO, reduceCtorEq, reduceIte, Nat.reduceAdd, Nat.reduceEqDiff, q1, decide_true]
    refine (WP_p (x := .bool true) (by exact awake6 H rfl) aw).2 ?_
    simp (disch := first | (simp only [ne_eq, reduceCtorEq, not_false_eq_true, implies_true, List.getElem?_cons_zero, List.getElem?_cons_succ]; done) | omega) only [WS, St.guard, St.put, evalO, reduceCtorEq, reduceIte, Nat.reduceAdd, Nat.reduceEqDiff, fin_tmp, leave_v]
    simp
  by_cases q2 : (bs.length : Int) > 20
  · simp (disch := first | (simp only [ne_eq, reduceCtorEq, not_false_eq_true, implies_true, List.getElem?_cons_zero, List.getElem?_cons_succ]; done) | omega) only [WS, St.guard, St.put, evalO, reduceCtorEq, reduceIte, Nat.reduceAdd, Nat.reduceEqDiff, q1, q2, decide_true, decide_false, (va _).lenSlice, (vb _).lenSlice, goInt]
    refine (WP_p (x := .bool true) (by exact awake6 H rfl) aw).2 ?_
    simp (disch := first | (simp only [ne_eq, reduceCtorEq, not_false_eq_true, implies_true, List.getElem?_cons_zero, List.getElem?_cons_succ]; done) | omega) only [WS, St.guard, St.put, evalO, reduceCtorEq, reduceIte, Nat.reduceAdd, Nat.reduceEqDiff, fin_tmp, leave_v]
    simp
  by_cases q3 : (ks.length : Int) > 40
  · simp (disch := first | (simp only [ne_eq, reduceCtorEq, not_false_eq_true, implies_true, List.getElem?_cons_zero, List.getElem?_cons_succ]; done) | omega) only [WS, St.guard, St.put, evalO, reduceCtorEq, reduceIte, Nat.reduceAdd, Nat.reduceEqDiff, q1, q2, q3, decide_true, decide_false, (va _).lenSlice, (vb _).lenSlice, (vc _).lenSlice, goInt]
    refine (WP_p (x := .bool true) (by exact awake6 H rfl) aw).2 ?_
    simp (disch := first | (simp only [ne_eq, reduceCtorEq, not_false_eq_true, implies_true, List.getElem?_cons_zero, List.getElem?_cons_succ]; done) | omega) only [WS, St.guard, St.put, evalO, reduceCtorEq, reduceIte, Nat.reduceAdd, Nat.reduceEqDiff, fin_tmp, leave_v]
    simp
  simp (disch := first | (simp only [ne_eq, reduceCtorEq, not_false_eq_true, implies_true, List.getElem?_cons_zero, List.getElem?_cons_succ]; done) | omega) only [WS, St.guard, St.put, evalO, reduceCtorEq, reduceIte, Nat.reduceAdd, Nat.reduceEqDiff, q1, q2, q3, decide_false, (va _).lenSlice, (vb _).lenSlice, (vc _).lenSlice, goInt]
  have w1 : as.length ≤ 20 := by omega
  have w2 : bs.length ≤ 20 := by omega
  refine WP_of (lDNew L dat3 (N := 24) (by omega) (by omega)) ?_
  simp (disch := first | (simp only [ne_eq, reduceCtorEq, not_false_eq_true, implies_true, List.getElem?_cons_zero, List.getElem?_cons_succ]; done) | omega) only [WS, St.guard, St.put, evalO, reduceCtorEq, reduceIte, Nat.reduceAdd, Nat.reduceEqDiff]
  refine (WP_p (x := .bool true) (by exact awake6 H rfl) (by exact dL_good dat3)).2 ?_
  simp (disch := first | (simp only [ne_eq, reduceCtorEq, not_false_eq_true, implies_true, List.getElem?_cons_zero, List.getElem?_cons_succ]; done) | omega) only [WS, St.guard, St.put, evalO, reduceCtorEq, reduceIte, Nat.reduceAdd, Nat.reduceEqDiff, Int.reduceBNe, isNilV, Hp.isNil]
  have fb : (as.map fullS).length = as.length := List.length_map _
  have fb2 : (bs.map fullS).length = bs.length := List.length_map _
  refine WC_count (fun i => ⟨f_law06_DiskSure_H0 a b c (.ptr (.l 3) 5 0) (.v (.int .i64 (i : Nat))), ⟨[], dL 24 (wrN (as.map fullS) (newD 24) i) [none, none, none]⟩⟩) as.length ?_ (fun i hi => ?_) ?_
  · have : wrN (as.map fullS) (newD 24) 0 = newD 24 := by unfold wrN; simp
    rw [this]
    exact clear_fre (by simp only [clear_nil, List.foldl_cons, List.foldl_nil, Option.some.injEq, List.map_cons, List.map_nil, List.getD_cons_zero, List.getD_cons_succ, List.set_cons_zero, List.set_cons_succ, Option.map_some, Option.bind_some, ne_eq, reduceCtorEq, not_false_eq_true, implies_true, beq_self_eq_true, BEq.rfl, if_true, if_false, Bool.false_eq_true, not_true_eq_false, Option.some.injEq, reduceIte, Bool.not_true, Bool.not_false, beq_true, beq_false, Bool.true_and, Bool.and_true, Bool.false_and, Bool.and_false, true_and, List.getElem?_cons_zero, List.getElem?_cons_succ, List.length_cons, List.length_nil, Nat.reduceAdd] <;> rfl) (by rfl) (by simp only [f_law06_DiskSure_H0, List.all_cons, List.all_nil, noRef_v, noRef_dead, noRef_own, noRef_ptr, noRef_nil, Bool.and_true, Bool.true_and, Bool.and_self, List.contains_cons, List.contains_nil, Bool.or_false, Nat.reduceBEq, Bool.not_false, na, nb, nc]) (by rfl)
  · have hlt : (i : Int) < (as.length : Int) := by omega
    have hai : as[i]? = some as[i] := List.getElem?_eq_getElem hi
    have ix : ∀ h, prim h (.indexAddr 1) [a, .v (.int .i64 (i : Int))] = some (elemPtr a 1 i, h) := fun h => (va h).index hi
    have ld : ∀ h, prim h (.load 1 false) [elemPtr a 1 i] = some (.v (u8 as[i]), h) := fun h => (va h).load1 (by rw [List.getElem?_map, hai]; rfl)
    have hB : (as.map fullS).length ≤ (newD 24).b.length := by rw [fb]; simp [newD]; omega
    have hwl := wrN_len (D := newD 24) hB rfl (i := i) (by omega)
    have hnx := wrN_next (D := newD 24) hB rfl rfl rfl (i := i) (by omega)
    rw [List.getElem_map] at hnx
    simp (disch := first | (simp only [ne_eq, reduceCtorEq, not_false_eq_true, implies_true, List.getElem?_cons_zero, List.getElem?_cons_succ]; done) | omega) only [f_law06_DiskSure_L0, f_law06_DiskSure_H0, WS, St.guard, St.put, evalO, reduceCtorEq, reduceIte, Nat.reduceAdd, Nat.reduceEqDiff, (va _).lenSlice, goInt, hlt, decide_true, ix, ld]
    refine (WP_r (r := .agg ((fullS as[i]).1.map byteAV)) (by exact full_spec L) (by simp [AV.lf, bytes_lfs]) (by exact dL_good dat3)).2 ?_
    simp (disch := first | (simp only [ne_eq, reduceCtorEq, not_false_eq_true, implies_true, List.getElem?_cons_zero, List.getElem?_cons_succ]; done) | omega) only [WS, St.guard, St.put, evalO, reduceCtorEq, reduceIte, Nat.reduceAdd, Nat.reduceEqDiff]
    refine WP_of (lDWrite L dat3 (at' := (i : Int)) (s := fullS as[i]) hwl.1 hwl.2 (by show (0 : Nat) < 2 ^ 63; omega)) ?_
    rw [hnx]
    simp (disch := first | (simp only [ne_eq, reduceCtorEq, not_false_eq_true, implies_true, List.getElem?_cons_zero, List.getElem?_cons_succ]; done) | omega) only [WS, St.guard, St.put, evalO, reduceCtorEq, reduceIte, Nat.reduceAdd, Nat.reduceEqDiff, vBin_add_i64]
    exact clear_fre (by simp only [clear_nil, List.foldl_cons, List.foldl_nil, Option.some.injEq, List.map_cons, List.map_nil, List.getD_cons_zero, List.getD_cons_succ, List.set_cons_zero, List.set_cons_succ, Option.map_some, Option.bind_some, ne_eq, reduceCtorEq, not_false_eq_true, implies_true, beq_self_eq_true, BEq.rfl, if_true, if_false, Bool.false_eq_true, not_true_eq_false, Option.some.injEq, reduceIte, Bool.not_true, Bool.not_false, beq_true, beq_false, Bool.true_and, Bool.and_true, Bool.false_and, Bool.and_false, true_and, List.getElem?_cons_zero, List.getElem?_cons_succ, List.length_cons, List.length_nil, Nat.reduceAdd] <;> rfl) (by rfl) (by simp only [f_law06_DiskSure_H0, List.all_cons, List.all_nil, noRef_v, noRef_dead, noRef_own, noRef_ptr, noRef_nil, Bool.and_true, Bool.true_and, Bool.and_self, List.contains_cons, List.contains_nil, Bool.or_false, Nat.reduceBEq, Bool.not_false, na, nb, nc]) (by rfl)
  simp (disch := first | (simp only [ne_eq, reduceCtorEq, not_false_eq_true, implies_true, List.getElem?_cons_zero, List.getElem?_cons_succ]; done) | omega) only [f_law06_DiskSure_L0, f_law06_DiskSure_H0, WS, St.guard, St.put, evalO, reduceCtorEq, reduceIte, Nat.reduceAdd, Nat.reduceEqDiff, (va _).lenSlice, goInt, decide_false]
  have hwl := wrN_len (D := newD 24) (B := as.map fullS) (i := as.length) (by rw [fb]; simp [newD]; omega) rfl (by omega)
  have ssy := sure_sync w1
  rw [fb] at ssy
  refine WP_of (lDSync L dat3 hwl.1 hwl.2 (by simp [wrN, newD]) (by show (0 : Nat) < 2 ^ 63; omega) (by omega)) ?_
  rw [ssy]
  simp (disch := first | (simp only [ne_eq, reduceCtorEq, not_false_eq_true, implies_true, List.getElem?_cons_zero, List.getElem?_cons_succ]; done) | omega) only [WS, St.guard, St.put, evalO, reduceCtorEq, reduceIte, Nat.reduceAdd, Nat.reduceEqDiff]
  have hD2b : (D2 as).b.length = 24 := lastA_len w1
  refine WC_count (fun i => ⟨f_law06_DiskSure_H1 a b c (.ptr (.l 3) 5 0) (.v (.int .i64 (i : Nat))), ⟨[], dL 24 (wrN (bs.map fullS) (D2 as) i) [none, none, none]⟩⟩) bs.length ?_ (fun i hi => ?_) ?_
  · have : wrN (bs.map fullS) (D2 as) 0 = D2 as := by unfold wrN; simp
    rw [this]
    exact clear_fre (by simp only [clear_nil, List.foldl_cons, List.foldl_nil, Option.some.injEq, List.map_cons, List.map_nil, List.getD_cons_zero, List.getD_cons_succ, List.set_cons_zero, List.set_cons_succ, Option.map_some, Option.bind_some, ne_eq, reduceCtorEq, not_false_eq_true, implies_true, beq_self_eq_true, BEq.rfl, if_true, if_false, Bool.false_eq_true, not_true_eq_false, Option.some.injEq, reduceIte, Bool.not_true, Bool.not_false, beq_true, beq_false, Bool.true_and, Bool.and_true, Bool.false_and, Bool.and_false, true_and, List.getElem?_cons_zero, List.getElem?_cons_succ, List.length_cons, List.length_nil, Nat.reduceAdd] <;> rfl) (by rfl) (by simp only [f_law06_DiskSure_H1, List.all_cons, List.all_nil, noRef_v, noRef_dead, noRef_own, noRef_ptr, noRef_nil, Bool.and_true, Bool.true_and, Bool.and_self, List.contains_cons, List.contains_nil, Bool.or_false, Nat.reduceBEq, Bool.not_false, na, nb, nc]) (by rfl)
  · have hlt : (i : Int) < (bs.length : Int) := by omega
    have hai : bs[i]? = some bs[i] := List.getElem?_eq_getElem hi
    have ix : ∀ h, prim h (.indexAddr 1) [b, .v (.int .i64 (i : Int))] = some (elemPtr b 1 i, h) := fun h => (vb h).index hi
    have ld : ∀ h, prim h (.load 1 false) [elemPtr b 1 i] = some (.v (u8 bs[i]), h) := fun h => (vb h).load1 (by rw [List.getElem?_map, hai]; rfl)
    have hB : (bs.map fullS).length ≤ (D2 as).b.length := by rw [fb2, hD2b]; omega
    have hll : (D2 as).l.length = (D2 as).b.length := by rw [hD2b]; simp [D2]
    have hwl := wrN_len (D := D2 as) hB hll (i := i) (by omega)
    rw [hD2b] at hwl
    have hnx := wrN_next (D := D2 as) hB hll rfl rfl (i := i) (by omega)
    rw [List.getElem_map] at hnx
    simp (disch := first | (simp only [ne_eq, reduceCtorEq, not_false_eq_true, implies_true, List.getElem?_cons_zero, List.getElem?_cons_succ]; done) | omega) only [f_law06_DiskSure_L1, f_law06_DiskSure_H1, WS, St.guard, St.put, evalO, reduceCtorEq, reduceIte, Nat.reduceAdd, Nat.reduceEqDiff, (vb _).lenSlice, goInt, hlt, decide_true, ix, ld]
    refine (WP_r (r := .agg ((fullS bs[i]).1.map byteAV)) (by exact full_spec L) (by simp [AV.lf, bytes_lfs]) (by exact dL_good dat3)).2 ?_
    simp (disch := first | (simp only [ne_eq, reduceCtorEq, not_false_eq_true, implies_true, List.getElem?_cons_zero, List.getElem?_cons_succ]; done) | omega) only [WS, St.guard, St.put, evalO, reduceCtorEq, reduceIte, Nat.reduceAdd, Nat.reduceEqDiff]
    refine WP_of (lDWrite L dat3 (at' := (i : Int)) (s := fullS bs[i]) hwl.1 hwl.2 (by show (0 : Nat) < 2 ^ 63; omega)) ?_
    rw [hnx]
    simp (disch := first | (simp only [ne_eq, reduceCtorEq, not_false_eq_true, implies_true, List.getElem?_cons_zero, List.getElem?_cons_succ]; done) | omega) only [WS, St.guard, St.put, evalO, reduceCtorEq, reduceIte, Nat.reduceAdd, Nat.reduceEqDiff, vBin_add_i64]
    exact clear_fre (by simp only [clear_nil, List.foldl_cons, List.foldl_nil, Option.some.injEq, List.map_cons, List.map_nil, List.getD_cons_zero, List.getD_cons_succ, List.set_cons_zero, List.set_cons_succ, Option.map_some, Option.bind_some, ne_eq, reduceCtorEq, not_false_eq_true, implies_true, beq_self_eq_true, BEq.rfl, if_true, if_false, Bool.false_eq_true, not_true_eq_false, Option.some.injEq, reduceIte, Bool.not_true, Bool.not_false, beq_true, beq_false, Bool.true_and, Bool.and_true, Bool.false_and, Bool.and_false, true_and, List.getElem?_cons_zero, List.getElem?_cons_succ, List.length_cons, List.length_nil, Nat.reduceAdd] <;> rfl) (by rfl) (by simp only [f_law06_DiskSure_H1, List.all_cons, List.all_nil, noRef_v, noRef_dead, noRef_own, noRef_ptr, noRef_nil, Bool.and_true, Bool.true_and, Bool.and_self, List.contains_cons, List.contains_nil, Bool.or_false, Nat.reduceBEq, Bool.not_false, na, nb, nc]) (by rfl)
  simp (disch := first | (simp only [ne_eq, reduceCtorEq, not_false_eq_true, implies_true, List.getElem?_cons_zero, List.getElem?_cons_succ]; done) | omega) only [f_law06_DiskSure_L1, f_law06_DiskSure_H1, WS, St.guard, St.put, evalO, reduceCtorEq, reduceIte, Nat.reduceAdd, Nat.reduceEqDiff, (vb _).lenSlice, goInt, decide_false]
  have ssl := sure_last (as := as) w2
  rw [fb2] at ssl
  rw [ssl]
  refine WP_of (lDCrash L dat3 vc (by simp [D3, lastA_len w1]; omega) (by simp [D3]; omega) (lastA_len w1) (by omega)) ?_
  rw [sure_crash w1 w2]
  simp (disch := first | (simp only [ne_eq, reduceCtorEq, not_false_eq_true, implies_true, List.getElem?_cons_zero, List.getElem?_cons_succ]; done) | omega) only [WS, St.guard, St.put, evalO, reduceCtorEq, reduceIte, Nat.reduceAdd, Nat.reduceEqDiff]
  have hZl := lastZ_len (ks := ks) w1 w2
  refine WP_of (lDStart L dat3 hZl (by simp) hZl (by omega)) ?_
  rw [sure_start hZl]
  simp (disch := first | (simp only [ne_eq, reduceCtorEq, not_false_eq_true, implies_true, List.getElem?_cons_zero, List.getElem?_cons_succ]; done) | omega) only [WS, St.guard, St.put, evalO, reduceCtorEq, reduceIte, Nat.reduceAdd, Nat.reduceEqDiff]
  generalize hZ : lastZ as bs ks = Z at *
  have lz := fun i (hi : i < 24) => lastZ_at (i := i) (ks := ks) w1 w2 hi
  have la := fun i (hi : i < 24) => lastA_at (i := i) w1 hi
  rw [hZ] at lz
  generalize hD5 : (⟨Z, Z, List.replicate 24 false, false, 0⟩ : DskD) = D5
  have hDb : D5.b.length = 24 := by rw [← hD5]; exact hZl
  have dz : ∀ (s t : Sec), Dat [secB s, secB t, none] := fun s t => by
    intro B hB b e; subst e
    simp only [List.mem_cons, List.mem_nil_iff, or_false, secB, Option.some.injEq, reduceCtorEq] at hB
    rcases hB with rfl | rfl <;> rfl
  have dz1 : ∀ (s : Sec), Dat [secB s, none, none] := fun s => by
    intro B hB b e; subst e
    simp only [List.mem_cons, List.mem_nil_iff, or_false, secB, Option.some.injEq, reduceCtorEq] at hB
    subst hB; rfl
  have al4 : prim ⟨[], dL 24 D5 [none, none, none]⟩ (.alloc 4 zeros64 []) [] = some (.ptr (.l 4) 64 0, ⟨[], dL 24 D5 [secB zsec, none, none]⟩) := alloc_zeros rfl
  have al5 : ∀ s, prim ⟨[], dL 24 D5 [secB s, none, none]⟩ (.alloc 5 zeros64 []) [] = some (.ptr (.l 5) 64 0, ⟨[], dL 24 D5 [secB s, secB zsec, none]⟩) := fun s => alloc_zeros rfl
  have al6 : ∀ s t, prim ⟨[], dL 24 D5 [secB s, secB t, none]⟩ (.alloc 6 zeros64 []) [] = some (.ptr (.l 6) 64 0, ⟨[], dL 24 D5 [secB s, secB t, secB zsec]⟩) := fun s t => alloc_zeros rfl
  have st4 : ∀ (s t u : Sec), prim ⟨[], dL 24 D5 [secB s, secB t, none]⟩ (.store 64 false) [.ptr (.l 4) 64 0, .agg (u.1.map byteAV)] = some (.v undef, ⟨[], dL 24 D5 [secB u, secB t, none]⟩) := fun s t u =>
    store_all (L := dL 24 D5 [secB s, secB t, none]) (j := 4) (cells := s.1.map byteAV) (o := false) (v := false) rfl (by simpa using s.2) (by simpa using u.2) bytes_lfs
  have st5 : ∀ (s t u : Sec), prim ⟨[], dL 24 D5 [secB s, secB t, none]⟩ (.store 64 false) [.ptr (.l 5) 64 0, .agg (u.1.map byteAV)] = some (.v undef, ⟨[], dL 24 D5 [secB s, secB u, none]⟩) := fun s t u =>
    store_all (L := dL 24 D5 [secB s, secB t, none]) (j := 5) (cells := t.1.map byteAV) (o := false) (v := false) rfl (by simpa using t.2) (by simpa using u.2) bytes_lfs
  have st6 : ∀ (s t r u : Sec), prim ⟨[], dL 24 D5 [secB s, secB t, secB r]⟩ (.store 64 false) [.ptr (.l 6) 64 0, .agg (u.1.map byteAV)] = some (.v undef, ⟨[], dL 24 D5 [secB s, secB t, secB u]⟩) := fun s t r u =>
    store_all (L := dL 24 D5 [secB s, secB t, secB r]) (j := 6) (cells := r.1.map byteAV) (o := false) (v := false) rfl (by simpa using r.2) (by simpa using u.2) bytes_lfs
  have ld4 : ∀ (s t : Sec), prim ⟨[], dL 24 D5 [secB s, secB t, none]⟩ (.load 64 true) [.ptr (.l 4) 64 0] = some (.agg (s.1.map byteAV), ⟨[], dL 24 D5 [secB s, secB t, none]⟩) := fun s t => load_sec (o := false) (v := false) rfl s.2
  refine WC_count (fun i => ⟨f_law06_DiskSure_H3 a b c (.ptr (.l 3) 5 0) (.v (.int .i64 (i : Nat))), ⟨[], dL 24 D5 [none, none, none]⟩⟩) 20 ?_ (fun i hi => ?_) ?_
  · exact clear_fre (by simp only [clear_nil, List.foldl_cons, List.foldl_nil, Option.some.injEq, List.map_cons, List.map_nil, List.getD_cons_zero, List.getD_cons_succ, List.set_cons_zero, List.set_cons_succ, Option.map_some, Option.bind_some, ne_eq, reduceCtorEq, not_false_eq_true, implies_true, beq_self_eq_true, BEq.rfl, if_true, if_false, Bool.false_eq_true, not_true_eq_false, Option.some.injEq, reduceIte, Bool.not_true, Bool.not_false, beq_true, beq_false, Bool.true_and, Bool.and_true, Bool.false_and, Bool.and_false, true_and, List.getElem?_cons_zero, List.getElem?_cons_succ, List.length_cons, List.length_nil, Nat.reduceAdd] <;> rfl) (by rfl) (by simp only [f_law06_DiskSure_H3, List.all_cons, List.all_nil, noRef_v, noRef_dead, noRef_own, noRef_ptr, noRef_nil, Bool.and_true, Bool.true_and, Bool.and_self, List.contains_cons, List.contains_nil, Bool.or_false, Nat.reduceBEq, Bool.not_false, na, nb, nc]) (by rfl)
  · have hlt : (i : Int) < 20 := by omega
    have hm0 : mayE D5 (i : Int) = 0 := mayE_on (by rw [← hD5]) (by omega)
    have hrd : readV D5 (i : Int) = Z.getD i zsec := by unfold readV secAt; rw [if_pos hm0, Int.toNat_natCast, ← hD5]
    have lzi := lz i (by omega)
    have lai := la i (by omega)
    simp (disch := first | (simp only [ne_eq, reduceCtorEq, not_false_eq_true, implies_true, List.getElem?_cons_zero, List.getElem?_cons_succ]; done) | omega) only [f_law06_DiskSure_L3, f_law06_DiskSure_H3, WS, St.guard, St.put, evalO, reduceCtorEq, reduceIte, Nat.reduceAdd, Nat.reduceEqDiff, hlt, decide_true, al4, al5, (va _).lenSlice, goInt]
    by_cases p1 : i < as.length
    case' pos =>
      have p1' : (i : Int) < (as.length : Int) := by omega
      have hai : as[i]? = some as[i] := List.getElem?_eq_getElem p1
      have ix : ∀ h, prim h (.indexAddr 1) [a, .v (.int .i64 (i : Int))] = some (elemPtr a 1 i, h) := fun h => (va h).index p1
      have ld : ∀ h, prim h (.load 1 false) [elemPtr a 1 i] = some (.v (u8 as[i]), h) := fun h => (va h).load1 (by rw [List.getElem?_map, hai]; rfl)
      simp (disch := first | (simp only [ne_eq, reduceCtorEq, not_false_eq_true, implies_true, List.getElem?_cons_zero, List.getElem?_cons_succ]; done) | omega) only [WS, St.guard, St.put, evalO, reduceCtorEq, reduceIte, Nat.reduceAdd, Nat.reduceEqDiff, p1', decide_true, ix, ld]
      refine (WP_r (r := .agg ((fullS as[i]).1.map byteAV)) (by exact full_spec L) (by simp [AV.lf, bytes_lfs]) (by exact dL_good (dz _ _))).2 ?_
      rw [dif_pos p1] at lai
      obtain ⟨S, hS⟩ : ∃ S, S = fullS as[i] := ⟨_, rfl⟩
      rw [← hS] at lai ⊢
      simp (disch := first | (simp only [ne_eq, reduceCtorEq, not_false_eq_true, implies_true, List.getElem?_cons_zero, List.getElem?_cons_succ]; done) | omega) only [WS, St.guard, St.put, evalO, reduceCtorEq, reduceIte, Nat.reduceAdd, Nat.reduceEqDiff, st4, ld4, st5, (vb _).lenSlice, goInt]
    case' neg =>
      have p1' : ¬ (i : Int) < (as.length : Int) := by omega
      rw [dif_neg p1] at lai
      obtain ⟨S, hS⟩ : ∃ S, S = zsec := ⟨_, rfl⟩
      have lai : (lastA as).getD i zsec = S := by rw [lai, hS]
      simp (disch := first | (simp only [ne_eq, reduceCtorEq, not_false_eq_true, implies_true, List.getElem?_cons_zero, List.getElem?_cons_succ]; done) | omega) only [WS, St.guard, St.put, evalO, reduceCtorEq, reduceIte, Nat.reduceAdd, Nat.reduceEqDiff, p1', decide_false]
      rw [← hS]
      simp (disch := first | (simp only [ne_eq, reduceCtorEq, not_false_eq_true, implies_true, List.getElem?_cons_zero, List.getElem?_cons_succ]; done) | omega) only [WS, St.guard, St.put, evalO, reduceCtorEq, reduceIte, Nat.reduceAdd, Nat.reduceEqDiff, ld4, st5, (vb _).lenSlice, goInt]
    all_goals
      rw [lai] at lzi
      by_cases p2 : i < bs.length
      case' neg =>
        have p2' : ¬ (i : Int) < (bs.length : Int) := by omega
        rw [dif_neg p2] at lzi
        simp (disch := first | (simp only [ne_eq, reduceCtorEq, not_false_eq_true, implies_true, List.getElem?_cons_zero, List.getElem?_cons_succ]; done) | omega) only [WS, St.guard, St.put, evalO, reduceCtorEq, reduceIte, Nat.reduceAdd, Nat.reduceEqDiff, p2', decide_false]
        obtain ⟨kk, hkk⟩ : ∃ kk : Nat, kk = 0 := ⟨_, rfl⟩
        obtain ⟨T, hT⟩ : ∃ T, T = S := ⟨_, rfl⟩
        have hx : ∀ j, j < 64 → (Z.getD i zsec).1.getD j 0 = if j < kk then T.1.getD j 0 else S.1.getD j 0 := fun j hj => by
          rw [lzi, hkk]; rfl
        rw [show AV.v (Value.int .i64 0) = AV.v (Value.int .i64 ((kk : Nat) : Int)) from by rw [hkk]; rfl]
        rw [show dL 24 D5 [secB S, secB S, none] = dL 24 D5 [secB S, secB T, none] from by rw [hT]]
      case' pos =>
        have p2' : (i : Int) < (bs.length : Int) := by omega
        have hbi : bs[i]? = some bs[i] := List.getElem?_eq_getElem p2
        have ix : ∀ h, prim h (.indexAddr 1) [b, .v (.int .i64 (i : Int))] = some (elemPtr b 1 i, h) := fun h => (vb h).index p2
        have ld : ∀ h, prim h (.load 1 false) [elemPtr b 1 i] = some (.v (u8 bs[i]), h) := fun h => (vb h).load1 (by rw [List.getElem?_map, hbi]; rfl)
        simp (disch := first | (simp only [ne_eq, reduceCtorEq, not_false_eq_true, implies_true, List.getElem?_cons_zero, List.getElem?_cons_succ]; done) | omega) only [WS, St.guard, St.put, evalO, reduceCtorEq, reduceIte, Nat.reduceAdd, Nat.reduceEqDiff, p2', decide_true, ix, ld]
        refine (WP_r (r := .agg ((fullS bs[i]).1.map byteAV)) (by exact full_spec L) (by simp [AV.lf, bytes_lfs]) (by exact dL_good (dz _ _))).2 ?_
        rw [dif_pos p2] at lzi
        obtain ⟨T, hT⟩ : ∃ T, T = fullS bs[i] := ⟨_, rfl⟩
        rw [← hT] at lzi ⊢
        simp (disch := first | (simp only [ne_eq, reduceCtorEq, not_false_eq_true, implies_true, List.getElem?_cons_zero, List.getElem?_cons_succ]; done) | omega) only [WS, St.guard, St.put, evalO, reduceCtorEq, reduceIte, Nat.reduceAdd, Nat.reduceEqDiff, st5, (vc _).lenSlice, goInt]
        by_cases p3 : ks.length = 0
        case' pos =>
          have p3' : ¬ ((ks.length : Int) > 0) := by omega
          simp (disch := first | (simp only [ne_eq, reduceCtorEq, not_false_eq_true, implies_true, List.getElem?_cons_zero, List.getElem?_cons_succ]; done) | omega) only [WS, St.guard, St.put, evalO, reduceCtorEq, reduceIte, Nat.reduceAdd, Nat.reduceEqDiff, p3', decide_false]
          obtain ⟨kk, hkk⟩ : ∃ kk : Nat, kk = 0 := ⟨_, rfl⟩
          have hx : ∀ j, j < 64 → (Z.getD i zsec).1.getD j 0 = if j < kk then T.1.getD j 0 else S.1.getD j 0 := fun j hj => by
            rw [lzi, mix_get hj, hkk]
            unfold keepAt
            rw [if_pos p3]; rfl
          rw [show AV.v (Value.int .i64 0) = AV.v (Value.int .i64 ((kk : Nat) : Int)) from by rw [hkk]; rfl]
        case' neg =>
          have p3' : (ks.length : Int) > 0 := by omega
          have hm : i % ks.length < ks.length := Nat.mod_lt _ (by omega)
          have hg : ks[i % ks.length]? = some ks[i % ks.length] := List.getElem?_eq_getElem hm
          have ix : ∀ h, prim h (.indexAddr 1) [c, .v (.int .i64 ((i % ks.length : Nat) : Int))] = some (elemPtr c 1 (i % ks.length), h) := fun h => (vc h).index hm
          have ld : ∀ h, prim h (.load 1 false) [elemPtr c 1 (i % ks.length)] = some (.v (.int .i64 ks[i % ks.length]), h) := fun h => (vc h).load1 (by rw [List.getElem?_map, hg]; rfl)
          simp (disch := first | (simp only [ne_eq, reduceCtorEq, not_false_eq_true, implies_true, List.getElem?_cons_zero, List.getElem?_cons_succ]; done) | omega) only [WS, St.guard, St.put, evalO, reduceCtorEq, reduceIte, Nat.reduceAdd, Nat.reduceEqDiff, p3', decide_true, (vc _).lenSlice, goInt]
          rw [vRem_nat (by omega) (by omega)]
          simp (disch := first | (simp only [ne_eq, reduceCtorEq, not_false_eq_true, implies_true, List.getElem?_cons_zero, List.getElem?_cons_succ]; done) | omega) only [WS, St.guard, St.put, evalO, reduceCtorEq, reduceIte, Nat.reduceAdd, Nat.reduceEqDiff, ix, ld, maxs, mins, min64]
          obtain ⟨kk, hkk⟩ : ∃ kk : Nat, kk = clampN ks[i % ks.length] := ⟨_, rfl⟩
          have hx : ∀ j, j < 64 → (Z.getD i zsec).1.getD j 0 = if j < kk then T.1.getD j 0 else S.1.getD j 0 := fun j hj => by
            rw [lzi, mix_get hj, hkk]
            unfold keepAt
            rw [if_neg p3, List.getD_eq_getElem?_getD, hg]; rfl
          rw [← hkk]
    all_goals
      refine WP_of (lDRead L (dz S T) (at' := (i : Int)) hDb) ?_
      rw [hrd, hm0]
      generalize Z.getD i zsec = R at *
      simp (disch := first | (simp only [ne_eq, reduceCtorEq, not_false_eq_true, implies_true, List.getElem?_cons_zero, List.getElem?_cons_succ]; done) | omega) only [WS, St.guard, St.put, evalO, reduceCtorEq, reduceIte, Nat.reduceAdd, Nat.reduceEqDiff, al6, st6]
      have lj4 : ∀ j, j < 64 → prim ⟨[], dL 24 D5 [secB S, secB T, secB R]⟩ (.load 1 false) [.ptr (.l 4) 64 j] = some (.v (u8 (S.1.getD j 0)), ⟨[], dL 24 D5 [secB S, secB T, secB R]⟩) := fun j hj => sec_byte (o := false) (v := false) rfl hj
      have lj5 : ∀ j, j < 64 → prim ⟨[], dL 24 D5 [secB S, secB T, secB R]⟩ (.load 1 false) [.ptr (.l 5) 64 j] = some (.v (u8 (T.1.getD j 0)), ⟨[], dL 24 D5 [secB S, secB T, secB R]⟩) := fun j hj => sec_byte (o := false) (v := false) rfl hj
      have lj6 : ∀ j, j < 64 → prim ⟨[], dL 24 D5 [secB S, secB T, secB R]⟩ (.load 1 false) [.ptr (.l 6) 64 j] = some (.v (u8 (R.1.getD j 0)), ⟨[], dL 24 D5 [secB S, secB T, secB R]⟩) := fun j hj => sec_byte (o := false) (v := false) rfl hj
      refine WC_count (fun j => ⟨f_law06_DiskSure_H2 a b c (.ptr (.l 3) 5 0) (.v (.int .i64 (i : Nat))) (.ptr (.l 4) 64 0) (.ptr (.l 5) 64 0) (.v (.int .i64 (kk : Nat))) (.ptr (.l 6) 64 0) (.v (.int .i64 0)) (.v (.int .i64 (j : Nat))), ⟨[], dL 24 D5 [secB S, secB T, secB R]⟩⟩) 64 ?_ (fun j hj => ?_) ?_
      · exact clear_fre (by simp only [clear_nil, List.foldl_cons, List.foldl_nil, Option.some.injEq, List.map_cons, List.map_nil, List.getD_cons_zero, List.getD_cons_succ, List.set_cons_zero, List.set_cons_succ, Option.map_some, Option.bind_some, ne_eq, reduceCtorEq, not_false_eq_true, implies_true, beq_self_eq_true, BEq.rfl, if_true, if_false, Bool.false_eq_true, not_true_eq_false, Option.some.injEq, reduceIte, Bool.not_true, Bool.not_false, beq_true, beq_false, Bool.true_and, Bool.and_true, Bool.false_and, Bool.and_false, true_and, List.getElem?_cons_zero, List.getElem?_cons_succ, List.length_cons, List.length_nil, Nat.reduceAdd] <;> rfl) (by rfl) (by simp only [f_law06_DiskSure_H2, List.all_cons, List.all_nil, noRef_v, noRef_dead, noRef_own, noRef_ptr, noRef_nil, Bool.and_true, Bool.true_and, Bool.and_self, List.contains_cons, List.contains_nil, Bool.or_false, Nat.reduceBEq, Bool.not_false, na, nb, nc]) (by rfl)
      · have hj' : (j : Int) < 64 := by omega
        have hxj := hx j hj
        by_cases hk : j < kk
        · have hk' : (j : Int) < (kk : Int) := by omega
          rw [if_pos hk] at hxj
          simp (disch := first | (simp only [ne_eq, reduceCtorEq, not_false_eq_true, implies_true, List.getElem?_cons_zero, List.getElem?_cons_succ]; done) | omega) only [f_law06_DiskSure_L2, f_law06_DiskSure_H2, WS, St.guard, St.put, evalO, reduceCtorEq, reduceIte, Nat.reduceAdd, Nat.reduceEqDiff, hj', decide_true, indexArr_at hj, lj4 j hj, lj5 j hj, lj6 j hj, hk', Int.reduceBNe, hxj, neq_same, vBin_add_i64]
          exact clear_fre (by simp only [clear_nil, List.foldl_cons, List.foldl_nil, Option.some.injEq, List.map_cons, List.map_nil, List.getD_cons_zero, List.getD_cons_succ, List.set_cons_zero, List.set_cons_succ, Option.map_some, Option.bind_some, ne_eq, reduceCtorEq, not_false_eq_true, implies_true, beq_self_eq_true, BEq.rfl, if_true, if_false, Bool.false_eq_true, not_true_eq_false, Option.some.injEq, reduceIte, Bool.not_true, Bool.not_false, beq_true, beq_false, Bool.true_and, Bool.and_true, Bool.false_and, Bool.and_false, true_and, List.getElem?_cons_zero, List.getElem?_cons_succ, List.length_cons, List.length_nil, Nat.reduceAdd] <;> rfl) (by rfl) (by simp only [f_law06_DiskSure_H2, List.all_cons, List.all_nil, noRef_v, noRef_dead, noRef_own, noRef_ptr, noRef_nil, Bool.and_true, Bool.true_and, Bool.and_self, List.contains_cons, List.contains_nil, Bool.or_false, Nat.reduceBEq, Bool.not_false, na, nb, nc]) (by rfl)
        · have hk' : ¬ (j : Int) < (kk : Int) := by omega
          rw [if_neg hk] at hxj
          simp (disch := first | (simp only [ne_eq, reduceCtorEq, not_false_eq_true, implies_true, List.getElem?_cons_zero, List.getElem?_cons_succ]; done) | omega) only [f_law06_DiskSure_L2, f_law06_DiskSure_H2, WS, St.guard, St.put, evalO, reduceCtorEq, reduceIte, Nat.reduceAdd, Nat.reduceEqDiff, hj', decide_true, indexArr_at hj, lj4 j hj, lj5 j hj, lj6 j hj, hk', decide_false, Int.reduceBNe, hxj, neq_same, vBin_add_i64]
          exact clear_fre (by simp only [clear_nil, List.foldl_cons, List.foldl_nil, Option.some.injEq, List.map_cons, List.map_nil, List.getD_cons_zero, List.getD_cons_succ, List.set_cons_zero, List.set_cons_succ, Option.map_some, Option.bind_some, ne_eq, reduceCtorEq, not_false_eq_true, implies_true, beq_self_eq_true, BEq.rfl, if_true, if_false, Bool.false_eq_true, not_true_eq_false, Option.some.injEq, reduceIte, Bool.not_true, Bool.not_false, beq_true, beq_false, Bool.true_and, Bool.and_true, Bool.false_and, Bool.and_false, true_and, List.getElem?_cons_zero, List.getElem?_cons_succ, List.length_cons, List.length_nil, Nat.reduceAdd] <;> rfl) (by rfl) (by simp only [f_law06_DiskSure_H2, List.all_cons, List.all_nil, noRef_v, noRef_dead, noRef_own, noRef_ptr, noRef_nil, Bool.and_true, Bool.true_and, Bool.and_self, List.contains_cons, List.contains_nil, Bool.or_false, Nat.reduceBEq, Bool.not_false, na, nb, nc]) (by rfl)
      · simp (disch := first | (simp only [ne_eq, reduceCtorEq, not_false_eq_true, implies_true, List.getElem?_cons_zero, List.getElem?_cons_succ]; done) | omega) only [f_law06_DiskSure_L2, f_law06_DiskSure_H2, WS, St.guard, St.put, evalO, reduceCtorEq, reduceIte, Nat.reduceAdd, Nat.reduceEqDiff, Int.cast_ofNat_Int, Int.lt_irrefl, decide_false, vBin_add_i64]
        exact clear_fre (by simp only [clear_nil, List.foldl_cons, List.foldl_nil, Option.some.injEq, List.map_cons, List.map_nil, List.getD_cons_zero, List.getD_cons_succ, List.set_cons_zero, List.set_cons_succ, Option.map_some, Option.bind_some, ne_eq, reduceCtorEq, not_false_eq_true, implies_true, beq_self_eq_true, BEq.rfl, if_true, if_false, Bool.false_eq_true, not_true_eq_false, Option.some.injEq, reduceIte, Bool.not_true, Bool.not_false, beq_true, beq_false, Bool.true_and, Bool.and_true, Bool.false_and, Bool.and_false, true_and, List.getElem?_cons_zero, List.getElem?_cons_succ, List.length_cons, List.length_nil, Nat.reduceAdd] <;> rfl) (by rfl) (by simp only [f_law06_DiskSure_H3, List.all_cons, List.all_nil, noRef_v, noRef_dead, noRef_own, noRef_ptr, noRef_nil, Bool.and_true, Bool.true_and, Bool.and_self, List.contains_cons, List.contains_nil, Bool.or_false, Nat.reduceBEq, Bool.not_false, na, nb, nc]) (by rfl)
  · simp (disch := first | (simp only [ne_eq, reduceCtorEq, not_false_eq_true, implies_true, List.getElem?_cons_zero, List.getElem?_cons_succ]; done) | omega) only [f_law06_DiskSure_L3, f_law06_DiskSure_H3, WS, St.guard, St.put, evalO, reduceCtorEq, reduceIte, Nat.reduceAdd, Nat.reduceEqDiff, Int.cast_ofNat_Int, Int.lt_irrefl, decide_false, fin_tmp, leave_v]
    simp
end Go.AM
