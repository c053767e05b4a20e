import Derived.Test.YtdcnjckkcfoppaaJourG
import Derived.Test.YtdcnjckkcfoppaaLawJourD
import Derived.Test.YtdcnjckkcfoppaaLawJourC
set_option linter.unusedVariables false
set_option linter.unusedSimpArgs false
namespace Go.AM
variable {prog : String → Option IFn}
variable {D E : DskD} {J K : JD} {X Y : List (Option Blk)}
structure Law8K (prog : String → Option IFn) : Prop extends Law8 prog, RowLib prog where
  jput : prog "haberdash/haberdashlaw08.put" = some f_law08_put
def rvA (i : Nat) (l : List Txt) : AV := if i = 0 then rowV (.l 6) l else .own (.l 6) l.length 0 l.length 1 none
def rvB (i : Nat) (l : List Txt) : Option Blk := if i = 0 then rowBk l else recB l
theorem rvB_db {i : Nat} {l : List Txt} : DB (rvB i l) := by
  unfold rvB; split
  · exact DB.r
  · exact fun b hb => by cases hb; rfl
theorem rvA_nr {i : Nat} {l : List Txt} {ks : List Nat} (h6 : 6 ∉ ks) : noRef ks (rvA i l) = true := by
  unfold rvA rowV
  split
  · split
    · rfl
    · rw [noRef_own]; simpa using h6
  · rw [noRef_own]; simpa using h6
theorem recL_view {k : Nat} {l : List Txt} {L : List (Option Blk)} (hq : L[k]? = some (recB l)) : View ⟨[], L⟩ (.own (.l k) l.length 0 l.length 1 none) 1 l.length (recE.row l) := by
  refine ⟨rfl, ?_, by rw [rec_len, Nat.mul_one], rfl, trivial, by omega⟩
  simp only [Hp.sees, Hp.get, hq, recB, Option.join_some, dBlk_cells, rec_len, if_true, List.drop_zero, Nat.mul_one]
  rw [List.take_of_length_le (by rw [rec_len]; omega)]
theorem rvA_view {i : Nat} {l : List Txt} {L : List (Option Blk)} (h : L[6]? = some (rvB i l)) : View ⟨[], L⟩ (rvA i l) 1 l.length (recE.row l) := by
  have hv : L[6]? = some (recB l) → View ⟨[], L⟩ (.own (.l 6) l.length 0 l.length 1 none) 1 l.length (recE.row l) := fun hq => by
    refine ⟨rfl, ?_, by rw [rec_len, Nat.mul_one], rfl, trivial, by omega⟩
    simp only [Hp.sees, Hp.get, hq, recB, Option.join_some, dBlk_cells, rec_len, if_true, List.drop_zero, Nat.mul_one]
    rw [List.take_of_length_le (by rw [rec_len]; omega)]
  unfold rvA rowV
  unfold rvB rowBk at h
  split
  · rename_i hi
    rw [if_pos hi] at h
    split
    · rename_i hl; subst hl
      exact view_nil (by omega)
    · rename_i hl
      rw [if_neg hl] at h
      exact hv h
  · rename_i hi
    rw [if_neg hi] at h
    exact hv h
def kL (D : DskD) (X : List (Option Blk)) : List (Option Blk) := dk 0 (some 90) false D X
theorem kD1 {f xs} {r : AV} {D' : DskD} (hr : r.lf = true) (hl : 4 + X.length > 3) (hX : goodL 0 4 X) (he : ∀ G', sP.Ok G'.length 90 → Ev prog (.call f (xs.map (AV.ren (up 0))) (dset G' sP D)) (.ret r (dset G' sP D'))) :
    Ev prog (.op (.call f []) xs ⟨[], kL D X⟩) (.val r ⟨[], kL D' X⟩) := by
  refine op_turn ⟨[], kL D' X⟩ ?_ hr rfl rfl (dk_good hX) (dk_good hX)
  have e := he (⟨[], kL D X⟩ : Hp).into (by rw [into_len]; exact dpos_ok (by simp [kL, dk]) le_some)
  rw [← into_lset, ← into_lset] at e
  exact e
def kB (q : Nat) (J : JD) : Option Blk := some (sBlk (jC .l 3 q J) false)
theorem kB_good {q k : Nat} {J : JD} {Bs} (hk : 3 < k) (hq : q < k) (h : goodL 0 (k + 1) Bs) : goodL 0 k (kB q J :: Bs) := ⟨sBlk_good (by rw [jC_labs]; simp [refLt]; omega), h⟩
def ksAt (ks rs : List Int) (m : Nat) (more : List Txt) (s : KS) : Nat → KS
  | 0 => s
  | i + 1 => ksNext (i + 1) (if i = 0 then ks else rs) m more (ksAt ks rs m more s i)
theorem ksAt_inv {ks rs : List Int} {m : Nat} {more : List Txt} {s : KS} (hm : m < 2 ^ 63) (hb : ∀ b ∈ more, b ≠ [] ∧ b.length ≤ 400000) (h : KInv 1 s) : ∀ i, i ≤ 100 → KInv (i + 1) (ksAt ks rs m more s i)
  | 0, _ => h
  | i + 1, hi => ksNext_inv (by omega) (by omega) (ksAt_inv hm hb h i (by omega)) hm hb
set_option maxRecDepth 10000 in
theorem kMove {env b6 J K} {r : List Txt} : mvSt [(9, 6)] ⟨env, ⟨[], kL D [recB J.recs, kB 4 J, b6, recB K.recs, kB 7 K, recB r, none]⟩⟩ = some ⟨env.map (AV.ren (mvLab [(9, 6)])), ⟨[], kL D [recB J.recs, kB 4 J, recB r, recB K.recs, kB 7 K, none, none]⟩⟩ := by
  unfold mvSt
  refine (if_pos (by rfl)).trans ?_
  rfl
set_option maxRecDepth 100000 in
set_option maxHeartbeats 4000000 in
theorem JournalKeeps_law (H : Law8K prog) (hp : prog "haberdash/haberdashlaw08.JournalKeeps" = some f_law08_JournalKeeps) {args} (h : IsAll [.slice (.slice (.int .u8)), .int .i64, .slice (.int .i64), .slice (.slice (.int .u8)), .int .i64, .slice (.int .i64)] args) :
    ∃ G2, Ev prog (.call "haberdash/haberdashlaw08.JournalKeeps" args []) (.ret (.v (.bool true)) G2) := by
  rcases args with _ | ⟨a0, _ | ⟨a1, _ | ⟨a2, _ | ⟨a3, _ | ⟨a4, _ | ⟨a5, _ | _⟩⟩⟩⟩⟩⟩ <;> try (simp [IsAll] at h; done)
  obtain ⟨⟨c0', h0, rfl⟩, ⟨c1', h1, rfl⟩, ⟨c2', h2, rfl⟩, ⟨c3', h3, rfl⟩, ⟨c4', h4, rfl⟩, ⟨c5', h5, rfl⟩, _⟩ := h
  obtain ⟨a, xs, rfl, va, hxm⟩ := is_bss h0
  obtain ⟨arm, rfl, harm⟩ := is_i64 h1
  obtain ⟨kp, ks, rfl, vk, hkm, hki⟩ := is_ints h2
  obtain ⟨b, ys, rfl, vb, hym⟩ := is_bss h3
  obtain ⟨agn, rfl, hagn⟩ := is_i64 h4
  obtain ⟨rs, ts, rfl, vr, hrm, hri⟩ := is_ints h5
  have HJ := H.toLaw8.toJourLib
  have HD := HJ.toDiskLib
  have hroom : room = 140737488355328 := rfl
  refine ⟨[], call_of_fin hp ?_⟩
  simp only [f_law08_JournalKeeps_B, enter, List.length_cons, List.length_nil, List.replicate, Nat.reduceAdd, Nat.reduceSub, List.cons_append, List.nil_append, Ty.arg, intAV]
  have lna : ∀ h, prim h .lenSlice [a] = some (.v (.int .i64 xs.length), h) := fun h => (va h).lenSlice
  have lnb : ∀ h, prim h .lenSlice [b] = some (.v (.int .i64 ys.length), h) := fun h => (vb h).lenSlice
  have lnk : ∀ h, prim h .lenSlice [kp] = some (.v (.int .i64 ks.length), h) := fun h => (vk h).lenSlice
  have lnr : ∀ h, prim h .lenSlice [rs] = some (.v (.int .i64 ts.length), h) := fun h => (vr h).lenSlice
  have D11 : Dat (List.replicate 11 none) := by intro B hB b e; rw [List.eq_of_mem_replicate hB] at e; cases e
  have gZ : Good ⟨[], List.replicate 11 none⟩ := goodX D11
  simp (disch := first | (simp only [DS, reduceCtorEq]; done) | omega) only [WS, St.guard, St.put, evalO, reduceCtorEq, reduceIte, Nat.reduceAdd, Nat.reduceEqDiff, lna]
  by_cases c1 : (xs.length : Int) > 12
  · simp (disch := first | (simp only [DS, reduceCtorEq]; done) | omega) only [WS, St.guard, St.put, evalO, reduceCtorEq, reduceIte, Nat.reduceAdd, Nat.reduceEqDiff, c1, decide_true]
    refine (WP_p (x := .bool true) (by exact awake8_spec H.toLaw8) (by exact gZ)).2 ?_
    simp (disch := first | (simp only [DS, reduceCtorEq]; done) | omega) only [WS, St.guard, St.put, evalO, reduceCtorEq, reduceIte, Nat.reduceAdd, Nat.reduceEqDiff, fin_tmp, leave_v]
    simp
  simp (disch := first | (simp only [DS, reduceCtorEq]; done) | omega) only [WS, St.guard, St.put, evalO, reduceCtorEq, reduceIte, Nat.reduceAdd, Nat.reduceEqDiff, c1, decide_false, lnb]
  by_cases c2 : (ys.length : Int) > 12
  · simp (disch := first | (simp only [DS, reduceCtorEq]; done) | omega) only [WS, St.guard, St.put, evalO, reduceCtorEq, reduceIte, Nat.reduceAdd, Nat.reduceEqDiff, c2, decide_true]
    refine (WP_p (x := .bool true) (by exact awake8_spec H.toLaw8) (by exact gZ)).2 ?_
    simp (disch := first | (simp only [DS, reduceCtorEq]; done) | omega) only [WS, St.guard, St.put, evalO, reduceCtorEq, reduceIte, Nat.reduceAdd, Nat.reduceEqDiff, fin_tmp, leave_v]
    simp
  simp (disch := first | (simp only [DS, reduceCtorEq]; done) | omega) only [WS, St.guard, St.put, evalO, reduceCtorEq, reduceIte, Nat.reduceAdd, Nat.reduceEqDiff, c2, decide_false, lnk]
  by_cases c3 : (ks.length : Int) > 40
  · simp (disch := first | (simp only [DS, reduceCtorEq]; done) | omega) only [WS, St.guard, St.put, evalO, reduceCtorEq, reduceIte, Nat.reduceAdd, Nat.reduceEqDiff, c3, decide_true]
    refine (WP_p (x := .bool true) (by exact awake8_spec H.toLaw8) (by exact gZ)).2 ?_
    simp (disch := first | (simp only [DS, reduceCtorEq]; done) | omega) only [WS, St.guard, St.put, evalO, reduceCtorEq, reduceIte, Nat.reduceAdd, Nat.reduceEqDiff, fin_tmp, leave_v]
    simp
  simp (disch := first | (simp only [DS, reduceCtorEq]; done) | omega) only [WS, St.guard, St.put, evalO, reduceCtorEq, reduceIte, Nat.reduceAdd, Nat.reduceEqDiff, c3, decide_false, lnr]
  by_cases c4 : (ts.length : Int) > 40
  · simp (disch := first | (simp only [DS, reduceCtorEq]; done) | omega) only [WS, St.guard, St.put, evalO, reduceCtorEq, reduceIte, Nat.reduceAdd, Nat.reduceEqDiff, c4, decide_true]
    refine (WP_p (x := .bool true) (by exact awake8_spec H.toLaw8) (by exact gZ)).2 ?_
    simp (disch := first | (simp only [DS, reduceCtorEq]; done) | omega) only [WS, St.guard, St.put, evalO, reduceCtorEq, reduceIte, Nat.reduceAdd, Nat.reduceEqDiff, fin_tmp, leave_v]
    simp
  simp (disch := first | (simp only [DS, reduceCtorEq]; done) | omega) only [WS, St.guard, St.put, evalO, reduceCtorEq, reduceIte, Nat.reduceAdd, Nat.reduceEqDiff, c4, decide_false]
  have z0 : Siz (newD 90) 90 := .new
  obtain ⟨J0, hJ0⟩ : ∃ J0, J0 = newJ 0 90 (epW 1) := ⟨_, rfl⟩
  have g1 : Good ⟨[], kL (newD 90) (List.replicate 7 none)⟩ := dk_good trivial
  have e1w : (.int .u32 1 : Value) = u32 (epW 1) := rfl
  refine WP_of (h' := ⟨[], kL (newD 90) (List.replicate 7 none)⟩) (by exact op_dsk (D := newD 90) (R := fun a => .tup [a, .v (.int .i64 0)]) (fun ρ a => rfl) (New_spec HD (N := 90) (by omega) (by omega)) (by decide) rfl rfl rfl rfl gZ) ?_
  rw [e1w]
  simp (disch := first | (simp only [DS, reduceCtorEq]; done) | omega) only [WS, St.guard, St.put, evalO, reduceCtorEq, reduceIte, Nat.reduceAdd, Nat.reduceEqDiff]
  refine WP_of (h' := ⟨[], kL (newD 90) [recB J0.recs, kB 4 J0, none, none, none, none, none]⟩) (by rw [hJ0]; exact mNew (P := sP) (N := 90) (D := newD 90) (frm := 0) (nn := 90) (i := 4) (j := 5) rfl (dpos_ok (by simp [kL, dk]) le_some) z0 (by omega) g1 (newE_ok rfl z0 (by omega) (by omega) (by omega) (by omega)) (by omega) rfl rfl HJ) ?_
  simp (disch := first | (simp only [DS, reduceCtorEq]; done) | omega) only [WS, St.guard, St.put, evalO, reduceCtorEq, reduceIte, Nat.reduceAdd, Nat.reduceEqDiff]
  have gg : ∀ {D : DskD} {J : JD} {X : List (Option Blk)}, goodL 0 6 X → Good ⟨[], kL D (recB J.recs :: kB 4 J :: X)⟩ := fun hX => dk_good ⟨dBlk_good, kB_good (by omega) (by omega) hX⟩
  have gl : ∀ {J : JD} {X : List (Option Blk)}, goodL 0 6 X → goodL 0 4 (recB J.recs :: kB 4 J :: X) := fun hX => ⟨dBlk_good, kB_good (by omega) (by omega) hX⟩
  refine (WP_p (x := .bool true) (by exact awake8_spec H.toLaw8) (by exact gg trivial)).2 ?_
  simp (disch := first | (simp only [DS, reduceCtorEq]; done) | omega) only [WS, St.guard, St.put, evalO, reduceCtorEq, reduceIte, Nat.reduceAdd, Nat.reduceEqDiff, Int.reduceBNe, isNilV, Hp.isNil]
  refine WP_of (by exact mod_op H.mod 60 rfl (by omega) (by omega) (gg trivial)) ?_
  have hm60 := umod_lt (c := arm) (n := 60) (by omega)
  have ha60 := umod_lt (c := agn) (n := 60) (by omega)
  simp (disch := first | (simp only [DS, reduceCtorEq]; done) | omega) only [WS, St.guard, St.put, evalO, reduceCtorEq, reduceIte, Nat.reduceAdd, Nat.reduceEqDiff]
  refine WP_of (kD1 (D' := { newD 90 with armed := (((umod arm 60 : Nat) : Int)).toNat }) rfl (by simp) (gl trivial) (fun G' hG' => Arm_spec HD hG')) ?_
  simp (disch := first | (simp only [DS, reduceCtorEq]; done) | omega) only [WS, St.guard, St.put, evalO, reduceCtorEq, reduceIte, Nat.reduceAdd, Nat.reduceEqDiff]
  obtain ⟨am, hAm⟩ : ∃ m : Nat, m = (((umod arm 60 : Nat) : Int)).toNat := ⟨_, rfl⟩
  obtain ⟨ag, hAg⟩ : ∃ m : Nat, m = (((umod agn 60 : Nat) : Int)).toNat := ⟨_, rfl⟩
  rw [← hAm]
  have am63 : am < 2 ^ 63 := by omega
  have ag63 : ag < 2 ^ 63 := by omega
  obtain ⟨as, has⟩ : ∃ as, as = xs.map putR := ⟨_, rfl⟩
  obtain ⟨bs, hbs⟩ : ∃ bs, bs = ys.map putR := ⟨_, rfl⟩
  have hal : as.length = xs.length := by rw [has, List.length_map]
  have hbl : bs.length = ys.length := by rw [hbs, List.length_map]
  have sa : ∀ b ∈ as, b ≠ [] ∧ b.length ≤ 400000 := by rw [has]; exact putR_small.big
  have sb : ∀ b ∈ bs, b ≠ [] ∧ b.length ≤ 400000 := by rw [hbs]; exact putR_small.big
  have pk0 := pk_new am am63
  rw [← hJ0] at pk0
  have ki0 := kinv_put (by omega) (by omega) pk0 sa
  have putok : ∀ {D J A L E}, PK 90 E D J A L → 1 ≤ E → E < 256 → PutOk 90 (D, J) := fun {D J A L E} h h1 h2 => by
    have hk := h.k
    refine ⟨h.h.z, ⟨?_, ?_, ?_, ?_, ?_⟩⟩
    · show J.frm + J.n ≤ 90; rw [h.frm, h.jn]; omega
    · show J.used ≤ J.n; rw [h.used, h.jn]; exact hk.fit
    · show J.recs.length ≤ J.used; rw [h.recs, h.used, rec2_len]; exact laid_len hk.laid
    · show J.ep ≠ 0#32; rw [h.ep]; exact epW_ne h1 (by omega)
    · intro c hc
      have hc' : c ∈ J.recs := hc
      rw [h.recs] at hc'
      refine ⟨laid_ne hk.laid c hc', ?_⟩
      have h3 : ∀ (l : List Txt), c ∈ l → needN c.length ≤ sumN l := fun l => by
        induction l with
        | nil => intro h; cases h
        | cons x l ih =>
          intro h
          show _ ≤ needN x.length + sumN l
          rcases List.mem_cons.1 h with rfl | h'
          · omega
          · have := ih h'; omega
      have h4 := h3 _ hc'
      have hf := hk.fit
      have h5 : needN c.length ≤ 90 := Nat.le_trans h4 hf
      unfold needN at h5; omega
  obtain ⟨k1, hk1⟩ : ∃ k, k = okN ({ newD 90 with armed := am }, J0) as := ⟨_, rfl⟩
  rw [← hk1] at ki0
  obtain ⟨W1, hW1⟩ : ∃ W, W = addAll ({ newD 90 with armed := am }, J0) (as.take (k1 + 1)) := ⟨_, rfl⟩
  rw [← hW1] at ki0
  obtain ⟨D1, J1⟩ := W1
  obtain ⟨all1, hall1⟩ : ∃ l, l = as.take (k1 + 1) := ⟨_, rfl⟩
  have hki0 : KInv 1 ⟨D1, all1, k1⟩ := by
    have : rec2 [] ++ as.take (k1 + 1) = all1 := by rw [hall1]; rfl
    rw [this] at ki0
    simpa using ki0
  have ok0 : ∀ i b, as[i]? = some b → ((i < k1 → ((addAll ({ newD 90 with armed := am }, J0) (as.take i)).2.add (addAll ({ newD 90 with armed := am }, J0) (as.take i)).1 b).1 = 0) ∧ (i = k1 → ((addAll ({ newD 90 with armed := am }, J0) (as.take i)).2.add (addAll ({ newD 90 with armed := am }, J0) (as.take i)).1 b).1 ≠ 0)) := by
    rw [hk1]; exact okN_at (E := 1) (n := 90) (by omega) (by omega) (by omega) (by omega) as _
  have ev6 := lputN HJ H.jput (s_ok (X := List.replicate 11 none) (qq := 4) (pp := 5) (by omega) (by omega) (by simp)) gZ (by omega) va has (by omega) (putok pk0 (by omega) (by omega)) (site := 6) (k := k1) (by rw [hk1]; exact okN_le) ok0 (fun _ _ => rfl) hW1.symm hall1
  refine WP_of (h' := ⟨[], kL D1 [recB J1.recs, kB 4 J1, rowBk all1, none, none, none, none]⟩) (by exact ev6) ?_
  simp (disch := first | (simp only [DS, reduceCtorEq]; done) | omega) only [WS, St.guard, St.put, evalO, reduceCtorEq, reduceIte, Nat.reduceAdd, Nat.reduceEqDiff]
  have inv := ksAt_inv (ks := ks) (rs := ts) (more := bs) ag63 sb hki0
  have all_le : ∀ i, i ≤ 2 → (ksAt ks ts ag bs ⟨D1, all1, k1⟩ i).all.length ≤ 500 := fun i hi => by
    obtain ⟨L, c, q1, q2, q3⟩ := inv i (by omega)
    obtain ⟨A, L', hS⟩ := kinv_shown ⟨L, c, q1, q2, q3⟩ []
    have := hS.lo; have := hS.len
    rw [q3, List.length_append, rec2_len, ← q2]
    have : c.toList.length ≤ 1 := by cases c <;> simp
    omega
  refine WC_count (fun i => ⟨f_law08_JournalKeeps_H0 (if i = 0 then kp else rs) b (.v (.int .i64 agn)) rs (.ptr (.l 3) 5 0) (rvA i (ksAt ks ts ag bs ⟨D1, all1, k1⟩ i).all) (.v (.int .i64 ((ksAt ks ts ag bs ⟨D1, all1, k1⟩ i).ok : Nat))) (.v (.int .i64 (i : Nat))),
      ⟨[], kL (ksAt ks ts ag bs ⟨D1, all1, k1⟩ i).D [recB J1.recs, kB 4 J1, rvB i (ksAt ks ts ag bs ⟨D1, all1, k1⟩ i).all, none, none, none, none]⟩⟩) 2 ?_ (fun i hi => ?_) ?_
  · have rA : rvA 0 all1 = rowV (.l 6) all1 := rfl
    have rB : rvB 0 all1 = rowBk all1 := rfl
    have na1 : ∀ ks', noRef ks' kp = true := fun ks' => noRef_out (View.out (vk ⟨[], []⟩))
    have na2 : ∀ ks', noRef ks' rs = true := fun ks' => noRef_out (View.out (vr ⟨[], []⟩))
    have na3 : ∀ ks', noRef ks' b = true := fun ks' => noRef_out (View.out (vb ⟨[], []⟩))
    have na4 : noRef [7, 8, 9, 10] (rowV (.l 6) all1) = true := by rw [← rA]; exact rvA_nr (by simp)
    have nb4 : blkNoRef [7, 8, 9, 10] (rowBk all1) = true := by
      rw [← rB]
      cases hB : rvB 0 all1 with
      | none => rfl
      | some c => show c.labs.all _ = true; rw [rvB_db c hB]; rfl
    simp only [ksAt, rA, rB, if_true]
    exact clear_fre (by simp only [clear_nil, List.foldl_cons, List.foldl_nil, Option.some.injEq, LS, reduceCtorEq, reduceIte, Nat.reduceAdd] <;> rfl) (by rfl) (by simp only [f_law08_JournalKeeps_H0, List.all_cons, List.all_nil, noRef_v, noRef_dead, noRef_own, noRef_ptr, noRef_nil, Bool.and_true, Bool.true_and, Bool.and_self, List.contains_cons, List.contains_nil, Bool.or_false, Nat.reduceBEq, Bool.not_false, na1, na2, na3, na4]) (by
      simp only [kL, dk, List.all_cons, List.all_nil, nb4]; rfl)
  · obtain ⟨s, hs⟩ : ∃ s, s = ksAt ks ts ag bs ⟨D1, all1, k1⟩ i := ⟨_, rfl⟩
    have hI := inv i (by omega)
    have hAl := all_le i (by omega)
    have hAl2 := all_le (i + 1) (by omega)
    have hnx : ksAt ks ts ag bs ⟨D1, all1, k1⟩ (i + 1) = ksNext (i + 1) (if i = 0 then ks else ts) ag bs s := by rw [hs]; rfl
    rw [hnx] at hAl2
    simp only [hnx]
    simp only [← hs] at hI hAl ⊢
    obtain ⟨kq, hkq⟩ : ∃ x, x = if i = 0 then kp else rs := ⟨_, rfl⟩
    obtain ⟨kl, hkl⟩ : ∃ x, x = if i = 0 then ks else ts := ⟨_, rfl⟩
    have vq : ∀ h, View h kq 1 kl.length (kl.map intAV) := by
      rw [hkq, hkl]
      intro h
      by_cases h0 : i = 0
      · rw [if_pos h0, if_pos h0]; exact vk h
      · rw [if_neg h0, if_neg h0]; exact vr h
    rw [← hkl] at hAl2 ⊢
    rw [← hkq]
    obtain ⟨A, L, hS⟩ := kinv_shown hI kl
    obtain ⟨p1, p2⟩ := shown_pk hS ag ag63
    have hPk := putok p1 (by omega) (by omega)
    obtain ⟨D2, hD2⟩ : ∃ D, D = (s.D.crash kl).start := ⟨_, rfl⟩
    obtain ⟨K, hK⟩ : ∃ K, K = openJ D2 0 90 (epW (i + 1 + 1)) := ⟨_, rfl⟩
    rw [← hD2] at hS
    rw [← hD2, ← hK] at p1 p2 hPk
    have zs : Siz s.D 90 := by obtain ⟨L', c', hP, _⟩ := hI; exact hP.z
    have zc : Siz (s.D.crash kl) 90 := zs.crash
    have z2 : Siz D2 90 := by rw [hD2]; exact zc.start
    have hx2 : ∀ p, [AV.ptr (.l p) 5 0, kq].map (AV.ren (up 0)) = [.ptr (.o p) 5 0, kq] := fun p => by
      simp only [List.map_cons, List.map_nil, view_plain (vq ⟨[], []⟩), AV.ren, up, Nat.zero_add]
    have hlt : (i : Int) < 2 := by omega
    have gR : ∀ {X : List (Option Blk)}, goodL 0 7 X → goodL 0 6 (rvB i s.all :: X) := fun hX => goodL_opt (fun b hb => by rw [rvB_db b hb]; rfl) hX
    simp (disch := first | (simp only [DS, reduceCtorEq]; done) | omega) only [f_law08_JournalKeeps_L0, f_law08_JournalKeeps_H0, WS, St.guard, St.put, evalO, reduceCtorEq, reduceIte, Nat.reduceAdd, Nat.reduceEqDiff, hlt, decide_true]
    refine WP_of (kD1 (D' := s.D.crash kl) rfl (by simp) (gl (gR trivial)) (fun G' hG' => by rw [hx2]; exact Crash_spec HD (by rw [zs.b]; exact hG') (by rw [zs.l, zs.b]) (by rw [zs.a, zs.b]) (by rw [zs.b]; omega) vq)) ?_
    simp (disch := first | (simp only [DS, reduceCtorEq]; done) | omega) only [WS, St.guard, St.put, evalO, reduceCtorEq, reduceIte, Nat.reduceAdd, Nat.reduceEqDiff]
    refine WP_of (kD1 (D' := D2) rfl (by simp) (gl (gR trivial)) (fun G' hG' => by rw [hD2]; exact Start_spec HD (by rw [zc.b]; exact hG') (by rw [zc.l, zc.b]) (by rw [zc.a, zc.b]) (by rw [zc.b]; omega))) ?_
    have e2i : (2 : Int) + (i : Int) = ((i + 1 + 1 : Nat) : Int) := by omega
    have wE : (Value.int .u32 (IntKind.u32.wrap ((i + 1 + 1 : Nat) : Int))) = u32 (epW (i + 1 + 1)) := wrap_num
    simp (disch := first | (simp only [DS, reduceCtorEq]; done) | omega) only [WS, St.guard, St.put, evalO, reduceCtorEq, reduceIte, Nat.reduceAdd, Nat.reduceEqDiff, vBin_add_i64, e2i, wE]
    refine WP_of (h' := ⟨[], kL D2 [recB J1.recs, kB 4 J1, rvB i s.all, recB K.recs, kB 7 K, none, none]⟩) (by rw [hK]; exact mOpen (P := sP) (N := 90) (D := D2) (frm := 0) (nn := 90) (i := 7) (j := 8) rfl (dpos_ok (by simp [kL, dk]) le_some) z2 (by omega) (gg (gR trivial)) (newE_ok hS.off z2 (by omega) (by omega) (by omega) (by omega)) (by omega) rfl rfl HJ) ?_
    simp (disch := first | (simp only [DS, reduceCtorEq]; done) | omega) only [WS, St.guard, St.put, evalO, reduceCtorEq, reduceIte, Nat.reduceAdd, Nat.reduceEqDiff, Int.reduceBNe, isNilV, Hp.isNil]
    have gK : ∀ {X : List (Option Blk)}, goodL 0 9 X → goodL 0 7 (recB K.recs :: kB 7 K :: X) := fun hX => ⟨dBlk_good, kB_good (by omega) (by omega) hX⟩
    have lk8 : ∀ {X : List (Option Blk)}, X.length = 11 → LOk X sP 7 8 90 := fun hX => s_ok (by omega) (by omega) (by omega)
    have hne : ∀ c ∈ K.recs, c ≠ [] ∧ c.length ≤ 920000 := hPk.t.ne
    have hr90 : K.recs.length ≤ 90 := by rw [p2]; exact hS.len
    refine WP_of (h' := ⟨[], kL D2 [recB J1.recs, kB 4 J1, rvB i s.all, recB K.recs, kB 7 K, recB K.recs, none]⟩) (by
      exact sRecs HJ (L := kL D2 [recB J1.recs, kB 4 J1, rvB i s.all, none, none, none, none]) (P := sP) (q := 7) (p := 8) (D := D2) (J := K) (i := 9) (lk8 rfl) (gg (gR trivial)) (fun c hc => (hne c hc).1) (fun c hc => by have := (hne c hc).2; omega) (by omega) rfl) ?_
    have ls : ∀ (m k : Nat) (h : Hp), prim h .lenSlice [.own (.l k) m 0 m 1 none] = some (.v (.int .i64 (m : Nat)), h) := fun m k h => rfl
    have q1 : ¬ (K.recs.length : Int) < (s.ok : Int) := by have := hS.lo; rw [← p2] at this; omega
    have q2 : ¬ (K.recs.length : Int) > (s.ok : Int) + 1 := by have := hS.hi; rw [← p2] at this; omega
    have q3 : ¬ (K.recs.length : Int) > (s.all.length : Int) := by have := hS.al; rw [← p2] at this; omega
    have ok500 : s.ok ≤ 500 := by have := hS.lo; have := hS.len; omega
    have hall := hS.eq
    rw [← p2] at hall
    have hal9 := hS.al
    rw [← p2] at hal9
    have rv6 : ∀ {X : List (Option Blk)}, View ⟨[], kL D2 (recB J1.recs :: kB 4 J1 :: rvB i s.all :: X)⟩ (rvA i s.all) 1 s.all.length (recE.row s.all) := fun {X} => rvA_view rfl
    have sl : ∀ {X : List (Option Blk)}, prim ⟨[], kL D2 (recB J1.recs :: kB 4 J1 :: rvB i s.all :: X)⟩ (.slice 1 false true false) [rvA i s.all, .v (.int .i64 (K.recs.length : Nat))] = some (AM.sub (rvA i s.all) 1 0 K.recs.length, ⟨[], kL D2 (recB J1.recs :: kB 4 J1 :: rvB i s.all :: X)⟩) := fun {X} => rv6.sliceHi hal9
    have lo6 : lenOf (rvA i s.all) = some s.all.length := (rvA_view (L := kL D2 [recB J1.recs, kB 4 J1, rvB i s.all]) rfl).hlen
    simp (disch := first | (simp only [DS, reduceCtorEq]; done) | omega) only [WS, St.guard, St.put, evalO, reduceCtorEq, reduceIte, Nat.reduceAdd, Nat.reduceEqDiff, ls, lo6, goInt, q1, q2, q3, decide_false, vBin_add_i64, sl]
    have g9 : ∀ {D : DskD}, Good ⟨[], kL D [recB J1.recs, kB 4 J1, rvB i s.all, recB K.recs, kB 7 K, recB K.recs, none]⟩ := gg (gR (gK ⟨dBlk_good, trivial⟩))
    refine (WP_p (x := .bool true) (by
      have v9 : View ⟨[], kL D2 [recB J1.recs, kB 4 J1, rvB i s.all, recB K.recs, kB 7 K, recB K.recs, none]⟩ (.own (.l 9) K.recs.length 0 K.recs.length 1 none) 1 K.recs.length (recE.row K.recs) := by
        exact recL_view rfl
      have v6 := (rv6 (X := [recB K.recs, kB 7 K, recB K.recs, none])).sub (i := 0) (j := K.recs.length) (by omega) hal9
      have hrow : ((recE.row s.all).drop (0 * 1)).take ((K.recs.length - 0) * 1) = recE.row K.recs := by
        have e1 : recE.row s.all = recE.row K.recs ++ recE.row (s.all.drop K.recs.length) := by
          rw [← recE.row_append]
          congr 1
          conv => lhs; rw [← List.take_append_drop K.recs.length s.all, hall]
        rw [Nat.zero_mul, List.drop_zero, Nat.sub_zero, Nat.mul_one, e1, List.take_left' rec_len]
      rw [hrow, Nat.sub_zero] at v6
      have hren : ∀ g, ((AM.sub (rvA i s.all) 1 0 K.recs.length).ren (up 0)).ren (up g) = (AM.sub (rvA i s.all) 1 0 K.recs.length).ren (up 0) := fun g => by
        unfold rvA rowV
        split
        · split
          · rfl
          · rfl
        · rfl
      exact rowsV_spec H.toRowLib (a := (AV.own (.l 9) K.recs.length 0 K.recs.length 1 none).ren (up 0)) (b := (AM.sub (rvA i s.all) 1 0 K.recs.length).ren (up 0)) (l := K.recs) (fun g => rfl) hren (fun L => TView.into (T := recE) v9 L) (fun L => TView.into (T := recE) v6 L) (by omega)) (by exact g9)).2 ?_
    simp (disch := first | (simp only [DS, reduceCtorEq]; done) | omega) only [WS, St.guard, St.put, evalO, reduceCtorEq, reduceIte, Nat.reduceAdd, Nat.reduceEqDiff]
    refine WP_of (by exact mod_op H.mod 60 rfl (by omega) (by omega) g9) ?_
    simp (disch := first | (simp only [DS, reduceCtorEq]; done) | omega) only [WS, St.guard, St.put, evalO, reduceCtorEq, reduceIte, Nat.reduceAdd, Nat.reduceEqDiff]
    refine WP_of (kD1 (D' := { D2 with armed := ag }) rfl (by simp) (gl (gR (gK ⟨dBlk_good, trivial⟩))) (fun G' hG' => by rw [hAg]; exact Arm_spec HD hG')) ?_
    simp (disch := first | (simp only [DS, reduceCtorEq]; done) | omega) only [WS, St.guard, St.put, evalO, reduceCtorEq, reduceIte, Nat.reduceAdd, Nat.reduceEqDiff, WC_post]
    obtain ⟨k2, hk2⟩ : ∃ k, k = okN ({ D2 with armed := ag }, K) bs := ⟨_, rfl⟩
    obtain ⟨W2, hW2⟩ : ∃ W, W = addAll ({ D2 with armed := ag }, K) (bs.take (k2 + 1)) := ⟨_, rfl⟩
    obtain ⟨all2, hall2⟩ : ∃ l, l = K.recs ++ bs.take (k2 + 1) := ⟨_, rfl⟩
    have hksn : ksNext (i + 1) kl ag bs s = ⟨W2.1, all2, K.recs.length + k2⟩ := by
      unfold ksNext
      rw [← hD2, ← hK, ← hk2, ← hW2, ← hall2]
    rw [hksn] at hAl2 ⊢
    obtain ⟨D3, K3⟩ := W2
    simp only
    have ok2 : ∀ j c, bs[j]? = some c → ((j < k2 → ((addAll ({ D2 with armed := ag }, K) (bs.take j)).2.add (addAll ({ D2 with armed := ag }, K) (bs.take j)).1 c).1 = 0) ∧ (j = k2 → ((addAll ({ D2 with armed := ag }, K) (bs.take j)).2.add (addAll ({ D2 with armed := ag }, K) (bs.take j)).1 c).1 ≠ 0)) := by
      rw [hk2]; exact okN_at (E := 1) (n := 90) (by omega) (by omega) (by omega) (by omega) bs _
    have ev10 := lputO (x := 9) HJ H.jput (L := kL D2 [recB J1.recs, kB 4 J1, rvB i s.all, none, none, none, none]) (P := sP) (q := 7) (p := 8) (lk8 rfl) (fun l => by
      have : Good ⟨[], kL D2 [recB J1.recs, kB 4 J1, rvB i s.all, none, none, recB l, none]⟩ := gg (gR (show goodL 0 9 [recB l, none] from ⟨dBlk_good, trivial⟩))
      exact this) (by omega) vb hbs (by omega) hPk (site := 10) (by simp [kL, dk]) (by simp [sP, dpos]) (l0 := K.recs) (by omega) (k := k2) (by rw [hk2]; exact okN_le) ok2 (fun _ _ _ => rfl) hW2.symm hall2
    refine WP_of (h' := ⟨[], kL D3 [recB J1.recs, kB 4 J1, rvB i s.all, recB K3.recs, kB 7 K3, recB all2, none]⟩) (by exact ev10) ?_
    simp (disch := first | (simp only [DS, reduceCtorEq]; done) | omega) only [WS, St.guard, St.put, evalO, reduceCtorEq, reduceIte, Nat.reduceAdd, Nat.reduceEqDiff, WK_mv_normal]
    refine ⟨_, kMove, ?_⟩
    have ro : AV.ren (mvLab [(9, 6)]) (.own (.l 9) all2.length 0 all2.length 1 none) = .own (.l 6) all2.length 0 all2.length 1 none := rfl
    have rb : ∀ ρ, b.ren ρ = b := view_plain (vb ⟨[], []⟩)
    have rr : ∀ ρ, rs.ren ρ = rs := view_plain (vr ⟨[], []⟩)
    simp only [List.map_cons, List.map_nil]
    simp (disch := first | (simp only [DS, reduceCtorEq]; done) | omega) only [WS, St.guard, St.put, evalO, reduceCtorEq, reduceIte, Nat.reduceAdd, Nat.reduceEqDiff, ro, ren_val, vBin_add_i64]
    have na2 : ∀ ks', noRef ks' rs = true := fun ks' => noRef_out (View.out (vr ⟨[], []⟩))
    have na3 : ∀ ks', noRef ks' b = true := fun ks' => noRef_out (View.out (vb ⟨[], []⟩))
    have rA : rvA (i + 1) all2 = .own (.l 6) all2.length 0 all2.length 1 none := if_neg (by omega)
    have rB : rvB (i + 1) all2 = recB all2 := if_neg (by omega)
    rw [rA, rB]
    refine clear_fre (env := f_law08_JournalKeeps_H0 rs b (.v (.int .i64 agn)) rs (.ptr (.l 3) 5 0) (.own (.l 6) all2.length 0 all2.length 1 none) (.v (.int .i64 ((K.recs.length + k2 : Nat) : Int))) (.v (.int .i64 ((i + 1 : Nat) : Int)))) (by simp only [clear_nil, List.foldl_cons, List.foldl_nil, Option.some.injEq, LS, reduceCtorEq, reduceIte, Nat.reduceAdd, rb, rr] <;> rfl) (by rfl) (by simp only [f_law08_JournalKeeps_H0, List.all_cons, List.all_nil, noRef_v, noRef_dead, noRef_own, noRef_ptr, noRef_nil, Bool.and_true, Bool.true_and, Bool.and_self, List.contains_cons, List.contains_nil, Bool.or_false, Nat.reduceBEq, Bool.not_false, na2, na3]) (by rfl)
  · have hlt : ¬ ((2 : Nat) : Int) < 2 := by omega
    simp (disch := first | (simp only [DS, reduceCtorEq]; done) | omega) only [f_law08_JournalKeeps_L0, f_law08_JournalKeeps_H0, WS, St.guard, St.put, evalO, reduceCtorEq, reduceIte, Nat.reduceAdd, Nat.reduceEqDiff, hlt, decide_false, fin_tmp, leave_v]
    simp
end Go.AM
