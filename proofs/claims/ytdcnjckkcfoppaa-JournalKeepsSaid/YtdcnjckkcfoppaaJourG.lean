import Derived.Test.YtdcnjckkcfoppaaJourF
import Derived.Test.YtdcnjckkcfoppaaLawLeafB
import Derived.Test.YtdcnjckkcfoppaaJourD
set_option linter.unusedVariables false
set_option linter.unusedSimpArgs false
namespace Go.AM
theorem be4_small {E : Nat} (h : E < 256) : be4 (epW E) = [0, 0, 0, UInt8.ofNat E] := by
  have e : (epW E).toNat = E := by unfold epW; rw [BitVec.toNat_ofNat, Nat.mod_eq_of_lt (by omega)]
  have s : ∀ k, ((epW E) >>> k).toNat = E >>> k := fun k => by rw [BitVec.toNat_ushiftRight, e]
  unfold be4
  rw [s, s, s, s]
  have h1 : E >>> 24 = 0 := by rw [Nat.shiftRight_eq_div_pow]; omega
  have h2 : E >>> 16 = 0 := by rw [Nat.shiftRight_eq_div_pow]; omega
  have h3 : E >>> 8 = 0 := by rw [Nat.shiftRight_eq_div_pow]; omega
  rw [h1, h2, h3]; rfl
def b3 (s : Sec) : Nat := (s.1.getD 3 0).toNat
def b63 (s : Sec) : Nat := (s.1.getD 63 0).toNat
structure Tg (E : Nat) (s : Sec) : Prop where
  hd : s.1.take 3 = [0, 0, 0]
  tl : (s.1.drop 60).take 3 = [0, 0, 0]
  h3 : b3 s < E
  h63 : b63 s < E
theorem Tg.mono {E F : Nat} {s : Sec} (h : Tg E s) (hf : E ≤ F) : Tg F s := ⟨h.hd, h.tl, by have := h.h3; omega, by have := h.h63; omega⟩
theorem head4 (s : Sec) : s.1.take 4 = s.1.take 3 ++ [s.1.getD 3 0] := by
  have := s.2
  rw [List.getD_eq_getElem?_getD, List.getElem?_eq_getElem (by omega), Option.getD_some, List.take_append_getElem]
theorem tail4 (s : Sec) : s.1.drop 60 = (s.1.drop 60).take 3 ++ [s.1.getD 63 0] := by
  have := s.2
  have e : s.1.getD 63 0 = (s.1.drop 60).getD 3 0 := by
    rw [List.getD_eq_getElem?_getD, List.getD_eq_getElem?_getD, List.getElem?_drop]
  have l : (s.1.drop 60).length = 4 := by rw [List.length_drop]; omega
  rw [e, List.getD_eq_getElem?_getD, List.getElem?_eq_getElem (by omega), Option.getD_some, List.take_append_getElem, List.take_of_length_le (by omega)]
theorem u8_ofNat_self (a : UInt8) : UInt8.ofNat a.toNat = a := by simp
theorem leaf_e {E : Nat} {s : Sec} {y : LeafD} (h : Tg E s) (hy : y.right = true) (hs : s.1 = y.bytes) : y.e = epW (b3 s) ∧ b3 s = b63 s := by
  have ly := (right_len hy).2
  have h1 := bytes_head ly
  have h2 := bytes_tail ly
  rw [← hs, head4, h.hd] at h1
  rw [← hs, tail4, h.tl] at h2
  have e3 : be4 y.e = be4 (epW (b3 s)) := by
    rw [← h1, be4_small (by unfold b3; exact UInt8.toNat_lt _)]
    unfold b3; rw [u8_ofNat_self]; rfl
  refine ⟨be4_inj e3, ?_⟩
  rw [← h1] at h2
  simp only [List.cons_append, List.nil_append, List.cons.injEq, and_true, true_and] at h2
  unfold b3 b63; rw [h2]
theorem epW_inj {a b : Nat} (ha : a < 256) (hb : b < 256) (h : epW a = epW b) : a = b := by
  have := congrArg BitVec.toNat h
  unfold epW at this
  rw [BitVec.toNat_ofNat, BitVec.toNat_ofNat, Nat.mod_eq_of_lt (by omega), Nat.mod_eq_of_lt (by omega)] at this
  exact this
theorem leaf_tg {E : Nat} {x : LeafD} {s : Sec} (hE : E < 256) (hx : x.right = true) (he : x.e = epW E) (hs : s.1 = x.bytes) : s.1.take 3 = [0, 0, 0] ∧ (s.1.drop 60).take 3 = [0, 0, 0] ∧ b3 s = E ∧ b63 s = E := by
  have lx := (right_len hx).2
  have h1 := bytes_head lx
  have h2 := bytes_tail lx
  rw [← hs, he, be4_small hE] at h1 h2
  have hl := s.2
  have k1 : s.1.take 3 = (s.1.take 4).take 3 := by rw [List.take_take]; rfl
  refine ⟨by rw [k1, h1]; rfl, by rw [h2]; rfl, ?_, ?_⟩
  · have := head4 s
    rw [h1, k1, h1] at this
    simp only [List.take_succ_cons, List.take_zero, List.cons_append, List.nil_append, List.cons.injEq, and_true, true_and] at this
    unfold b3; rw [← this]; simp; omega
  · have := tail4 s
    rw [h2] at this
    simp only [List.take_succ_cons, List.take_zero, List.cons_append, List.nil_append, List.cons.injEq, and_true, true_and] at this
    unfold b63; rw [← this]; simp; omega
theorem mix_get {k : Int} {s t : Sec} {j : Nat} (hj : j < 64) : (mixS k s t).1.getD j 0 = if j < clampN k then t.1.getD j 0 else s.1.getD j 0 := by
  have hc := clampN_le (k := k)
  have := s.2; have := t.2
  have hl : (t.1.take (clampN k)).length = clampN k := by rw [List.length_take]; omega
  show (t.1.take (clampN k) ++ s.1.drop (clampN k)).getD j 0 = _
  simp only [List.getD_eq_getElem?_getD]
  split
  · rename_i h
    rw [List.getElem?_append_left (by omega), List.getElem?_take_of_lt h]
  · rename_i h
    rw [List.getElem?_append_right (by omega), hl, List.getElem?_drop]
    congr 2; omega
theorem sec_ext {s t : Sec} (h : ∀ j, j < 64 → s.1.getD j 0 = t.1.getD j 0) : s = t := by
  refine Subtype.ext (List.ext_getElem? fun j => ?_)
  have hs := s.2; have ht := t.2
  by_cases hj : j < 64
  · have := h j hj
    simp only [List.getD_eq_getElem?_getD] at this
    rw [List.getElem?_eq_getElem (by omega), List.getElem?_eq_getElem (by omega)] at this ⊢
    simpa using this
  · rw [List.getElem?_eq_none (by omega), List.getElem?_eq_none (by omega)]
theorem take3_iff {s : Sec} : s.1.take 3 = [0, 0, 0] ↔ s.1.getD 0 0 = 0 ∧ s.1.getD 1 0 = 0 ∧ s.1.getD 2 0 = 0 := by
  obtain ⟨l, hl⟩ := s
  match l, hl with
  | a :: b :: c :: r, hl => simp
theorem tail3_iff {s : Sec} : (s.1.drop 60).take 3 = [0, 0, 0] ↔ s.1.getD 60 0 = 0 ∧ s.1.getD 61 0 = 0 ∧ s.1.getD 62 0 = 0 := by
  have hl := s.2
  have e : ∀ k, s.1.getD (60 + k) 0 = (s.1.drop 60).getD k 0 := fun k => by
    rw [List.getD_eq_getElem?_getD, List.getD_eq_getElem?_getD, List.getElem?_drop]
  rw [show (60 : Nat) = 60 + 0 from rfl, show (61 : Nat) = 60 + 1 from rfl, show (62 : Nat) = 60 + 2 from rfl, e, e, e]
  have hd : (s.1.drop 60).length = 4 := by rw [List.length_drop]; omega
  generalize s.1.drop 60 = l at *
  match l, hd with
  | a :: b :: c :: r, hd => simp
theorem mix_leaf {E : Nat} {x : LeafD} {s t : Sec} {k : Int} (h1 : 1 ≤ E) (hE : E < 256) (hx : x.right = true) (he : x.e = epW E) (ht : t.1 = x.bytes) (hs : Tg E s) :
    Tg (E + 1) (mixS k s t) ∧ (mixS k s t = t ∨ mixS k s t = s ∨ takeOK (mixS k s t).1 = false) := by
  obtain ⟨a1, a2, a3, a4⟩ := leaf_tg hE hx he ht
  have c := clampN_le (k := k)
  obtain ⟨s0, s1, s2⟩ := take3_iff.1 hs.hd
  obtain ⟨s60, s61, s62⟩ := tail3_iff.1 hs.tl
  obtain ⟨t0, t1, t2⟩ := take3_iff.1 a1
  obtain ⟨t60, t61, t62⟩ := tail3_iff.1 a2
  have h3 := hs.h3; have h63 := hs.h63
  have m3 : b3 (mixS k s t) = if 3 < clampN k then E else b3 s := by
    unfold b3; rw [mix_get (by omega)]
    split
    · exact a3
    · rfl
  have m63 : b63 (mixS k s t) = if 63 < clampN k then E else b63 s := by
    unfold b63; rw [mix_get (by omega)]
    split
    · exact a4
    · rfl
  have T : Tg (E + 1) (mixS k s t) := by
    refine ⟨take3_iff.2 ⟨?_, ?_, ?_⟩, tail3_iff.2 ⟨?_, ?_, ?_⟩, ?_, ?_⟩
    all_goals first | (rw [mix_get (by omega)]; split <;> assumption) | skip
    · rw [m3]; split <;> omega
    · rw [m63]; split <;> omega
  refine ⟨T, ?_⟩
  by_cases c64 : clampN k = 64
  · left
    refine sec_ext fun j hj => ?_
    rw [mix_get hj, if_pos (by omega)]
  by_cases c3 : clampN k ≤ 3
  · right; left
    refine sec_ext fun j hj => ?_
    rw [mix_get hj]
    split
    · have : j = 0 ∨ j = 1 ∨ j = 2 := by omega
      rcases this with rfl | rfl | rfl
      · rw [s0, t0]
      · rw [s1, t1]
      · rw [s2, t2]
    · rfl
  · right; right
    cases hok : takeOK (mixS k s t).1 with
    | false => rfl
    | true =>
      obtain ⟨y, hy, hm⟩ := takeOK_iff.1 hok
      have := (leaf_e T hy hm).2
      rw [m3, m63, if_pos (by omega), if_neg (by omega)] at this
      omega
def LeafAt (A : List Sec) (i : Nat) (y : LeafD) : Prop := ∃ s, A[i]? = some s ∧ y.right = true ∧ s.1 = y.bytes
structure LfOk (y : LeafD) (e : BitVec 32) (num k : Nat) (l : Bool) : Prop where
  e : y.e = e
  n : y.n.toNat = num
  f : y.f = decide (k = 0)
  l : y.l = l
def Whole (A : List Sec) (u num : Nat) (e : BitVec 32) (m : Nat) (y : Nat → LeafD) : Prop := 1 ≤ m ∧ ∀ k, k < m → LeafAt A (u + k) (y k) ∧ LfOk (y k) e num k (decide (k + 1 = m))
def NoRec (A : List Sec) (u num : Nat) : Prop := ∀ e m y, ¬ Whole A u num e m y
end Go.AM
namespace Go.AM
variable {D : DskD} {J : JD} {n : Nat}
theorem lv_at {i : Nat} (hf : J.frm + J.n ≤ D.b.length) (h : lvOK D J i = true) : LeafAt D.b (J.frm + i) (lvX D J i) := by
  obtain ⟨hi, hr⟩ := lvOK_right h
  unfold lvOK at h
  unfold lvX at hr ⊢
  rw [if_pos hi] at h hr ⊢
  obtain ⟨y, hy, hs⟩ := takeOK_iff.1 h
  refine ⟨secAt D.b ((J.frm + i : Nat) : Int), ?_, hr, ?_⟩
  · unfold secAt
    rw [Int.toNat_natCast, List.getD_eq_getElem?_getD, List.getElem?_eq_getElem (by omega), Option.getD_some]
  · rw [hs, takeX_bytes hy]
def Seen (D : DskD) (J : JD) (k : Nat) (e : BitVec 32) : Prop := ∀ j, j < k → lvOK D J (J.used + j) = true ∧ LfOk (lvX D J (J.used + j)) e J.recs.length j false
theorem lvNext_ok {k : Nat} {e : BitVec 32} (h : lvNext D J k e = true) : lvOK D J (J.used + k) = true ∧ (lvX D J (J.used + k)).n.toNat = J.recs.length ∧ (lvX D J (J.used + k)).f = decide (k = 0) ∧ (k ≠ 0 → (lvX D J (J.used + k)).e = e) := by
  unfold lvNext at h
  simp only [Bool.and_eq_true, Bool.or_eq_true, beq_iff_eq, decide_eq_true_eq, Bool.not_eq_true', decide_eq_false_iff_not] at h
  refine ⟨?_, ?_, ?_, fun hk => ?_⟩
  · cases h' : lvOK D J (J.used + k) <;> simp_all
  · simp_all
  · simp_all
  · simp_all
theorem tkF_whole (hf : J.frm + J.n ≤ D.b.length) : ∀ f k b e, Seen D J k e → (tkF D J f k b e).1 = true → ∃ e m y, Whole D.b (J.frm + J.used) J.recs.length e m y
  | 0, k, b, e, _, h => by simp [tkF] at h
  | f + 1, k, b, e, hS, h => by
    unfold tkF at h
    split at h
    · rename_i hN
      obtain ⟨a1, a2, a3, a4⟩ := lvNext_ok hN
      have hS' : Seen D J k (lvX D J (J.used + k)).e := fun j hj => by
        obtain ⟨b1, b2⟩ := hS j hj
        exact ⟨b1, ⟨by rw [b2.e, a4 (by omega)], b2.n, b2.f, b2.l⟩⟩
      split at h
      · rename_i hl
        refine ⟨(lvX D J (J.used + k)).e, k + 1, fun j => lvX D J (J.used + j), by omega, fun j hj => ?_⟩
        by_cases hjk : j = k
        · subst hjk
          refine ⟨?_, ⟨rfl, a2, a3, ?_⟩⟩
          · have := lv_at hf a1
            rwa [← Nat.add_assoc] at this
          · rw [hl, decide_eq_true rfl]
        · obtain ⟨b1, b2⟩ := hS' j (by omega)
          refine ⟨?_, ⟨b2.e, b2.n, b2.f, ?_⟩⟩
          · have := lv_at hf b1
            rwa [← Nat.add_assoc] at this
          · rw [b2.l, decide_eq_false (by omega)]
      · rename_i hl
        refine tkF_whole hf f (k + 1) _ _ (fun j hj => ?_) h
        by_cases hjk : j = k
        · subst hjk
          exact ⟨a1, ⟨rfl, a2, a3, by simpa using hl⟩⟩
        · exact hS' j (by omega)
    · cases h
theorem tkF_no : ∀ f k b e, (tkF D J f k b e).1 = false → ∃ e', (tkF D J f k b e).2 = { J with ep := e' }
  | 0, k, b, e, _ => ⟨_, rfl⟩
  | f + 1, k, b, e, h => by
    unfold tkF at h ⊢
    split at h
    · rename_i hN
      rw [if_pos hN]
      split at h
      · cases h
      · rename_i hl
        rw [if_neg hl]
        exact tkF_no f _ _ _ h
    · rename_i hN
      rw [if_neg hN]
      exact ⟨_, rfl⟩
theorem take_no (hf : J.frm + J.n ≤ D.b.length) (h : NoRec D.b (J.frm + J.used) J.recs.length) : ∃ e, J.take D = (false, { J with ep := e }) := by
  have h1 : (J.take D).1 = false := by
    cases hT : (J.take D).1 with
    | false => rfl
    | true =>
      obtain ⟨e, m, y, hW⟩ := tkF_whole hf _ 0 _ _ (fun j hj => absurd hj (by omega)) hT
      exact absurd hW (h e m y)
  obtain ⟨e, he⟩ := tkF_no _ _ _ _ h1
  exact ⟨e, Prod.ext h1 he⟩
abbrev ERec := BitVec 32 × Txt
def Laid (A : List Sec) (frm : Nat) : Nat → Nat → BitVec 32 → List ERec → Prop
  | _, _, _, [] => True
  | num, u, la, (e, b) :: L => RecAt' A e num (frm + u) b ∧ e ≠ 0#32 ∧ la.toNat ≤ e.toNat ∧ b ≠ [] ∧ Laid A frm (num + 1) (u + needN b.length) e L
def noteE : JD → List ERec → JD
  | J, [] => J
  | J, (e, b) :: L => noteE (({ J with ep := e } : JD).note b (needN b.length)) L
def rec2 (L : List ERec) : List Txt := L.map (·.2)
def sumE (L : List ERec) : Nat := sumN (rec2 L)
theorem rec2_app {L M : List ERec} : rec2 (L ++ M) = rec2 L ++ rec2 M := List.map_append
theorem sumE_app {L M : List ERec} : sumE (L ++ M) = sumE L + sumE M := by unfold sumE; rw [rec2_app, sumN_app]
theorem noteE_facts : ∀ (L : List ERec) (J : JD), (noteE J L).recs = J.recs ++ rec2 L ∧ (noteE J L).used = J.used + sumE L ∧ (noteE J L).n = J.n ∧ (noteE J L).frm = J.frm ∧ (noteE J L).dead = J.dead
  | [], J => ⟨by simp [noteE, rec2], by simp [noteE, sumE, sumN, rec2], rfl, rfl, rfl⟩
  | (e, b) :: L, J => by
    obtain ⟨h1, h2, h3, h4, h5⟩ := noteE_facts L (({ J with ep := e } : JD).note b (needN b.length))
    refine ⟨?_, ?_, h3, h4, h5⟩
    · show (noteE (({ J with ep := e } : JD).note b (needN b.length)) L).recs = _
      rw [h1]; show (J.recs ++ [b]) ++ rec2 L = _; rw [List.append_assoc]; rfl
    · show (noteE (({ J with ep := e } : JD).note b (needN b.length)) L).used = _
      rw [h2]; show J.used + needN b.length + sumE L = J.used + (needN b.length + sumN (rec2 L)); unfold sumE; omega
theorem tksF_laid {frm : Nat} : ∀ (L : List ERec) (J : JD) (f : Nat), J.frm = frm → J.frm + J.n ≤ D.b.length → Laid D.b frm J.recs.length J.used J.la L → J.used + sumE L ≤ J.n → J.recs.length + L.length < 2 ^ 32 → L.length + 1 ≤ f →
    NoRec D.b (frm + (J.used + sumE L)) (J.recs.length + L.length) → ∃ e, tksF D f J = { noteE J L with ep := e }
  | [], J, f, hfr, hl, _, _, _, hf, hs => by
    obtain ⟨f, rfl⟩ : ∃ g, f = g + 1 := ⟨f - 1, by simp at hf; omega⟩
    have hs' : NoRec D.b (J.frm + J.used) J.recs.length := by
      have e1 : sumE [] = 0 := rfl
      rw [e1] at hs
      rw [hfr]; simpa using hs
    obtain ⟨e, he⟩ := take_no hl hs'
    refine ⟨e, ?_⟩
    unfold tksF
    rw [he]
    rfl
  | (e, b) :: L, J, f, hfr, hl, hL, hn, hrl, hf, hs => by
    obtain ⟨f, rfl⟩ : ∃ g, f = g + 1 := ⟨f - 1, by simp at hf; omega⟩
    obtain ⟨h1, h2, h3, h4, h5⟩ := hL
    have hsum : sumE ((e, b) :: L) = needN b.length + sumE L := rfl
    have et := take_rec (D := D) (J := J) (ep := e) h2 h4 (recAt_of (by rw [hfr]; exact h1)) (by omega) (by omega) (by simp at hrl; omega)
    have hr1 : (J.recs ++ [b]).length = J.recs.length + 1 := by simp
    obtain ⟨e', he'⟩ := tksF_laid (frm := frm) L (({ J with ep := e } : JD).note b (needN b.length)) f hfr hl (by show Laid D.b frm (J.recs ++ [b]).length (J.used + needN b.length) e L; rw [hr1]; exact h5)
      (by show J.used + needN b.length + sumE L ≤ J.n; omega) (by show (J.recs ++ [b]).length + L.length < 2 ^ 32; rw [hr1]; simp at hrl; omega) (by simp at hf; omega)
      (by show NoRec D.b (frm + (J.used + needN b.length + sumE L)) ((J.recs ++ [b]).length + L.length); rw [hr1, show J.used + needN b.length + sumE L = J.used + sumE ((e, b) :: L) by omega, show J.recs.length + 1 + L.length = J.recs.length + ((e, b) :: L).length by simp; omega]; exact hs)
    refine ⟨e', ?_⟩
    unfold tksF
    rw [et]
    simp only [if_true]
    exact he'
theorem laid_len {A : List Sec} {frm : Nat} : ∀ {L : List ERec} {num u : Nat} {la : BitVec 32}, Laid A frm num u la L → L.length ≤ sumE L
  | [], _, _, _, _ => Nat.zero_le _
  | (e, b) :: L, num, u, la, h => by
    have := laid_len h.2.2.2.2
    have := needN_pos' h.2.2.2.1
    show L.length + 1 ≤ needN b.length + sumE L
    omega
theorem laid_ne {A : List Sec} {frm : Nat} : ∀ {L : List ERec} {num u : Nat} {la : BitVec 32}, Laid A frm num u la L → ∀ b ∈ rec2 L, b ≠ []
  | [], _, _, _, _ => fun b hb => by cases hb
  | (e, c) :: L, num, u, la, h => fun b hb => by
    have hb' : b ∈ c :: rec2 L := hb
    rcases List.mem_cons.1 hb' with rfl | h'
    · exact h.2.2.2.1
    · exact laid_ne h.2.2.2.2 b h'
theorem open_laid {frm : Nat} {L : List ERec} {ep : BitVec 32} (hl : frm + n ≤ D.b.length) (hL : Laid D.b frm 0 0 0#32 L) (hn : sumE L ≤ n) (h32 : n < 2 ^ 31) (hs : NoRec D.b (frm + sumE L) L.length) :
    (openJ D frm n ep).recs = rec2 L ∧ (openJ D frm n ep).used = sumE L ∧ (openJ D frm n ep).n = n ∧ (openJ D frm n ep).frm = frm ∧ (openJ D frm n ep).dead = false ∧ (openJ D frm n ep).ep = ep := by
  have hle := laid_len hL
  obtain ⟨e, he⟩ := tksF_laid (D := D) (frm := frm) L (newJ frm n ep) (n + 1) rfl hl hL (by show 0 + sumE L ≤ n; omega) (by show 0 + L.length < _; omega) (by omega) (by
    show NoRec D.b (frm + (0 + sumE L)) (0 + L.length)
    rw [Nat.zero_add, Nat.zero_add]; exact hs)
  obtain ⟨h1, h2, h3, h4, h5⟩ := noteE_facts L (newJ frm n ep)
  unfold openJ
  rw [he]
  refine ⟨?_, ?_, h3, h4, h5, rfl⟩
  · show (noteE (newJ frm n ep) L).recs = _; rw [h1]; rfl
  · show (noteE (newJ frm n ep) L).used = _; rw [h2]; show 0 + sumE L = _; omega
theorem laid_app {A A' : List Sec} {frm : Nat} : ∀ {L : List ERec} {num u : Nat} {la e : BitVec 32} {b : Txt}, Laid A frm num u la L → (∀ t, t < frm + (u + sumE L) → A'[t]? = A[t]?) → e ≠ 0#32 → b ≠ [] → la.toNat ≤ e.toNat → (∀ p ∈ L, p.1.toNat ≤ e.toNat) →
    RecAt' A' e (num + L.length) (frm + (u + sumE L)) b → Laid A' frm num u la (L ++ [(e, b)])
  | [], num, u, la, e, b, _, _, he, hb, hla, _, hR => ⟨by simpa [sumE, sumN, rec2] using hR, he, hla, hb, trivial⟩
  | (e1, c) :: L, num, u, la, e, b, hL, hA, he, hb, hla, hp, hR => by
    obtain ⟨h1, h2, h3, h4, h5⟩ := hL
    have hsum : sumE ((e1, c) :: L) = needN c.length + sumE L := rfl
    refine ⟨fun k hk => ?_, h2, h3, h4, laid_app h5 (fun t ht => hA t (by omega)) he hb (hp (e1, c) (by simp)) (fun p h => hp p (by simp [h])) ?_⟩
    · rw [hA _ (by omega)]; exact h1 k hk
    · rw [show num + 1 + L.length = num + ((e1, c) :: L).length by simp; omega, show u + needN c.length + sumE L = u + sumE ((e1, c) :: L) by omega]
      exact hR
theorem laid_cong {A A' : List Sec} {frm : Nat} : ∀ {L : List ERec} {num u : Nat} {la : BitVec 32}, Laid A frm num u la L → (∀ t, t < frm + (u + sumE L) → A'[t]? = A[t]?) → Laid A' frm num u la L
  | [], _, _, _, _, _ => trivial
  | (e1, c) :: L, num, u, la, hL, hA => by
    obtain ⟨h1, h2, h3, h4, h5⟩ := hL
    have hsum : sumE ((e1, c) :: L) = needN c.length + sumE L := rfl
    exact ⟨fun k hk => by rw [hA _ (by omega)]; exact h1 k hk, h2, h3, h4, laid_cong h5 fun t ht => hA t (by omega)⟩
end Go.AM
namespace Go.AM
variable {D : DskD} {J : JD} {n : Nat} {A : List Sec} {u w : Nat} {f : Nat → Sec}
structure Half (n : Nat) (D : DskD) (A : List Sec) (u w : Nat) (f : Nat → Sec) : Prop where
  z : Siz D n
  a : D.a = A
  b : ∀ t, t < n → if u ≤ t ∧ t < u + w then D.b[t]? = some (f (t - u)) ∧ D.l[t]? = some true else D.b[t]? = A[t]? ∧ D.l[t]? = some false
theorem Half.of0 (h : Half n D A u 0 f) : D.b = A := by
  have hz := h.z
  have hA : A.length = n := by rw [← h.a]; exact hz.a
  refine List.ext_getElem? fun t => ?_
  by_cases ht : t < n
  · have := h.b t ht
    rw [if_neg (by omega)] at this
    exact this.1
  · rw [List.getElem?_eq_none (by have := hz.b; omega), List.getElem?_eq_none (by omega)]
theorem Half.any0 (h : Half n D A u 0 f) {u' : Nat} {f' : Nat → Sec} : Half n D A u' 0 f' := ⟨h.z, h.a, fun t ht => by
  have := h.b t ht
  rw [if_neg (by omega)] at this ⊢
  exact this⟩
theorem write_half (h : Half n D A u w f) (ho : D.off = false) (hw : u + w < n) :
    ((writeE D ((u + w : Nat) : Int) = 0 ∧ (D.write ((u + w : Nat) : Int) (f w)).off = false) ∨ writeE D ((u + w : Nat) : Int) = 9) ∧ Half n (D.write ((u + w : Nat) : Int) (f w)) A u (w + 1) f := by
  have hz := h.z
  have hm : mayE D ((u + w : Nat) : Int) = 0 := by
    unfold mayE; rw [ho, if_neg (by simp), if_neg (by have := hz.b; omega)]
  have hW : D.write ((u + w : Nat) : Int) (f w) = (D.put (u + w) (f w)).hit := by
    unfold DskD.write; rw [if_pos hm, Int.toNat_natCast]
  refine ⟨?_, ⟨hz.write, ?_, fun t ht => ?_⟩⟩
  · unfold writeE
    rw [if_pos hm, hW]
    cases hh : D.hits with
    | true => exact .inr rfl
    | false =>
      refine .inl ⟨rfl, ?_⟩
      unfold DskD.hit
      split
      · exact ho
      · exact hh
  · rw [hW]
    have : (D.put (u + w) (f w)).hit.a = D.a := by unfold DskD.hit; split <;> rfl
    rw [this, h.a]
  · rw [hW]
    have e1 : (D.put (u + w) (f w)).hit.b = D.b.set (u + w) (f w) := by unfold DskD.hit; split <;> rfl
    have e2 : (D.put (u + w) (f w)).hit.l = D.l.set (u + w) true := by unfold DskD.hit; split <;> rfl
    rw [e1, e2, List.getElem?_set, List.getElem?_set]
    have := h.b t ht
    by_cases h1 : u + w = t
    · subst h1
      rw [if_pos (by omega), if_pos rfl, if_pos rfl, if_pos (by rw [hz.b]; omega), if_pos (by rw [hz.l]; omega), show u + w - u = w by omega]
      exact ⟨rfl, rfl⟩
    · rw [if_neg h1, if_neg h1]
      by_cases h2 : u ≤ t ∧ t < u + w
      · rw [if_pos h2] at this; rw [if_pos (by omega)]; exact this
      · rw [if_neg h2] at this; rw [if_neg (by omega)]; exact this
theorem sync_half (h : Half n D A u w f) (ho : D.off = false) (h0 : 0 < n) : (writeE D 0 = 0 ∧ D.sync.off = false ∧ Half n D.sync D.b u 0 f) ∨ (writeE D 0 = 9 ∧ Half n D.sync A u w f) := by
  have hz := h.z
  have hm : mayE D 0 = 0 := by
    unfold mayE; rw [ho, if_neg (by simp), if_neg (by have := hz.b; omega)]
  unfold writeE DskD.sync
  rw [if_pos hm, if_pos hm]
  cases hh : D.hits with
  | true =>
    refine .inr ⟨rfl, ?_⟩
    have e1 : D.hit.b = D.b := by unfold DskD.hit; split <;> rfl
    have e2 : D.hit.l = D.l := by unfold DskD.hit; split <;> rfl
    have e3 : D.hit.a = D.a := by unfold DskD.hit; split <;> rfl
    exact ⟨hz.hit, by show D.hit.a = A; rw [e3, h.a], fun t ht => by show if _ then D.hit.b[t]? = _ ∧ D.hit.l[t]? = _ else D.hit.b[t]? = _ ∧ D.hit.l[t]? = _; rw [e1, e2]; exact h.b t ht⟩
  | false =>
    have e1 : D.hit.b = D.b := by unfold DskD.hit; split <;> rfl
    refine .inl ⟨rfl, ?_, ⟨⟨hz.b, hz.hit.b, by simp [hz.l], hz.hit.armed⟩, rfl, fun t ht => ?_⟩⟩
    · show D.hit.off = false
      unfold DskD.hit
      split
      · exact ho
      · exact hh
    · rw [if_neg (by omega)]
      exact ⟨by show D.hit.b[t]? = _; rw [e1], by show (List.replicate D.l.length false)[t]? = _; rw [List.getElem?_replicate, if_pos (by rw [hz.l]; exact ht)]⟩
theorem layF_half {at' : Nat → Int} (ha : ∀ j, at' j = ((u + j : Nat) : Int)) (h0 : 0 < n) : ∀ (m i : Nat) {D : DskD}, Half n D A u i f → D.off = false → u + i + m ≤ n →
    ((layF D at' f i m).1 = 0 ∧ (layF D at' f i m).2.off = false ∧ ∃ A', Half n (layF D at' f i m).2 A' u 0 f ∧ ∀ t, A'[t]? = if u ≤ t ∧ t < u + (i + m) then some (f (t - u)) else A[t]?) ∨
    ((layF D at' f i m).1 = 9 ∧ ∃ w, w ≤ i + m ∧ Half n (layF D at' f i m).2 A u w f)
  | 0, i, D, h, ho, hm => by
    unfold layF
    rcases sync_half h ho h0 with ⟨a1, a2, a3⟩ | ⟨a1, a2⟩
    · refine .inl ⟨a1, a2, D.b, a3, fun t => ?_⟩
      have hz := h.z
      by_cases ht : t < n
      · have := h.b t ht
        by_cases h2 : u ≤ t ∧ t < u + i
        · rw [if_pos h2] at this; rw [if_pos (by omega)]; exact this.1
        · rw [if_neg h2] at this; rw [if_neg (by omega)]; exact this.1
      · have hA : A.length = n := by rw [← h.a]; exact hz.a
        rw [if_neg (by omega), List.getElem?_eq_none (by have := hz.b; omega), List.getElem?_eq_none (by omega)]
    · exact .inr ⟨a1, i, by omega, a2⟩
  | m + 1, i, D, h, ho, hm => by
    obtain ⟨c, h'⟩ := write_half h ho (by omega)
    unfold layF
    rw [ha i]
    rcases c with ⟨c1, c2⟩ | c1
    · rw [if_pos c1]
      have := layF_half ha h0 m (i + 1) h' c2 (by omega)
      rw [show i + 1 + m = i + (m + 1) by omega] at this
      exact this
    · rw [if_neg (by omega)]
      exact .inr ⟨c1, i + 1, by omega, h'⟩
theorem settle_at {K : Nat → Int} (z : Siz D n) : ∀ m, m ≤ n → (∀ t, m ≤ t → (settleN K D m).1.a[t]? = D.a[t]? ∧ (settleN K D m).1.b[t]? = D.b[t]? ∧ (settleN K D m).1.l[t]? = D.l[t]?) ∧
    (∀ t, t < m → (settleN K D m).1.l[t]? = some false ∧ (D.l[t]? = some true → ∃ c, (settleN K D m).1.a[t]? = some (mixS c (D.a.getD t zsec) (D.b.getD t zsec)) ∧ (settleN K D m).1.b[t]? = (settleN K D m).1.a[t]?) ∧
      (D.l[t]? = some false → (settleN K D m).1.a[t]? = D.a[t]? ∧ (settleN K D m).1.b[t]? = D.b[t]?))
  | 0, _ => ⟨fun _ _ => ⟨rfl, rfl, rfl⟩, fun t ht => absurd ht (by omega)⟩
  | m + 1, hm => by
    obtain ⟨i1, i2⟩ := settle_at (K := K) z m (by omega)
    obtain ⟨l1, l2, l3, _⟩ := settleN_len (D := D) (K := K) m
    have za := z.a; have zb := z.b; have zl := z.l
    have hlm : (settleN K D m).1.l[m]? = D.l[m]? := (i1 m (Nat.le_refl _)).2.2
    have hga : (settleN K D m).1.a.getD m zsec = D.a.getD m zsec := by rw [List.getD_eq_getElem?_getD, List.getD_eq_getElem?_getD, (i1 m (Nat.le_refl _)).1]
    have hgb : (settleN K D m).1.b.getD m zsec = D.b.getD m zsec := by rw [List.getD_eq_getElem?_getD, List.getD_eq_getElem?_getD, (i1 m (Nat.le_refl _)).2.1]
    obtain ⟨x, hx⟩ : ∃ x, D.l[m]? = some x := ⟨_, List.getElem?_eq_getElem (by omega)⟩
    have hgl : (settleN K D m).1.l.getD m false = x := by rw [List.getD_eq_getElem?_getD, hlm, hx]; rfl
    unfold settleN
    simp only [hgl]
    cases x with
    | false =>
      simp only [Bool.false_eq_true, if_false]
      refine ⟨fun t ht => i1 t (by omega), fun t ht => ?_⟩
      by_cases htm : t = m
      · subst htm
        obtain ⟨j1, j2, j3⟩ := i1 t (Nat.le_refl _)
        exact ⟨by rw [j3, hx], fun h => (by rw [hx] at h; cases h), fun _ => ⟨j1, j2⟩⟩
      · exact i2 t (by omega)
    | true =>
      simp only [if_true, hga, hgb]
      refine ⟨fun t ht => ?_, fun t ht => ?_⟩
      · rw [List.getElem?_set_ne (by omega), List.getElem?_set_ne (by omega), List.getElem?_set_ne (by omega)]
        exact i1 t (by omega)
      · by_cases htm : t = m
        · subst htm
          rw [List.getElem?_set_self (by omega), List.getElem?_set_self (by omega), List.getElem?_set_self (by omega)]
          exact ⟨rfl, fun _ => ⟨_, rfl, rfl⟩, fun h => (by rw [hx] at h; cases h)⟩
        · rw [List.getElem?_set_ne (by omega), List.getElem?_set_ne (by omega), List.getElem?_set_ne (by omega)]
          exact i2 t (by omega)
theorem settle_half {K : Nat → Int} (h : Half n D A u w f) : ∃ A', Half n (D.settle K) A' u 0 f ∧ ∀ t, t < n → if u ≤ t ∧ t < u + w then ∃ c, A'[t]? = some (mixS c (A.getD t zsec) (f (t - u))) else A'[t]? = A[t]? := by
  have hz := h.z
  obtain ⟨_, i2⟩ := settle_at (K := K) hz n (Nat.le_refl _)
  have hb : D.b.length = n := hz.b
  have ha := h.a
  refine ⟨(D.settle K).a, ⟨hz.settle, rfl, fun t ht => ?_⟩, fun t ht => ?_⟩
  · rw [if_neg (by omega)]
    obtain ⟨j1, j2, j3⟩ := i2 t ht
    have hB := h.b t ht
    unfold DskD.settle
    rw [hb]
    refine ⟨?_, j1⟩
    by_cases h2 : u ≤ t ∧ t < u + w
    · rw [if_pos h2] at hB
      obtain ⟨c, k1, k2⟩ := j2 hB.2
      exact k2
    · rw [if_neg h2] at hB
      obtain ⟨k1, k2⟩ := j3 hB.2
      show (settleN K D n).1.b[t]? = (settleN K D n).1.a[t]?
      rw [k1, k2, hB.1, ha]
  · obtain ⟨j1, j2, j3⟩ := i2 t ht
    have hB := h.b t ht
    unfold DskD.settle
    rw [hb]
    by_cases h2 : u ≤ t ∧ t < u + w
    · rw [if_pos h2] at hB ⊢
      obtain ⟨c, k1, k2⟩ := j2 hB.2
      refine ⟨c, ?_⟩
      show (settleN K D n).1.a[t]? = _
      rw [k1, ha]
      have : D.b.getD t zsec = f (t - u) := by rw [List.getD_eq_getElem?_getD, hB.1]; rfl
      rw [this]
    · rw [if_neg h2] at hB ⊢
      obtain ⟨k1, k2⟩ := j3 hB.2
      show (settleN K D n).1.a[t]? = _
      rw [k1, ha]
theorem crash_half {ks : List Int} (h : Half n D A u w f) : ∃ A', Half n (D.crash ks).start A' u 0 f ∧ (D.crash ks).start.off = false ∧ (D.crash ks).start.armed = 0 ∧ ∀ t, t < n → if u ≤ t ∧ t < u + w then ∃ c, A'[t]? = some (mixS c (A.getD t zsec) (f (t - u))) else A'[t]? = A[t]? := by
  obtain ⟨A1, h1, k1⟩ := settle_half (K := keepAt ks) h
  have h1' : Half n (D.crash ks) A1 u 0 f := ⟨⟨h1.z.a, h1.z.b, h1.z.l, h1.z.armed⟩, h1.a, h1.b⟩
  obtain ⟨A2, h2, k2⟩ := settle_half (K := fun _ => 0) h1'
  have e : (D.crash ks).start = { (D.crash ks).settle (fun _ => 0) with off := false } := by
    unfold DskD.start; exact if_pos rfl
  refine ⟨A2, ?_, ?_, ?_, fun t ht => ?_⟩
  · rw [e]; exact ⟨⟨h2.z.a, h2.z.b, h2.z.l, h2.z.armed⟩, h2.a, h2.b⟩
  · rw [e]
  · rw [e]; rfl
  · have q := k2 t ht
    rw [if_neg (by omega)] at q
    rw [q]
    exact k1 t ht
end Go.AM
namespace Go.AM
variable {D : DskD} {J : JD} {n E : Nat} {A A' : List Sec} {L : List ERec}
structure KI (n E : Nat) (A : List Sec) (L : List ERec) : Prop where
  len : A.length = n
  laid : Laid A 0 0 0 0#32 L
  ep : ∀ p ∈ L, p.1.toNat ≤ E
  fit : sumE L ≤ n
  tg : ∀ i s, sumE L ≤ i → A[i]? = some s → Tg E s
  num : ∀ i y, sumE L ≤ i → LeafAt A i y → y.n.toNat ≤ L.length
  no : NoRec A (sumE L) L.length
theorem KI.mono {F : Nat} (h : KI n E A L) (hf : E ≤ F) : KI n F A L := ⟨h.len, h.laid, fun p hp => by have := h.ep p hp; omega, h.fit, fun i s hi hs => (h.tg i s hi hs).mono hf, h.num, h.no⟩
theorem epW_nat {e : Nat} (h : e < 256) : (epW e).toNat = e := by unfold epW; rw [BitVec.toNat_ofNat, Nat.mod_eq_of_lt (by omega)]
theorem KI.add {b : Txt} (h : KI n E A L) (h1 : 1 ≤ E) (hE : E < 256) (hb : b ≠ []) (hn : sumE L + needN b.length ≤ n) (hl : A'.length = n)
    (hA : ∀ t, A'[t]? = if sumE L ≤ t ∧ t < sumE L + needN b.length then some (secK (epW E) L.length (needN b.length) b (t - sumE L)) else A[t]?) : KI n E A' (L ++ [(epW E, b)]) := by
  have hs : sumE (L ++ [(epW E, b)]) = sumE L + needN b.length := by rw [sumE_app]; show sumE L + (needN b.length + 0) = _; omega
  have hpos := needN_pos' hb
  have hnum : ∀ i y, sumE L + needN b.length ≤ i → LeafAt A' i y → y.n.toNat ≤ L.length := fun i y hi ⟨s, k1, k2, k3⟩ => by
    rw [hA, if_neg (by omega)] at k1
    exact h.num i y (by omega) ⟨s, k1, k2, k3⟩
  refine ⟨hl, laid_app h.laid (fun t ht => ?_) (epW_ne h1 (by omega)) hb (Nat.zero_le _) (fun p hp => by rw [epW_nat hE]; exact h.ep p hp) (fun k hk => ?_), fun p hp => ?_, by rw [hs]; exact hn, fun i s hi hs' => ?_, fun i y hi hy => ?_, fun e m y hW => ?_⟩
  · rw [hA, if_neg (by omega)]
  · rw [hA, if_pos (by omega)]
    congr 2 <;> omega
  · rcases List.mem_append.1 hp with h' | h'
    · exact h.ep p h'
    · simp only [List.mem_singleton] at h'; subst h'; show (epW E).toNat ≤ E; rw [epW_nat hE]; exact Nat.le_refl _
  · rw [hs] at hi
    rw [hA, if_neg (by omega)] at hs'
    exact h.tg i s (by omega) hs'
  · rw [hs] at hi
    have := hnum i y hi hy
    simp; omega
  · rw [hs] at hW
    obtain ⟨hm, hk⟩ := hW
    obtain ⟨k1, k2⟩ := hk 0 (by omega)
    have := hnum _ _ (by omega) k1
    have h2 := k2.n
    simp at h2; omega
theorem secK_right {e : BitVec 32} {num k : Nat} {b : Txt} (he : e ≠ 0#32) (hb : b ≠ []) (hk : k < needN b.length) : (leafK e num (needN b.length) b k).right = true ∧ (secK e num (needN b.length) b k).1 = (leafK e num (needN b.length) b k).bytes := ⟨leafK_right he hb hk, secK_bytes⟩
theorem KI.crash {b : Txt} {w : Nat} (h : KI n E A L) (h1 : 1 ≤ E) (hE : E < 256) (hb : b ≠ []) (hL : L.length < 2 ^ 32) (hw : w ≤ needN b.length) (hn : sumE L + needN b.length ≤ n) (hl : A'.length = n)
    (hA : ∀ t, t < n → if sumE L ≤ t ∧ t < sumE L + w then ∃ c, A'[t]? = some (mixS c (A.getD t zsec) (secK (epW E) L.length (needN b.length) b (t - sumE L))) else A'[t]? = A[t]?) :
    KI n (E + 1) A' L ∨ KI n (E + 1) A' (L ++ [(epW E, b)]) := by
  have hne := epW_ne h1 (show E ≤ 1000 by omega)
  have hlen := h.len
  have hold : ∀ t, t < n → A[t]? = some (A.getD t zsec) := fun t ht => by rw [List.getD_eq_getElem?_getD, List.getElem?_eq_getElem (by omega)]; rfl
  have key : ∀ t, sumE L ≤ t → t < n → ∃ s, A'[t]? = some s ∧ Tg (E + 1) s ∧
      ((t < sumE L + w ∧ s = secK (epW E) L.length (needN b.length) b (t - sumE L)) ∨ A'[t]? = A[t]? ∨ takeOK s.1 = false) := fun t h2 ht => by
    have q := hA t ht
    have hT := h.tg t _ h2 (hold t ht)
    by_cases hr : t < sumE L + w
    · rw [if_pos ⟨h2, hr⟩] at q
      obtain ⟨c, hc⟩ := q
      obtain ⟨r1, r2⟩ := secK_right (num := L.length) (b := b) (k := t - sumE L) hne hb (by omega)
      obtain ⟨m1, m2⟩ := mix_leaf (k := c) h1 hE r1 rfl r2 hT
      refine ⟨_, hc, m1, ?_⟩
      rcases m2 with m | m | m
      · exact .inl ⟨hr, m⟩
      · refine .inr (.inl ?_)
        rw [hc, m, hold t ht]
      · exact .inr (.inr m)
    · rw [if_neg (by omega)] at q
      exact ⟨_, q.trans (hold t ht), hT.mono (by omega), .inr (.inl q)⟩
  have hlow : ∀ t, t < sumE L → A'[t]? = A[t]? := fun t ht => by
    have hf := h.fit
    have q := hA t (by omega)
    rw [if_neg (by omega)] at q
    exact q
  have htg : ∀ i s, sumE L ≤ i → A'[i]? = some s → Tg (E + 1) s := fun i s hi hs => by
    have hin : i < n := by have := lt_of_get hs; omega
    obtain ⟨s', e', t', _⟩ := key i hi hin
    rw [hs] at e'; cases e'; exact t'
  have hlaid : Laid A' 0 0 0 0#32 L := laid_cong h.laid fun t ht => hlow t (by omega)
  have hep : ∀ p ∈ L, p.1.toNat ≤ E + 1 := fun p hp => by have := h.ep p hp; omega
  have hleaf : ∀ i y, sumE L ≤ i → LeafAt A' i y → (i < sumE L + w ∧ y = leafK (epW E) L.length (needN b.length) b (i - sumE L) ∧ A'[i]? = some (secK (epW E) L.length (needN b.length) b (i - sumE L))) ∨ LeafAt A i y := fun i y hi hy => by
    obtain ⟨s, k1, k2, k3⟩ := hy
    have hin : i < n := by have := lt_of_get k1; omega
    obtain ⟨s', e', t', c⟩ := key i hi hin
    rw [k1] at e'; cases e'
    rcases c with ⟨c1, c2⟩ | c | c
    · left
      obtain ⟨r1, r2⟩ := secK_right (e := epW E) (num := L.length) (b := b) (k := i - sumE L) hne hb (by omega)
      refine ⟨c1, ?_, by rw [k1, c2]⟩
      have a1 := takeX_bytes k2
      have a2 := takeX_bytes r1
      rw [← k3, c2, r2] at a1
      exact a1.symm.trans a2
    · right; exact ⟨s, by rw [← c, k1], k2, k3⟩
    · rw [k3, takeOK_bytes k2] at c; cases c
  have hnum : ∀ i y, sumE L ≤ i → LeafAt A' i y → y.n.toNat ≤ L.length := fun i y hi hy => by
    rcases hleaf i y hi hy with ⟨_, e, _⟩ | h'
    · rw [e]; show (BitVec.ofNat 32 L.length).toNat ≤ _; rw [BitVec.toNat_ofNat]; exact Nat.mod_le _ _
    · exact h.num i y hi h'
  by_cases hall : w = needN b.length ∧ ∀ k, k < needN b.length → A'[sumE L + k]? = some (secK (epW E) L.length (needN b.length) b k)
  · right
    obtain ⟨hw', hk⟩ := hall
    have hs : sumE (L ++ [(epW E, b)]) = sumE L + needN b.length := by rw [sumE_app]; show sumE L + (needN b.length + 0) = _; omega
    have hpos := needN_pos' hb
    refine ⟨hl, laid_app h.laid (fun t ht => hlow t (by omega)) hne hb (Nat.zero_le _) (fun p hp => by rw [epW_nat hE]; exact h.ep p hp) (fun k hk' => ?_), fun p hp => ?_, by rw [hs]; exact hn, fun i s hi hs' => htg i s (by omega) hs', fun i y hi hy => ?_, fun e m y hW => ?_⟩
    · rw [Nat.zero_add, Nat.zero_add, Nat.zero_add]; exact hk k hk'
    · rcases List.mem_append.1 hp with h' | h'
      · exact hep p h'
      · simp only [List.mem_singleton] at h'; subst h'; show (epW E).toNat ≤ E + 1; rw [epW_nat hE]; omega
    · have := hnum i y (by omega) hy; simp; omega
    · rw [hs] at hW
      obtain ⟨hm, hk2⟩ := hW
      obtain ⟨k1, k2⟩ := hk2 0 (by omega)
      have := hnum _ _ (by omega) k1
      have h2 := k2.n
      simp at h2; omega
  · left
    refine ⟨hl, hlaid, hep, h.fit, htg, hnum, fun e m y hW => ?_⟩
    obtain ⟨hm, hk⟩ := hW
    by_cases he : e = epW E
    · -- all of them are of this record
      have hnew : ∀ k, k < m → sumE L + k < sumE L + w ∧ y k = leafK (epW E) L.length (needN b.length) b k ∧ A'[sumE L + k]? = some (secK (epW E) L.length (needN b.length) b k) := fun k hkm => by
        obtain ⟨k1, k2⟩ := hk k hkm
        rcases hleaf _ _ (by omega) k1 with h' | ⟨s, s1, s2, s3⟩
        · rw [show sumE L + k - sumE L = k by omega] at h'; exact h'
        · have hT := h.tg _ s (by omega) s1
          have := (leaf_e hT s2 s3).1
          rw [k2.e, he] at this
          have h3 := hT.h3
          have := epW_inj hE (by omega) this
          omega
      obtain ⟨l1, l2, _⟩ := hnew (m - 1) (by omega)
      have hl2 := (hk (m - 1) (by omega)).2.l
      rw [l2] at hl2
      have : decide (m - 1 = needN b.length - 1) = decide (m - 1 + 1 = m) := hl2
      rw [show m - 1 + 1 = m by omega, decide_eq_true (rfl : m = m), decide_eq_true_iff] at this
      have hpos := needN_pos' hb
      exact hall ⟨by omega, fun k hk' => (hnew k (by omega)).2.2⟩
    · refine h.no e m y ⟨hm, fun k hkm => ?_⟩
      obtain ⟨k1, k2⟩ := hk k hkm
      refine ⟨?_, k2⟩
      rcases hleaf _ _ (by omega) k1 with ⟨_, h', _⟩ | h'
      · exfalso
        have := k2.e
        rw [h'] at this
        exact he this.symm
      · exact h'
structure PK (n E : Nat) (D : DskD) (J : JD) (A : List Sec) (L : List ERec) : Prop where
  h : Half n D A (sumE L) 0 (fun _ => zsec)
  off : D.off = false
  k : KI n E A L
  recs : J.recs = rec2 L
  used : J.used = sumE L
  jn : J.n = n
  frm : J.frm = 0
  ep : J.ep = epW E
  dead : J.dead = false
structure PEnd (n E : Nat) (D : DskD) (L : List ERec) (c : Option Txt) : Prop where
  z : Siz D n
  cr : ∀ ks, ∃ A', Half n (D.crash ks).start A' 0 0 (fun _ => zsec) ∧ (D.crash ks).start.off = false ∧ (KI n (E + 1) A' L ∨ ∃ b, c = some b ∧ KI n (E + 1) A' (L ++ [(epW E, b)]))
theorem PK.pend (h : PK n E D J A L) {c : Option Txt} : PEnd n E D L c := ⟨h.h.z, fun ks => by
  obtain ⟨A', h1, h2, _, h3⟩ := crash_half (ks := ks) h.h
  refine ⟨A', h1.any0, h2, .inl ?_⟩
  have hA : A' = A := by
    refine List.ext_getElem? fun t => ?_
    by_cases ht : t < n
    · have := h3 t ht
      rw [if_neg (by omega)] at this
      exact this
    · have e1 : A'.length = n := by rw [← h1.a]; exact h1.z.a
      rw [List.getElem?_eq_none (by omega), List.getElem?_eq_none (by rw [h.k.len]; omega)]
  rw [hA]; exact h.k.mono (by omega)⟩
theorem laid_llen (h : KI n E A L) (hn : n < 2 ^ 30) : L.length < 2 ^ 30 := by
  have := laid_len h.laid
  have := h.fit
  omega
theorem PK.add {b : Txt} (h : PK n E D J A L) (h1 : 1 ≤ E) (hE : E < 256) (h0 : 0 < n) (h30 : n < 2 ^ 30) (hb : b ≠ []) (hbl : b.length ≤ 400000) :
    ((J.add D b).1 = 0 ∧ ∃ A', PK n E (J.add D b).2.1 (J.add D b).2.2 A' (L ++ [(epW E, b)])) ∨ ((J.add D b).1 ≠ 0 ∧ PEnd n E (J.add D b).2.1 L (some b)) := by
  have hb1 : 1 ≤ b.length := by cases b with | nil => exact absurd rfl hb | cons => simp
  have hu := h.used; have hjn := h.jn
  have hlen : J.recs.length = L.length := by rw [h.recs]; simp [rec2]
  unfold JD.add
  rw [if_neg (by rw [h.dead, h.off]; simp), if_neg (by omega)]
  split
  · rename_i hf
    exact .inr ⟨by show (6 : Int) ≠ 0; decide, h.pend⟩
  · rename_i hf
    have hh : Half n D A (sumE L) 0 (secK J.ep J.recs.length (needN b.length) b) := h.h.any0
    have hfit : sumE L + needN b.length ≤ n := by omega
    have := layF_half (u := sumE L) (at' := J.at') (fun j => by unfold JD.at'; rw [h.frm, h.used, Nat.zero_add]) h0 (needN b.length) 0 hh h.off (by omega)
    rw [Nat.zero_add] at this
    have hlay : J.lay D b = layF D J.at' (secK J.ep J.recs.length (needN b.length) b) 0 (needN b.length) := rfl
    rcases this with ⟨a1, a2, A', a3, a4⟩ | ⟨a1, w, a2, a3⟩
    · rw [← hlay] at a1 a2 a3
      rw [if_pos a1]
      refine .inl ⟨rfl, A', ⟨a3.any0, a2, ?_, ?_, ?_, hjn, h.frm, h.ep, h.dead⟩⟩
      · rw [h.ep, hlen] at a4
        exact h.k.add h1 hE hb hfit (by rw [← a3.a]; exact a3.z.a) a4
      · show J.recs ++ [b] = _; rw [h.recs, rec2_app]; rfl
      · show J.used + needN b.length = _; rw [sumE_app, hu]; show _ = sumE L + (needN b.length + 0); omega
    · rw [← hlay] at a1 a3
      rw [if_neg (by omega)]
      refine .inr ⟨by show (J.lay D b).1 ≠ 0; omega, a3.z, fun ks => ?_⟩
      obtain ⟨A', c1, c2, _, c3⟩ := crash_half (ks := ks) a3
      refine ⟨A', c1.any0, c2, ?_⟩
      rw [h.ep, hlen] at c3
      rcases h.k.crash h1 hE hb (by have := laid_llen h.k h30; omega) a2 hfit (by rw [← c1.a]; exact c1.z.a) c3 with k | k
      · exact .inl k
      · exact .inr ⟨b, rfl, k⟩
def okN : DskD × JD → List Txt → Nat
  | _, [] => 0
  | q, b :: l => if (q.2.add q.1 b).1 = 0 then okN (q.2.add q.1 b).2 l + 1 else 0
theorem okN_le : ∀ {l : List Txt} {q : DskD × JD}, okN q l ≤ l.length
  | [], q => Nat.le_refl _
  | b :: l, q => by
    unfold okN
    split
    · have := okN_le (l := l) (q := (q.2.add q.1 b).2); simp; omega
    · exact Nat.zero_le _
theorem put_pk (h1 : 1 ≤ E) (hE : E < 256) (h0 : 0 < n) (h30 : n < 2 ^ 30) : ∀ (l : List Txt) (q : DskD × JD) (A : List Sec) (L : List ERec), PK n E q.1 q.2 A L → (∀ b ∈ l, b ≠ [] ∧ b.length ≤ 400000) → ∀ i, i ≤ okN q l →
    ∃ A', PK n E (addAll q (l.take i)).1 (addAll q (l.take i)).2 A' (L ++ (l.take i).map fun b => (epW E, b))
  | l, q, A, L, h, hl, 0, _ => ⟨A, by simpa [addAll] using h⟩
  | [], q, A, L, h, hl, i + 1, hi => by simp [okN] at hi
  | b :: l, q, A, L, h, hl, i + 1, hi => by
    have hb := hl b (by simp)
    unfold okN at hi
    split at hi
    · rename_i hok
      rcases h.add h1 hE h0 h30 hb.1 hb.2 with ⟨_, A', h'⟩ | ⟨hn, _⟩
      · obtain ⟨A'', h''⟩ := put_pk h1 hE h0 h30 l (q.2.add q.1 b).2 A' _ h' (fun c hc => hl c (by simp [hc])) i (by omega)
        refine ⟨A'', ?_⟩
        rw [List.append_assoc] at h''
        exact h''
      · exact absurd hok hn
    · omega
theorem okN_at (h1 : 1 ≤ E) (hE : E < 256) (h0 : 0 < n) (h30 : n < 2 ^ 30) : ∀ (l : List Txt) (q : DskD × JD), ∀ i b, l[i]? = some b → ((i < okN q l → ((addAll q (l.take i)).2.add (addAll q (l.take i)).1 b).1 = 0) ∧ (i = okN q l → ((addAll q (l.take i)).2.add (addAll q (l.take i)).1 b).1 ≠ 0))
  | [], q, i, b, hi => by simp at hi
  | c :: l, q, 0, b, hi => by
    simp at hi; subst hi
    unfold okN
    split
    · rename_i hok; exact ⟨fun _ => hok, fun h => (by omega)⟩
    · rename_i hok; exact ⟨fun h => (by omega), fun _ => hok⟩
  | c :: l, q, i + 1, b, hi => by
    have hi' : l[i]? = some b := by simpa using hi
    obtain ⟨a1, a2⟩ := okN_at h1 hE h0 h30 l (q.2.add q.1 c).2 i b hi'
    unfold okN
    split
    · exact ⟨fun h => a1 (by omega), fun h => a2 (by omega)⟩
    · exact ⟨fun h => (by omega), fun h => (by omega)⟩
end Go.AM
namespace Go.AM
variable {prog : String → Option IFn}
variable {G L : List (Option Blk)} {P : DPos} {D : DskD} {n q p : Nat} {B : Option Blk} {cs : List AV} {J : JD}
structure RowsAt (g : Nat) (P : DPos) (q p : Nat) (gF : List Txt → List (Option Blk)) (xF : List Txt → Option Blk) (rF : List Txt → AV) : Prop where
  len : ∀ l, (gF l).length = g
  dx : ∀ l, DB (xF l)
  nr : ∀ l, noRef [0, 1, 2] (rF l) = true
  ln : ∀ l h, prim h .lenSlice [rF l] = some (.v (.int .i64 (l.length : Nat)), h)
  app : ∀ D B cs b0 b1 l b, (l.length + 1) * 24 ≤ room → prim ⟨dj (gF l) P q p D B cs, [b0, b1, some (dBlk [roAV b] false false), xF l]⟩ (.append 3 true 1 24) [rF l, .own (.l 2) 1 0 1 1 (some 1)] =
    some (rF (l ++ [b]), ⟨dj (gF (l ++ [b])) P q p D B cs, [b0, b1, some (dBlk [roAV b] false false), xF (l ++ [b])]⟩)
structure PutOk (n : Nat) (q : DskD × JD) : Prop where
  z : Siz q.1 n
  t : TurnOk n q.2
section
variable {gF : List Txt → List (Option Blk)} {xF : List Txt → Option Blk} {rF : List Txt → AV}
set_option maxHeartbeats 2000000 in
theorem put_iter (H : JourLib prog) (h : OOk G.length P q p n) (R : RowsAt G.length P q p gF xF rF) (hN : n ≤ 20000) {a : AV} {xs : List BtV} (va : ∀ h, TView bsE h a xs) {i : Nat} {x : BtV} (hx : xs[i]? = some x) {l : List Txt} (hl : l.length ≤ 1000) {m : Nat} (hm : m ≤ 1000000) (hi2 : i ≤ 1000000) {E : DskD} {K : JD} (ok : PutOk n (E, K)) {Q : Out → St → Prop}
    (hN0 : (K.add E (putR x)).1 = 0 → ∀ s', clear s' [3, 4, 5, 6, 7, 10, 11, 12, 13, 14, 15, 16, 17, 18, 19, 20, 21, 22, 23, 24, 25, 26, 27, 28, 29, 30, 31, 32, 33, 34, 35, 36, 37, 38, 39, 40, 41, 42, 43, 44, 45] [0, 1, 2] =
      some ⟨f_law08_put_H0 (.ptr (.o p) 9 0) (rF (l ++ [putR x])) a (.v (.int .i64 ((m + 1 : Nat) : Int))) (.v (.int .i64 ((i + 1 : Nat) : Int))), ⟨dj (gF (l ++ [putR x])) P q p (K.add E (putR x)).2.1 (recB (K.add E (putR x)).2.2.recs) (jC .o P.p q (K.add E (putR x)).2.2), [none, none, none, xF (l ++ [putR x])]⟩⟩ → Q .normal s')
    (hR0 : (K.add E (putR x)).1 ≠ 0 → ∀ s' A B C, fin [.tmp 6, .tmp 7] s' = Hp.leave ⟨dj (gF (l ++ [putR x])) P q p (K.add E (putR x)).2.1 (recB (K.add E (putR x)).2.2.recs) (jC .o P.p q (K.add E (putR x)).2.2), [A, B, C, xF (l ++ [putR x])]⟩ (.tup [rF (l ++ [putR x]), .v (.int .i64 (m : Nat))]) → Q .ret s') :
    WC prog f_law08_put_L0 [] ⟨f_law08_put_H0 (.ptr (.o p) 9 0) (rF l) a (.v (.int .i64 (m : Nat))) (.v (.int .i64 (i : Nat))), ⟨dj (gF l) P q p E (recB K.recs) (jC .o P.p q K), [none, none, none, xF l]⟩⟩ Q := by
  have hroom : room = 140737488355328 := rfl
  have hi := lt_of_get hx
  have na : ∀ ks, noRef ks a = true := fun ks => noRef_out (View.out (va ⟨[], []⟩))
  have gd : ∀ {l : List Txt} {D B cs L}, Dat L → Good ⟨dj (gF l) P q p D B cs, L⟩ := fun hL => goodX hL
  have nr := R.nr
  have np : ∀ ks, noRef ks (.ptr (.o p) 9 0) = true := fun ks => by simp [noRef, AV.labs, labNot]
  have hlt : (i : Int) < (xs.length : Int) := by omega
  have ix : ∀ h, prim h (.indexAddr 1) [a, .v (.int .i64 (i : Int))] = some (elemPtr a 1 i, h) := fun h => (va h).index hi
  have ld : ∀ h, prim h (.load 1 false) [elemPtr a 1 i] = some (x.a, h) := fun h => (va h).load1 (by
    have := row_fld (T := bsE) (f := 0) (y := x.a) hx (by show 0 < 1; omega) rfl
    rw [show bsE.esz = 1 from rfl, Nat.mul_one, Nat.add_zero] at this
    exact this)
  have z := ok.z; have t := ok.t
  simp only at z t
  have tf := t.f; have tu := t.u; have tr := t.r
  generalize hQ : K.add E (putR x) = W at *
  obtain ⟨qe, qD, qJ⟩ := W
  simp only at hN0 hR0
  obtain ⟨d, hd⟩ : ∃ d, d = x.b.take 200 := ⟨_, rfl⟩
  have hpR : putR x = 1 :: d := by rw [hd]; rfl
  have hdl : d.length = min x.b.length 200 := by rw [hd, List.length_take]; omega
  have sv : ∀ h, View h (AM.sub x.a 1 0 (min x.b.length 200)) 1 d.length (d.map byteAV) := fun h => by
    have := (x.va h).sub (i := 0) (j := min x.b.length 200) (by omega) (by omega)
    rw [Nat.mul_one, Nat.mul_one, Nat.sub_zero, List.drop_zero, ← List.map_take] at this
    rw [hdl, hd, show x.b.take 200 = x.b.take (min x.b.length 200) by rw [Nat.min_comm, List.take_eq_take_iff]; omega]
    exact this
  have mn : mins .i64 (x.b.length : Int) [.v (.int .i64 200)] = some ((min x.b.length 200 : Nat) : Int) := by simp only [mins, Option.some.injEq]; omega
  have sl : ∀ h, prim h (.slice 1 false true false) [x.a, .v (.int .i64 ((min x.b.length 200 : Nat) : Int))] = some (AM.sub x.a 1 0 (min x.b.length 200), h) := fun h => (x.va h).sliceHi (Nat.min_le_left _ _)
  have dl := R.dx l
  have dl2 := R.dx (l ++ [putR x])
  simp (disch := first | (simp only [DS, reduceCtorEq]; done) | omega) only [f_law08_put_L0, f_law08_put_H0, WS, St.guard, St.put, evalO, reduceCtorEq, reduceIte, Nat.reduceAdd, Nat.reduceEqDiff, (va _).lenSlice, goInt, hlt, decide_true]
  refine WDP_of (.prim (build1 (n := 1) (xs := [byteAV 1]) (by rfl) (by rfl) (by rfl) (cells_bytes (bs := [1])) (by rfl))) (by exact gd (dat_4 .z .z .z dl)) (by exact gd (dat_4 .d .z .z dl)) rfl rfl ?_
  simp (disch := first | (simp only [DS, reduceCtorEq]; done) | omega) only [WS, St.guard, St.put, evalO, reduceCtorEq, reduceIte, Nat.reduceAdd, Nat.reduceEqDiff, ix]
  refine WDP_er (by exact gd (dat_4 .d .z .z dl)) rfl ?_
  refine ⟨_, _, ld _, rfl, .inr ⟨rfl, gd (dat_4 .d .z .z dl)⟩, ?_⟩
  simp (disch := first | (simp only [DS, reduceCtorEq]; done) | omega) only [WS, St.guard, St.put, evalO, reduceCtorEq, reduceIte, Nat.reduceAdd, Nat.reduceEqDiff, WDX_some, reduceIte, if_true, if_false, Bool.and_true, Bool.true_and, true_and, Bool.false_eq_true, false_or, true_or, Hp.over, AM.over, over_nil, List.foldl_cons, List.foldl_nil, List.set_cons_zero, List.set_cons_succ, List.getElem?_cons_zero, List.getElem?_cons_succ, Option.join_some, List.length_cons, List.length_nil, Prim.sites, List.cons_append, List.nil_append, ix]
  refine WDP_er (by exact gd (dat_4 .d .z .z dl)) rfl ?_
  refine ⟨_, _, ld _, rfl, .inr ⟨rfl, gd (dat_4 .d .z .z dl)⟩, ?_⟩
  simp (disch := first | (simp only [DS, reduceCtorEq]; done) | omega) only [WS, St.guard, St.put, evalO, reduceCtorEq, reduceIte, Nat.reduceAdd, Nat.reduceEqDiff, WDX_some, reduceIte, if_true, if_false, Bool.and_true, Bool.true_and, true_and, Bool.false_eq_true, false_or, true_or, Hp.over, AM.over, over_nil, List.foldl_cons, List.foldl_nil, List.set_cons_zero, List.set_cons_succ, List.getElem?_cons_zero, List.getElem?_cons_succ, Option.join_some, List.length_cons, List.length_nil, Prim.sites, List.cons_append, List.nil_append, (x.va _).lenSlice, mn, sl]
  have hx201 : (putR x).length = 1 + d.length := by rw [hpR, List.length_cons]; omega
  have addOp : ∀ (k : Nat) (cap : Option Nat) (Y : List (Option Blk)) (X : Blk), Y[k]? = some (some X) → X.cells = (putR x).map byteAV → X.virt = false → (∀ c, cap = some c → (putR x).length ≤ c) → X.labs = [] → Dat Y →
      Ev prog (.op (.call "(*haberdash/journal.Journal).Add" []) [.ptr (.o p) 9 0, .own (.l k) (putR x).length 0 (putR x).length 1 cap] ⟨dj (gF (l ++ [putR x])) P q p E (recB K.recs) (jC .o P.p q K), Y⟩)
        (.val (.v (.int .i64 qe)) ⟨dj (gF (l ++ [putR x])) P q p qD (recB qJ.recs) (jC .o P.p q qJ), Y⟩) := fun k cap Y X hk hX hv hc hl hY => by
    have h' : OOk (gF (l ++ [putR x])).length P q p n := by rw [R.len]; exact h
    refine op_turn ⟨dj (gF (l ++ [putR x])) P q p qD (recB qJ.recs) (jC .o P.p q qJ), Y⟩ ?_ rfl (by simp only [dj_len]) rfl (gd hY) (gd hY)
    rw [into_djL h', into_djL h']
    have hio : OOk (⟨gF (l ++ [putR x]), Y⟩ : Hp).into.length P q p n := by unfold Hp.into; exact h'.app
    have hA := arg_blk (P := P) (q := q) (p := p) (k := (gF (l ++ [putR x])).length + k) (b := putR x) (cap := cap) (Off.of h' (by omega)) (into_at (G := gF (l ++ [putR x])) hk hl) hX hv hc
    have e := Add_spec H (D := E) (J := K) hio z hN hA t.ep (by omega) (by omega) (by omega) (by omega)
    rw [hQ] at e
    have xr : [AV.ptr (.o p) 9 0, .own (.l k) (putR x).length 0 (putR x).length 1 cap].map (AV.ren (up (dj (gF (l ++ [putR x])) P q p E (recB K.recs) (jC .o P.p q K)).length)) = [.ptr (.o p) 9 0, .own (.o ((gF (l ++ [putR x])).length + k)) (putR x).length 0 (putR x).length 1 cap] := by
      rw [dj_len]; rfl
    rw [xr]
    exact e
  have hi1 : (i : Int) + 1 = ((i + 1 : Nat) : Int) := by omega
  have hm1 : (m : Int) + 1 = ((m + 1 : Nat) : Int) := by omega
  have bx : ([none, none, none, xF (l ++ [putR x])] : List (Option Blk)).all (blkNoRef [0, 1, 2]) = true := by
    have : blkNoRef [0, 1, 2] (xF (l ++ [putR x])) = true := by
      cases hB : xF (l ++ [putR x]) with
      | none => rfl
      | some b => show b.labs.all _ = true; rw [dl2 b hB]; rfl
    simp only [List.all_cons, List.all_nil, this]; rfl
  by_cases hd0 : d = []
  · have hp1 : putR x = [1] := by rw [hpR, hd0]
    have v0 : ∀ h, View h (AM.sub x.a 1 0 (min x.b.length 200)) 1 0 [] := fun h => by have := sv h; rw [hd0] at this; exact this
    refine WDP_of (.prim (app0 (v0 _))) (by exact gd (dat_4 .d .z .z dl)) (by exact gd (dat_4 .d .z .z dl)) rfl rfl ?_
    simp (disch := first | (simp only [DS, reduceCtorEq]; done) | omega) only [WS, St.guard, St.put, evalO, reduceCtorEq, reduceIte, Nat.reduceAdd, Nat.reduceEqDiff]
    refine (WR_eq (frz0 (c := .dead) hp1)).2 ?_
    simp (disch := first | (simp only [DS, reduceCtorEq]; done) | omega) only [WS, St.guard, St.put, evalO, reduceCtorEq, reduceIte, Nat.reduceAdd, Nat.reduceEqDiff]
    refine (WR_eq (R.app _ _ _ _ _ _ _ (by omega))).2 ?_
    simp (disch := first | (simp only [DS, reduceCtorEq]; done) | omega) only [WS, St.guard, St.put, evalO, reduceCtorEq, reduceIte, Nat.reduceAdd, Nat.reduceEqDiff]
    have ao := addOp 0 (some 1) [some { dBlk [byteAV 1] false false with wr := false }, none, some (dBlk [roAV (putR x)] false false), xF (l ++ [putR x])] _ rfl (by rw [hp1]; rfl) rfl (by intro c hc; cases hc; rw [hp1]; exact Nat.le_refl _) rfl (dat_4 .w .z .d dl2)
    rw [show (putR x).length = 1 by rw [hp1]; rfl] at ao
    refine WP_of ao ?_
    by_cases he : qe = 0
    · subst he
      simp (disch := first | (simp only [DS, reduceCtorEq]; done) | omega) only [WS, St.guard, St.put, evalO, reduceCtorEq, reduceIte, Nat.reduceAdd, Nat.reduceEqDiff, Int.reduceBNe, vBin_add_i64, hi1, hm1]
      refine hN0 rfl _ ?_
      exact clear_fre (by simp only [clear_nil, List.foldl_cons, List.foldl_nil, Option.some.injEq, LS, reduceCtorEq, reduceIte, Nat.reduceAdd] <;> rfl) (by rfl) (by simp only [f_law08_put_H0, List.all_cons, List.all_nil, noRef_v, noRef_dead, noRef_own, noRef_ptr, noRef_nil, Bool.and_true, Bool.true_and, Bool.and_self, List.contains_cons, List.contains_nil, Bool.or_false, Nat.reduceBEq, Bool.not_false, na, nr, np]) bx
    · have hb : (qe != 0) = true := by rw [bne_iff_ne]; exact he
      simp (disch := first | (simp only [DS, reduceCtorEq]; done) | omega) only [WS, St.guard, St.put, evalO, reduceCtorEq, reduceIte, Nat.reduceAdd, Nat.reduceEqDiff, hb]
      exact hR0 he _ _ _ _ rfl
  · refine WDP_of (.prim (app1 hd0 (sv _) (by omega))) (by exact gd (dat_4 .d .z .z dl)) (by exact gd (dat_4 .d .d .z dl)) rfl rfl ?_
    rw [← hpR]
    simp (disch := first | (simp only [DS, reduceCtorEq]; done) | omega) only [WS, St.guard, St.put, evalO, reduceCtorEq, reduceIte, Nat.reduceAdd, Nat.reduceEqDiff]
    refine (WR_eq frz_rowL).2 ?_
    simp (disch := first | (simp only [DS, reduceCtorEq]; done) | omega) only [WS, St.guard, St.put, evalO, reduceCtorEq, reduceIte, Nat.reduceAdd, Nat.reduceEqDiff]
    refine (WR_eq (R.app _ _ _ _ _ _ _ (by omega))).2 ?_
    simp (disch := first | (simp only [DS, reduceCtorEq]; done) | omega) only [WS, St.guard, St.put, evalO, reduceCtorEq, reduceIte, Nat.reduceAdd, Nat.reduceEqDiff]
    have ao := addOp 1 none [some (dBlk [byteAV 1] false false), some { dBlk ((putR x).map byteAV) true false with wr := false }, some (dBlk [roAV (putR x)] false false), xF (l ++ [putR x])] _ rfl rfl rfl (by intro c hc; cases hc) rfl (dat_4 .d .w .d dl2)
    rw [Nat.mul_one]
    refine WP_of ao ?_
    by_cases he : qe = 0
    · subst he
      simp (disch := first | (simp only [DS, reduceCtorEq]; done) | omega) only [WS, St.guard, St.put, evalO, reduceCtorEq, reduceIte, Nat.reduceAdd, Nat.reduceEqDiff, Int.reduceBNe, vBin_add_i64, hi1, hm1]
      refine hN0 rfl _ ?_
      exact clear_fre (by simp only [clear_nil, List.foldl_cons, List.foldl_nil, Option.some.injEq, LS, reduceCtorEq, reduceIte, Nat.reduceAdd] <;> rfl) (by rfl) (by simp only [f_law08_put_H0, List.all_cons, List.all_nil, noRef_v, noRef_dead, noRef_own, noRef_ptr, noRef_nil, Bool.and_true, Bool.true_and, Bool.and_self, List.contains_cons, List.contains_nil, Bool.or_false, Nat.reduceBEq, Bool.not_false, na, nr, np]) bx
    · have hb : (qe != 0) = true := by rw [bne_iff_ne]; exact he
      simp (disch := first | (simp only [DS, reduceCtorEq]; done) | omega) only [WS, St.guard, St.put, evalO, reduceCtorEq, reduceIte, Nat.reduceAdd, Nat.reduceEqDiff, hb]
      exact hR0 he _ _ _ _ rfl
theorem addAll_ok2 {n : Nat} : ∀ {l : List Txt} {q : DskD × JD}, PutOk n q → PutOk n (addAll q l)
  | [], q, h => h
  | b :: l, q, h => addAll_ok2 (l := l) ⟨add_siz h.z, turn_add h.t⟩
set_option maxHeartbeats 2000000 in
theorem putG_spec (H : JourLib prog) (hp : prog "haberdash/haberdashlaw08.put" = some f_law08_put) (h : OOk G.length P q p n) (R : RowsAt G.length P q p gF xF rF) (hN : n ≤ 20000) {a : AV} {xs : List BtV} (va : ∀ h, TView bsE h a xs) {bs : List Txt} (hbs : bs = xs.map putR) (hxs : xs.length ≤ 500) {l0 : List Txt} (hl0 : l0.length ≤ 500)
    (hx0 : xF l0 = none) (ok : PutOk n (D, J)) (h1 : 1 ≤ 255) {rR : List Txt → AV} {Bs : List Txt → List (Option Blk)}
    (hfin : ∀ D B cs X Y Z l k, (⟨dj (gF l) P q p D B cs, [X, Y, Z, xF l]⟩ : Hp).leave (.tup [rF l, .v (.int .i64 k)]) = some (.tup [rR l, .v (.int .i64 k)], dj (gF l) P q p D B cs ++ Bs l))
    {k : Nat} (hk : k ≤ bs.length) (hok : ∀ i b, bs[i]? = some b → ((i < k → ((addAll (D, J) (bs.take i)).2.add (addAll (D, J) (bs.take i)).1 b).1 = 0) ∧ (i = k → ((addAll (D, J) (bs.take i)).2.add (addAll (D, J) (bs.take i)).1 b).1 ≠ 0))) :
    Ev prog (.call "haberdash/haberdashlaw08.put" [.ptr (.o p) 9 0, rF l0, a] (dj (gF l0) P q p D (recB J.recs) (jC .o P.p q J)))
      (.ret (.tup [rR (l0 ++ bs.take (k + 1)), .v (.int .i64 (l0.length + k : Nat))]) (dj (gF (l0 ++ bs.take (k + 1))) P q p (addAll (D, J) (bs.take (k + 1))).1 (recB (addAll (D, J) (bs.take (k + 1))).2.recs) (jC .o P.p q (addAll (D, J) (bs.take (k + 1))).2) ++ Bs (l0 ++ bs.take (k + 1)))) := by
  have hlen : bs.length = xs.length := by rw [hbs, List.length_map]
  have na : ∀ ks, noRef ks a = true := fun ks => noRef_out (View.out (va ⟨[], []⟩))
  have np : ∀ ks, noRef ks (.ptr (.o p) 9 0) = true := fun ks => by simp [noRef, AV.labs, labNot]
  have nr := R.nr
  refine call_of_fin hp ?_
  simp only [f_law08_put_B, enter, List.length_cons, List.length_nil, List.replicate, Nat.reduceAdd, Nat.reduceSub, List.cons_append, List.nil_append]
  simp (disch := first | (simp only [DS, reduceCtorEq]; done) | omega) only [WS, St.guard, St.put, evalO, reduceCtorEq, reduceIte, Nat.reduceAdd, Nat.reduceEqDiff, R.ln]
  have bx : ∀ l, ([none, none, none, xF l] : List (Option Blk)).all (blkNoRef [0, 1, 2]) = true := fun l => by
    have : blkNoRef [0, 1, 2] (xF l) = true := by
      cases hB : xF l with
      | none => rfl
      | some b => show b.labs.all _ = true; rw [R.dx l b hB]; rfl
    simp only [List.all_cons, List.all_nil, this]; rfl
  have at_ : ∀ i, i < bs.length → ∃ x, xs[i]? = some x ∧ bs[i]? = some (putR x) := fun i hi => by
    obtain ⟨x, hx⟩ : ∃ x, xs[i]? = some x := ⟨_, List.getElem?_eq_getElem (by omega)⟩
    exact ⟨x, hx, by rw [hbs, List.getElem?_map, hx]; rfl⟩
  have tk : ∀ i b, bs[i]? = some b → bs.take (i + 1) = bs.take i ++ [b] := fun i b hb => by rw [List.take_add_one, hb]; rfl
  have lt_ : ∀ i, (l0 ++ bs.take i).length ≤ 1000 := fun i => by rw [List.length_append, List.length_take]; omega
  refine WC_count (fun i => ⟨f_law08_put_H0 (.ptr (.o p) 9 0) (rF (l0 ++ bs.take i)) a (.v (.int .i64 (l0.length + i : Nat))) (.v (.int .i64 (i : Nat))), ⟨dj (gF (l0 ++ bs.take i)) P q p (addAll (D, J) (bs.take i)).1 (recB (addAll (D, J) (bs.take i)).2.recs) (jC .o P.p q (addAll (D, J) (bs.take i)).2), [none, none, none, xF (l0 ++ bs.take i)]⟩⟩) k ?_ (fun i hi => ?_) ?_
  · have e0 : l0 ++ bs.take 0 = l0 := by simp
    simp only [List.take_zero, List.append_nil, addAll, Nat.add_zero]
    have := bx l0
    rw [hx0] at this ⊢
    exact clear_fre (by simp only [clear_nil, List.foldl_cons, List.foldl_nil, Option.some.injEq, LS, reduceCtorEq, reduceIte, Nat.reduceAdd] <;> rfl) (by rfl) (by simp only [f_law08_put_H0, List.all_cons, List.all_nil, noRef_v, noRef_dead, noRef_own, noRef_ptr, noRef_nil, Bool.and_true, Bool.true_and, Bool.and_self, List.contains_cons, List.contains_nil, Bool.or_false, Nat.reduceBEq, Bool.not_false, na, nr, np]) this
  · obtain ⟨x, hx, hb⟩ := at_ i (by omega)
    have o := (hok i _ hb).1 hi
    have ht := tk i _ hb
    refine put_iter H h R hN va hx (lt_ i) (m := l0.length + i) (by omega) (by omega) (addAll_ok2 ok) (fun _ s' hs' => ?_) (fun hne => absurd o hne)
    rw [if_pos rfl, ht, addAll_snoc, ← List.append_assoc]
    exact hs'
  · by_cases hkl : k = bs.length
    · have e1 : bs.take (k + 1) = bs := List.take_of_length_le (by omega)
      have e2 : bs.take k = bs := List.take_of_length_le (by omega)
      rw [e1]
      simp only [e2]
      have hkx : k = xs.length := by omega
      rw [hkx]
      simp (disch := first | (simp only [DS, reduceCtorEq]; done) | omega) only [f_law08_put_L0, f_law08_put_H0, WS, St.guard, St.put, evalO, reduceCtorEq, reduceIte, Nat.reduceAdd, Nat.reduceEqDiff, (va _).lenSlice, goInt, Int.lt_irrefl, decide_false, fin_tmp2]
      refine ⟨by simp, ?_⟩
      exact hfin _ _ _ _ _ _ _ _
    · obtain ⟨x, hx, hb⟩ := at_ k (by omega)
      have o := (hok k _ hb).2 rfl
      have ht := tk k _ hb
      refine put_iter H h R hN va hx (lt_ k) (m := l0.length + k) (by omega) (by omega) (addAll_ok2 ok) (fun h0 => absurd h0 o) (fun _ s' X Y Z hs' => ?_)
      refine ⟨by simp, ?_⟩
      simp only [WK]
      refine ⟨.inr rfl, ?_⟩
      rw [hs', ht, addAll_snoc, ← List.append_assoc]
      exact hfin _ _ _ _ _ _ _ _
end
end Go.AM
namespace Go.AM
variable {prog : String → Option IFn}
variable {G L : List (Option Blk)} {P : DPos} {D : DskD} {n q p : Nat} {B : Option Blk} {cs : List AV} {J : JD}
theorem rowsNil : RowsAt G.length P q p (fun _ => G) rowBk (rowV (.l 3)) :=
  ⟨fun _ => rfl, fun _ => DB.r, fun _ => rowV_nr _ (by simp), fun l h => by
    unfold rowV
    split
    · rename_i hl; subst hl; rfl
    · rfl, fun D B cs b0 b1 l b hr => app_row hr⟩
theorem append_recO {G' L' : List (Option Blk)} {x : Nat} {l : List Txt} {b : Txt} (hq : G'[x]? = some (recB l)) (hm : L'[2]? = some (some (dBlk [roAV b] false false))) (hr : (l.length + 1) * 24 ≤ room) :
    prim ⟨G', L'⟩ (.append 3 true 1 24) [.own (.o x) l.length 0 l.length 1 none, .own (.l 2) 1 0 1 1 (some 1)] =
      some (.own (.o x) (l.length + 1) 0 (l.length + 1) 1 none, ⟨G'.set x (recB (l ++ [b])), L'⟩) := by
  have hv : View ⟨G', L'⟩ (.own (.l 2) 1 0 1 1 (some 1)) 1 1 [roAV b] := own_view1 hm rfl (by simp)
  simp only [prim, hv.source, Option.bind_some, Hp.mayFreeze, if_true, Hp.freezes, Hp.freeze, roAV, Option.map_some, Hp.append, List.length_cons, List.length_nil, Nat.mul_one, Hp.get, hq, recB, Option.join_some, dBlk_cells, rec_len]
  refine (if_pos ⟨trivial, trivial, hr, rfl⟩).trans ?_
  rw [if_neg (by omega), if_neg (by simp [dBlk]), if_neg (by omega)]
  refine (if_pos ⟨trivial, rfl⟩).trans ?_
  rw [List.take_of_length_le (by rw [rec_len]; omega)]
  have e : (l ++ [b]).isEmpty = false := by cases l <;> rfl
  simp only [dBlk, Hp.put, recE.row_append, e]
  rfl
theorem rowsOwn {x : Nat} (h : OOk G.length P q p n) (hx : x < G.length) (hf : Off P q p x) : RowsAt G.length P q p (fun l => G.set x (recB l)) (fun _ => none) (fun l => .own (.o x) l.length 0 l.length 1 none) :=
  ⟨fun _ => List.length_set, fun _ => DB.z, fun _ => by simp [noRef, AV.labs, labNot], fun l h => rfl, fun D B cs b0 b1 l b hr => by
    have h' : OOk (G.set x (recB l)).length P q p n := by rw [List.length_set]; exact h
    have hg : (dj (G.set x (recB l)) P q p D B cs)[x]? = some (recB l) := by rw [dj_off hf, List.getElem?_set_self hx]
    have e := append_recO (L' := [b0, b1, some (dBlk [roAV b] false false), none]) (b := b) hg rfl hr
    rw [dj_setO hf, List.set_set] at e
    rw [List.length_append]
    exact e⟩
theorem op_turnL {f xs} {sites : List Nat} {r r' : AV} {h : Hp} (h' : Hp) (hs : Ev prog (.call f (xs.map (AV.ren (up h.G.length))) h.into) (.ret r h'.into)) (hn : sites.Nodup) (hf : sites.all (free h.L) = true) (hf' : sites.all (free h'.L) = true)
    (hG : h'.G.length = h.G.length) (hL : h'.L.length = h.L.length) (hg : Good h) (hg' : Good h') (hr : r.ren (down h.G.length h.L.length sites) = r') : Ev prog (.op (.call f sites) xs h) (.val r' h') := by
  subst hr
  refine .opCall hg.okBlks hs ?_
  have e := back_into (h := h) (h' := h') (sites := sites) (Bs := []) (r := r) hG hL hg'.refsOK (by simp) hn hf hf'
  rw [List.append_nil] at e
  rw [e]
  have e2 : (padTo sites.length []).map (Option.map (Blk.ren (down h.G.length h.L.length sites))) = List.replicate sites.length none := by simp [padTo]
  rw [e2, putAll_none hf']
theorem lj_len {D' : DskD} {B' : Option Blk} {cs' : List AV} : (lj L P q p D' B' cs').length = L.length := by simp [lj, lset]
theorem lputN (H : JourLib prog) (hp : prog "haberdash/haberdashlaw08.put" = some f_law08_put) (h : LOk L P q p n) (hL : Good ⟨[], L⟩) (hN : n ≤ 20000) {a : AV} {xs : List BtV} (va : ∀ h, TView bsE h a xs) {bs : List Txt} (hbs : bs = xs.map putR) (hxs : xs.length ≤ 500) (ok : PutOk n (D, J)) {site : Nat}
    {k : Nat} (hk : k ≤ bs.length) (hok : ∀ i b, bs[i]? = some b → ((i < k → ((addAll (D, J) (bs.take i)).2.add (addAll (D, J) (bs.take i)).1 b).1 = 0) ∧ (i = k → ((addAll (D, J) (bs.take i)).2.add (addAll (D, J) (bs.take i)).1 b).1 ≠ 0)))
    (hs : ∀ D' J', (lj L P q p D' (recB J'.recs) (jC .l P.p q J'))[site]? = some none) {D' : DskD} {J' : JD} (hD : addAll (D, J) (bs.take (k + 1)) = (D', J')) {all : List Txt} (hal : all = bs.take (k + 1)) :
    Ev prog (.op (.call "haberdash/haberdashlaw08.put" [site]) [.ptr (.l p) 9 0, .v (.slice none 0 0), a] ⟨[], lj L P q p D (recB J.recs) (jC .l P.p q J)⟩)
      (.val (.tup [rowV (.l site) all, .v (.int .i64 (k : Nat))]) ⟨[], (lj L P q p D' (recB J'.recs) (jC .l P.p q J')).set site (rowBk all)⟩) := by
  have hal' : a.labs = [] := sliceAt_val (site := 0) va
  have har : ∀ ρ, a.ren ρ = a := fun ρ => ren_id fun ℓ hℓ => by rw [hal'] at hℓ; cases hℓ
  have g1 := jG (D := D) (J := J) hL h
  have g2 := jG (D := D') (J := J') hL h
  have hin : (⟨[], L⟩ : Hp).into.length = L.length := by rw [into_len]; simp
  have e := putG_spec H hp (h.into (G := [])) (rowsNil (G := (⟨[], L⟩ : Hp).into)) hN va hbs hxs (l0 := []) (by simp) rfl ok (by omega) (rR := rowV (.o (⟨[], L⟩ : Hp).into.length)) (Bs := fun l => if l = [] then [] else [recB l]) (fun D B cs X Y Z l k => by
    by_cases hl : l = []
    · subst hl
      have : (⟨dj (⟨[], L⟩ : Hp).into (P.sh ([] : List (Option Blk)).length) (([] : List (Option Blk)).length + q) (([] : List (Option Blk)).length + p) D B cs, [X, Y, Z, rowBk []]⟩ : Hp).leave (.tup [.v (.slice none 0 0), .v (.int .i64 k)]) = _ := leave_lf rfl
      simp only [rowV, if_true, List.append_nil]
      exact this
    · have e1 : rowV (.l 3) l = .own (.l 3) l.length 0 l.length 1 none := if_neg hl
      have e2 : rowBk l = recB l := if_neg hl
      have e3 : rowV (.o (⟨[], L⟩ : Hp).into.length) l = .own (.o (⟨[], L⟩ : Hp).into.length) l.length 0 l.length 1 none := if_neg hl
      rw [e1, e2, e3, if_neg hl]
      have := leave_own (h := ⟨dj (⟨[], L⟩ : Hp).into (P.sh ([] : List (Option Blk)).length) (([] : List (Option Blk)).length + q) (([] : List (Option Blk)).length + p) D B cs, [X, Y, Z, recB l]⟩) (j := 3) (n := l.length) (off := 0) (len := l.length) (esz := 1) (cap := none) (C := fun a => .tup [a, .v (.int .i64 k)]) (fun _ _ => rfl) (fun a => by simp [AV.labs, AV.labs.labss]) (b := dBlk (recE.row l) true l.isEmpty) rfl rfl
      rw [dj_len] at this
      exact this) hk hok
  rw [List.nil_append, hD, ← hal] at e
  simp only [List.length_nil, Nat.zero_add] at e
  have s0 : ∀ (D : DskD) (J : JD), (⟨[], lj L P q p D (recB J.recs) (jC .l P.p q J)⟩ : Hp).into = dj (⟨[], L⟩ : Hp).into (P.sh 0) (0 + q) (0 + p) D (recB J.recs) (jC .o (P.sh 0).p (0 + q) J) := fun D J => by
    rw [into_lj recB_data, jC_up]; rfl
  have xr : [AV.ptr (.l p) 9 0, .v (.slice none 0 0), a].map (AV.ren (up (⟨[], lj L P q p D (recB J.recs) (jC .l P.p q J)⟩ : Hp).G.length)) = [.ptr (.o (([] : List (Option Blk)).length + p)) 9 0, .v (.slice none 0 0), a] := by
    simp only [List.map_cons, List.map_nil, har]; rfl
  have hcall : Ev prog (.call "haberdash/haberdashlaw08.put" ([AV.ptr (.l p) 9 0, .v (.slice none 0 0), a].map (AV.ren (up (⟨[], lj L P q p D (recB J.recs) (jC .l P.p q J)⟩ : Hp).G.length))) (⟨[], lj L P q p D (recB J.recs) (jC .l P.p q J)⟩ : Hp).into)
      (.ret (.tup [rowV (.o (⟨[], L⟩ : Hp).into.length) all, .v (.int .i64 (k : Nat))]) ((⟨[], lj L P q p D' (recB J'.recs) (jC .l P.p q J')⟩ : Hp).into ++ (if all = [] then [] else [recB all]))) := by
    rw [xr, s0, s0]
    simp only [List.length_nil, Nat.zero_add] at e ⊢
    exact e
  by_cases hal0 : all = []
  · have r1 : rowV (.l site) all = .v (.slice none 0 0) := if_pos hal0
    have r2 : rowBk all = none := if_pos hal0
    have r3 : rowV (.o (⟨[], L⟩ : Hp).into.length) all = .v (.slice none 0 0) := if_pos hal0
    rw [r3, if_pos hal0, List.append_nil] at hcall
    rw [r1, r2]
    have e5 := op_turnL (sites := [site]) ⟨[], lj L P q p D' (recB J'.recs) (jC .l P.p q J')⟩ hcall (by simp) (by simp [free_of_get (hs D J)]) (by simp [free_of_get (hs D' J')]) rfl (by rw [lj_len, lj_len]) g1 g2 rfl
    have hset : (lj L P q p D' (recB J'.recs) (jC .l P.p q J')).set site none = lj L P q p D' (recB J'.recs) (jC .l P.p q J') := by
      refine List.ext_getElem? fun i => ?_
      rw [List.getElem?_set]
      split
      · rename_i hi; subst hi; rw [if_pos (lt_of_get (hs D' J')), hs D' J']
      · rfl
    rw [hset]
    exact e5
  · have r1 : rowV (.l site) all = .own (.l site) all.length 0 all.length 1 none := if_neg hal0
    have r2 : rowBk all = recB all := if_neg hal0
    have r3 : rowV (.o (⟨[], L⟩ : Hp).into.length) all = .own (.o (⟨[], L⟩ : Hp).into.length) all.length 0 all.length 1 none := if_neg hal0
    rw [r3, if_neg hal0] at hcall
    rw [r1, r2]
    refine op_into (Bs := [recB all]) ⟨[], lj L P q p D' (recB J'.recs) (jC .l P.p q J')⟩ hcall (data1 (fun b hb => by cases hb; rfl)) rfl (by simp) (by simp [free_of_get (hs D J)]) (by simp [free_of_get (hs D' J')]) rfl (by rw [lj_len, lj_len]) g1 g2 ?_
    have hil : (⟨[], L⟩ : Hp).into.length = (⟨[], lj L P q p D (recB J.recs) (jC .l P.p q J)⟩ : Hp).into.length := by rw [into_len, into_len, lj_len]
    have d0 := down_into0 (h := ⟨[], lj L P q p D (recB J.recs) (jC .l P.p q J)⟩) (sites := [site])
    rw [← hil] at d0
    simp only [AV.ren, AV.ren.rens, d0]
    rfl
theorem lputO {x : Nat} (H : JourLib prog) (hp : prog "haberdash/haberdashlaw08.put" = some f_law08_put) (h : LOk L P q p n) (hL : ∀ l, Good ⟨[], L.set x (recB l)⟩) (hN : n ≤ 20000) {a : AV} {xs : List BtV} (va : ∀ h, TView bsE h a xs) {bs : List Txt} (hbs : bs = xs.map putR) (hxs : xs.length ≤ 500) (ok : PutOk n (D, J)) {site : Nat} (hx : x < L.length)
    (hxf : x ∉ [P.q0, P.q1, P.q2, P.p, q, p]) {l0 : List Txt} (hl0 : l0.length ≤ 500)
    {k : Nat} (hk : k ≤ bs.length) (hok : ∀ i b, bs[i]? = some b → ((i < k → ((addAll (D, J) (bs.take i)).2.add (addAll (D, J) (bs.take i)).1 b).1 = 0) ∧ (i = k → ((addAll (D, J) (bs.take i)).2.add (addAll (D, J) (bs.take i)).1 b).1 ≠ 0)))
    (hs : ∀ D' J' l, (lj (L.set x (recB l)) P q p D' (recB J'.recs) (jC .l P.p q J'))[site]? = some none) {D' : DskD} {J' : JD} (hD : addAll (D, J) (bs.take (k + 1)) = (D', J')) {all : List Txt} (hal : all = l0 ++ bs.take (k + 1)) :
    Ev prog (.op (.call "haberdash/haberdashlaw08.put" [site]) [.ptr (.l p) 9 0, .own (.l x) l0.length 0 l0.length 1 none, a] ⟨[], lj (L.set x (recB l0)) P q p D (recB J.recs) (jC .l P.p q J)⟩)
      (.val (.tup [.own (.l x) all.length 0 all.length 1 none, .v (.int .i64 (l0.length + k : Nat))]) ⟨[], lj (L.set x (recB all)) P q p D' (recB J'.recs) (jC .l P.p q J')⟩) := by
  have hal' : a.labs = [] := sliceAt_val (site := 0) va
  have har : ∀ ρ, a.ren ρ = a := fun ρ => ren_id fun ℓ hℓ => by rw [hal'] at hℓ; cases hℓ
  have hl : ∀ l, LOk (L.set x (recB l)) P q p n := fun l => ⟨by rw [List.length_set]; exact h.d, h.qp, by rw [List.length_set]; exact h.pg, h.pp, h.fq, h.fp⟩
  have g1 := jG (D := D) (J := J) (hL l0) (hl l0)
  have g2 := jG (D := D') (J := J') (hL all) (hl all)
  have hin : (⟨[], L⟩ : Hp).into.length = L.length := by rw [into_len]; simp
  simp only [List.mem_cons, List.not_mem_nil, or_false, not_or] at hxf
  obtain ⟨f0, f1, f2, f3, f4, f5⟩ := hxf
  have hoff : Off (P.sh 0) (0 + q) (0 + p) x := ⟨by show x ≠ 0 + P.q0; omega, by show x ≠ 0 + P.q1; omega, by show x ≠ 0 + P.q2; omega, by show x ≠ 0 + P.p; omega, by omega, by omega⟩
  have e := putG_spec H hp (h.into (G := [])) (rowsOwn (x := x) (h.into (G := [])) (by rw [hin]; exact hx) hoff) hN va hbs hxs (l0 := l0) hl0 rfl ok (by omega) (rR := fun l => .own (.o x) l.length 0 l.length 1 none) (Bs := fun _ => []) (fun D B cs X Y Z l k => by
    rw [List.append_nil]
    have hlb : (AV.tup [.own (.o x) l.length 0 l.length 1 none, .v (.int .i64 k)]).labs = [.o x] := rfl
    simp only [Hp.leave, hlb, collect, List.reverse_nil, List.map_nil, outBlks, List.nodup_nil, and_self, if_true, AV.ren, AV.ren.rens, keepMap, List.append_nil]) hk hok
  rw [hD, ← hal, List.append_nil] at e
  have iset : ∀ l, (⟨[], L.set x (recB l)⟩ : Hp).into = (⟨[], L⟩ : Hp).into.set x (recB l) := fun l => by
    simp only [Hp.into, List.nil_append, List.map_set]
    congr 1
  have s0 : ∀ (D : DskD) (J : JD) l, (⟨[], lj (L.set x (recB l)) P q p D (recB J.recs) (jC .l P.p q J)⟩ : Hp).into = dj ((⟨[], L⟩ : Hp).into.set x (recB l)) (P.sh 0) (0 + q) (0 + p) D (recB J.recs) (jC .o (P.sh 0).p (0 + q) J) := fun D J l => by
    rw [into_lj recB_data, jC_up, iset]; rfl
  have xr : [AV.ptr (.l p) 9 0, .own (.l x) l0.length 0 l0.length 1 none, a].map (AV.ren (up (⟨[], lj (L.set x (recB l0)) P q p D (recB J.recs) (jC .l P.p q J)⟩ : Hp).G.length)) = [.ptr (.o (0 + p)) 9 0, .own (.o (0 + x)) l0.length 0 l0.length 1 none, a] := by
    simp only [List.map_cons, List.map_nil, har]; rfl
  refine op_turnL (r := .tup [.own (.o x) all.length 0 all.length 1 none, .v (.int .i64 (l0.length + k : Nat))]) ⟨[], lj (L.set x (recB all)) P q p D' (recB J'.recs) (jC .l P.p q J')⟩ ?_ (by simp) (by simp [free_of_get (hs D J l0)]) (by simp [free_of_get (hs D' J' all)]) rfl (by rw [lj_len, lj_len, List.length_set, List.length_set]) g1 g2 ?_
  · rw [xr, s0, s0, Nat.zero_add x]
    exact e
  · have d0 : down 0 (lj (L.set x (recB l0)) P q p D (recB J.recs) (jC .l P.p q J)).length [site] (.o x) = some (.l x) := by
      simp only [down]; rw [if_neg (by omega), if_pos (by rw [lj_len, List.length_set]; omega)]; rfl
    simp only [AV.ren, AV.ren.rens, List.length_nil, d0]
theorem same_rowsV (H : RowLib prog) {a b : AV} {l : List Txt} (va : ∀ L, TView recE ⟨G, L⟩ a l) (vb : ∀ L, TView recE ⟨G, L⟩ b l) (hl : l.length ≤ 2 ^ 40) :
    Ev prog (.call "haberdash/haberdashhelp.Same[[]byte]" [a, b, .fn "haberdash/haberdashhelp.Bytes" [] []] G) (.ret (.v (.bool true)) G) := by
  have vt : ∀ (t : Txt) h, View h (roAV t) 1 t.length (t.map byteAV) := fun t h => view_ro (by decide) (by simp)
  have := same_spec (T := recE) (U := recE) rfl rfl (H.same.trans (congrArg some (show f_help_Same___byte_ = gSame recE.esz recE.agg from rfl))) (G := G) (a := a) (b := b) (fv := .fn "haberdash/haberdashhelp.Bytes" [] []) (xs := l) (ys := l) va vb (fun x y => decide (x = y)) (fun i x y _ _ => by
    refine op_fnV (g := "haberdash/haberdashhelp.Bytes") (first := []) (xs := [roAV x, roAV y]) (caps := []) (h := ⟨G, []⟩) (h' := ⟨G, []⟩) ?_ rfl rfl rfl trivial trivial
    exact Bytes_spec H.bytes (fun L => vt x _) (fun L => vt y _)) (by omega) (by omega)
  rw [same2_eq, decide_eq_true rfl] at this
  exact this
theorem rowsV_spec (H : RowLib prog) {a b : AV} (ha : ∀ g, a.ren (up g) = a) (hb : ∀ g, b.ren (up g) = b) {l : List Txt} (va : ∀ L, TView recE ⟨G, L⟩ a l) (vb : ∀ L, TView recE ⟨G, L⟩ b l) (hl : l.length ≤ 2 ^ 40) :
    Ev prog (.call "haberdash/haberdashhelp.Rows" [a, b] G) (.ret (.v (.bool true)) G) := by
  refine call_of_fin H.rows ?_
  simp only [f_help_Rows_B, enter, List.length_cons, List.length_nil, List.replicate, Nat.reduceAdd, Nat.reduceSub, List.cons_append, List.nil_append]
  simp (disch := first | (simp only [DS, reduceCtorEq]; done) | omega) only [WS, St.guard, St.put, evalO, reduceCtorEq, reduceIte, Nat.reduceAdd, Nat.reduceEqDiff]
  refine (WP_p (x := .bool true) (by
    rw [into_nil]
    simp only [List.map_cons, List.map_nil, ha, hb]
    exact same_rowsV H va vb hl) (by exact trivial)).2 ?_
  simp (disch := first | (simp only [DS, reduceCtorEq]; done) | omega) only [WS, St.guard, St.put, evalO, reduceCtorEq, reduceIte, Nat.reduceAdd, Nat.reduceEqDiff, fin_tmp, leave_v]
  simp
end Go.AM
namespace Go.AM
variable {D : DskD} {J : JD} {n E : Nat} {A : List Sec} {L : List ERec} {bs : List Txt}
theorem put_end (h1 : 1 ≤ E) (hE : E < 256) (h0 : 0 < n) (h30 : n < 2 ^ 30) (h : PK n E D J A L) (hb : ∀ b ∈ bs, b ≠ [] ∧ b.length ≤ 400000) :
    ∃ L', PEnd n E (addAll (D, J) (bs.take (okN (D, J) bs + 1))).1 L' bs[okN (D, J) bs]? ∧ rec2 L' = rec2 L ++ bs.take (okN (D, J) bs) := by
  obtain ⟨A', hk⟩ := put_pk h1 hE h0 h30 bs (D, J) A L h hb (okN (D, J) bs) (Nat.le_refl _)
  have hr : rec2 (L ++ (bs.take (okN (D, J) bs)).map fun b => (epW E, b)) = rec2 L ++ bs.take (okN (D, J) bs) := by
    rw [rec2_app]; unfold rec2; rw [List.map_map]
    congr 1
    exact List.map_id _
  refine ⟨_, ?_, hr⟩
  cases hc : bs[okN (D, J) bs]? with
  | none =>
    have hlen := List.getElem?_eq_none_iff.1 hc
    have e1 : bs.take (okN (D, J) bs + 1) = bs.take (okN (D, J) bs) := by rw [List.take_of_length_le (by omega), List.take_of_length_le (by omega)]
    rw [e1]
    exact hk.pend
  | some b =>
    have e1 : bs.take (okN (D, J) bs + 1) = bs.take (okN (D, J) bs) ++ [b] := by rw [List.take_add_one, hc]; rfl
    rw [e1, addAll_snoc]
    have hbm := hb b (List.mem_of_getElem? hc)
    have hne := (okN_at h1 hE h0 h30 bs (D, J) _ b hc).2 rfl
    rcases hk.add h1 hE h0 h30 hbm.1 hbm.2 with ⟨c, _⟩ | ⟨_, c⟩
    · exact absurd c hne
    · exact c
theorem rec2_len : (rec2 L).length = L.length := by unfold rec2; rw [List.length_map]
structure KS where
  D : DskD
  all : List Txt
  ok : Nat
def KInv (E : Nat) (s : KS) : Prop := ∃ L c, PEnd 90 E s.D L c ∧ s.ok = L.length ∧ s.all = rec2 L ++ c.toList
theorem kinv_put (h1 : 1 ≤ E) (hE : E < 256) (h : PK 90 E D J A L) (hb : ∀ b ∈ bs, b ≠ [] ∧ b.length ≤ 400000) :
    KInv E ⟨(addAll (D, J) (bs.take (okN (D, J) bs + 1))).1, rec2 L ++ bs.take (okN (D, J) bs + 1), L.length + okN (D, J) bs⟩ := by
  obtain ⟨L', h2, h3⟩ := put_end h1 hE (by omega) (by omega) h hb
  have hle := okN_le (l := bs) (q := (D, J))
  refine ⟨L', _, h2, ?_, ?_⟩
  · show L.length + okN (D, J) bs = L'.length
    rw [← rec2_len (L := L'), h3, List.length_append, rec2_len, List.length_take]; omega
  · show rec2 L ++ bs.take (okN (D, J) bs + 1) = _
    rw [h3, List.append_assoc, List.take_add_one]
structure Shown (E : Nat) (s : KS) (D1 : DskD) (r : List Txt) (A : List Sec) (L : List ERec) : Prop where
  h : Half 90 D1 A 0 0 (fun _ => zsec)
  off : D1.off = false
  k : KI 90 (E + 1) A L
  rr : r = rec2 L
  lo : s.ok ≤ r.length
  hi : r.length ≤ s.ok + 1
  al : r.length ≤ s.all.length
  eq : s.all.take r.length = r
  len : r.length ≤ 90
theorem kinv_shown {s : KS} (h : KInv E s) (ks : List Int) : ∃ A L, Shown E s (s.D.crash ks).start (rec2 L) A L := by
  obtain ⟨L, c, hP, h1, h2⟩ := h
  obtain ⟨A', a1, a2, a3⟩ := hP.cr ks
  have hal : s.all.length = L.length + c.toList.length := by rw [h2, List.length_append, rec2_len]
  have fin : ∀ L', KI 90 (E + 1) A' L' → (rec2 L').length ≤ 90 := fun L' k => by
    have := laid_len k.laid; have := k.fit
    rw [rec2_len]; omega
  rcases a3 with k | ⟨b, hc, k⟩
  · refine ⟨A', L, a1, a2, k, rfl, ?_, ?_, ?_, ?_, fin _ k⟩
    · rw [rec2_len]; omega
    · rw [rec2_len]; omega
    · rw [rec2_len]; omega
    · rw [h2, List.take_left]
  · subst hc
    have hal' : s.all.length = L.length + 1 := by rw [hal]; rfl
    have hr : rec2 (L ++ [(epW E, b)]) = s.all := by rw [h2, rec2_app]; rfl
    refine ⟨A', L ++ [(epW E, b)], a1, a2, k, rfl, ?_, ?_, ?_, ?_, fin _ k⟩
    · rw [rec2_len, List.length_append]; simp; omega
    · rw [rec2_len, List.length_append]; simp; omega
    · rw [rec2_len, List.length_append]; simp; omega
    · rw [hr, List.take_of_length_le (Nat.le_refl _)]
theorem shown_pk {s : KS} {D1 : DskD} {r : List Txt} (h : Shown E s D1 r A L) (m : Nat) (hm : m < 2 ^ 63) : PK 90 (E + 1) { D1 with armed := m } (openJ D1 0 90 (epW (E + 1))) A L ∧ (openJ D1 0 90 (epW (E + 1))).recs = r := by
  have hb := h.h.of0
  have hz := h.h.z
  obtain ⟨o1, o2, o3, o4, o5, o6⟩ := open_laid (D := D1) (n := 90) (frm := 0) (L := L) (ep := epW (E + 1)) (by rw [hb, h.k.len]; omega) (by rw [hb]; exact h.k.laid) h.k.fit (by omega) (by rw [hb, Nat.zero_add]; exact h.k.no)
  have hh : Half 90 ({ D1 with armed := m } : DskD) A (sumE L) 0 (fun _ => zsec) := ⟨⟨hz.a, hz.b, hz.l, hm⟩, h.h.a, fun t ht => by
    have := h.h.b t ht
    rw [if_neg (by omega)] at this ⊢
    exact this⟩
  exact ⟨⟨hh, h.off, h.k, o1, o2, o3, o4, o6, o5⟩, o1.trans h.rr.symm⟩
theorem pk_new (m : Nat) (hm : m < 2 ^ 63) : PK 90 1 { newD 90 with armed := m } (newJ 0 90 (epW 1)) (newD 90).a [] := by
  have hz : Siz (newD 90) 90 := .new
  have hs : ∀ i s, (newD 90).a[i]? = some s → s = zsec := fun i s h => by
    have : (newD 90).a = List.replicate 90 zsec := rfl
    rw [this, List.getElem?_replicate] at h
    split at h
    · exact (Option.some.inj h).symm
    · cases h
  have zb : takeOK zsec.1 = false := zs64_bad
  refine ⟨⟨⟨hz.a, hz.b, hz.l, hm⟩, rfl, fun t ht => ?_⟩, rfl, ⟨hz.a, trivial, (fun p hp => by cases hp), by show (0 : Nat) ≤ 90; omega, fun i s _ h => ?_, fun i y _ hy => ?_, fun e m y hW => ?_⟩, rfl, rfl, rfl, rfl, rfl, rfl⟩
  · rw [if_neg (by omega)]
    refine ⟨rfl, ?_⟩
    show (List.replicate 90 false)[t]? = _
    rw [List.getElem?_replicate, if_pos ht]
  · rw [hs i s h]; exact ⟨rfl, rfl, by decide, by decide⟩
  · obtain ⟨s, k1, k2, k3⟩ := hy
    rw [hs i s k1] at k3
    rw [k3, takeOK_bytes k2] at zb; cases zb
  · obtain ⟨hm', hk⟩ := hW
    obtain ⟨⟨s, k1, k2, k3⟩, _⟩ := hk 0 (by omega)
    rw [hs _ s k1] at k3
    rw [k3, takeOK_bytes k2] at zb; cases zb
def ksNext (E : Nat) (ks : List Int) (m : Nat) (more : List Txt) (s : KS) : KS :=
  ⟨(addAll ({ (s.D.crash ks).start with armed := m }, openJ (s.D.crash ks).start 0 90 (epW (E + 1))) (more.take (okN ({ (s.D.crash ks).start with armed := m }, openJ (s.D.crash ks).start 0 90 (epW (E + 1))) more + 1))).1,
    (openJ (s.D.crash ks).start 0 90 (epW (E + 1))).recs ++ more.take (okN ({ (s.D.crash ks).start with armed := m }, openJ (s.D.crash ks).start 0 90 (epW (E + 1))) more + 1),
    (openJ (s.D.crash ks).start 0 90 (epW (E + 1))).recs.length + okN ({ (s.D.crash ks).start with armed := m }, openJ (s.D.crash ks).start 0 90 (epW (E + 1))) more⟩
theorem ksNext_inv {s : KS} (h1 : 1 ≤ E) (hE : E + 1 < 256) (h : KInv E s) {ks : List Int} {m : Nat} (hm : m < 2 ^ 63) {more : List Txt} (hb : ∀ b ∈ more, b ≠ [] ∧ b.length ≤ 400000) : KInv (E + 1) (ksNext E ks m more s) := by
  obtain ⟨A, L, hS⟩ := kinv_shown h ks
  obtain ⟨p1, p2⟩ := shown_pk hS m hm
  have := kinv_put (E := E + 1) (by omega) hE p1 hb
  unfold ksNext
  rw [p2, rec2_len]
  exact this
end Go.AM
