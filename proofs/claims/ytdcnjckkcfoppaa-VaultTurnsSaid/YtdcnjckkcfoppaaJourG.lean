import Derived.Test.YtdcnjckkcfoppaaJourF
import Derived.Test.YtdcnjckkcfoppaaLawLeafB
import Derived.Test.YtdcnjckkcfoppaaJourD
set_option linter.unusedVariables false
set_option linter.unusedSimpArgs false
namespace Go.AM
theorem be4_small {E : Nat} (h : E < 256) : be4 (epW E) = [0, 0, 0, UInt8.ofNat E] := by
  have e : (epW E).toNat = E := by unfold epW; rw [BitVec.toNat_ofNat, Nat.mod_eq_of_lt (by omega)]
  have s : ∀ k, ((epW E) >>> k).toNat = E >>> k := fun k => by rw [BitVec.toNat_ushiftRight, e]
  unfold be4
  rw [s, s, s, s]
  have h1 : E >>> 24 = 0 := by rw [Nat.shiftRight_eq_div_pow]; omega
  have h2 : E >>> 16 = 0 := by rw [Nat.shiftRight_eq_div_pow]; omega
  have h3 : E >>> 8 = 0 := by rw [Nat.shiftRight_eq_div_pow]; omega
  rw [h1, h2, h3]; rfl
def b3 (s : Sec) : Nat := (s.1.getD 3 0).toNat
def b63 (s : Sec) : Nat := (s.1.getD 63 0).toNat
structure Tg (E : Nat) (s : Sec) : Prop where
  hd : s.1.take 3 = [0, 0, 0]
  tl : (s.1.drop 60).take 3 = [0, 0, 0]
  h3 : b3 s < E
  h63 : b63 s < E
theorem Tg.mono {E F : Nat} {s : Sec} (h : Tg E s) (hf : E ≤ F) : Tg F s := ⟨h.hd, h.tl, by have := h.h3; omega, by have := h.h63; omega⟩
theorem head4 (s : Sec) : s.1.take 4 = s.1.take 3 ++ [s.1.getD 3 0] := by
  have := s.2
  rw [List.getD_eq_getElem?_getD, List.getElem?_eq_getElem (by omega), Option.getD_some, List.take_append_getElem]
theorem tail4 (s : Sec) : s.1.drop 60 = (s.1.drop 60).take 3 ++ [s.1.getD 63 0] := by
  have := s.2
  have e : s.1.getD 63 0 = (s.1.drop 60).getD 3 0 := by
    rw [List.getD_eq_getElem?_getD, List.getD_eq_getElem?_getD, List.getElem?_drop]
  have l : (s.1.drop 60).length = 4 := by rw [List.length_drop]; omega
  rw [e, List.getD_eq_getElem?_getD, List.getElem?_eq_getElem (by omega), Option.getD_some, List.take_append_getElem, List.take_of_length_le (by omega)]
theorem u8_ofNat_self (a : UInt8) : UInt8.ofNat a.toNat = a := by simp
theorem leaf_e {E : Nat} {s : Sec} {y : LeafD} (h : Tg E s) (hy : y.right = true) (hs : s.1 = y.bytes) : y.e = epW (b3 s) ∧ b3 s = b63 s := by
  have ly := (right_len hy).2
  have h1 := bytes_head ly
  have h2 := bytes_tail ly
  rw [← hs, head4, h.hd] at h1
  rw [← hs, tail4, h.tl] at h2
  have e3 : be4 y.e = be4 (epW (b3 s)) := by
    rw [← h1, be4_small (by unfold b3; exact UInt8.toNat_lt _)]
    unfold b3; rw [u8_ofNat_self]; rfl
  refine ⟨be4_inj e3, ?_⟩
  rw [← h1] at h2
  simp only [List.cons_append, List.nil_append, List.cons.injEq, and_true, true_and] at h2
  unfold b3 b63; rw [h2]
theorem epW_inj {a b : Nat} (ha : a < 256) (hb : b < 256) (h : epW a = epW b) : a = b := by
  have := congrArg BitVec.toNat h
  unfold epW at this
  rw [BitVec.toNat_ofNat, BitVec.toNat_ofNat, Nat.mod_eq_of_lt (by omega), Nat.mod_eq_of_lt (by omega)] at this
  exact this
theorem leaf_tg {E : Nat} {x : LeafD} {s : Sec} (hE : E < 256) (hx : x.right = true) (he : x.e = epW E) (hs : s.1 = x.bytes) : s.1.take 3 = [0, 0, 0] ∧ (s.1.drop 60).take 3 = [0, 0, 0] ∧ b3 s = E ∧ b63 s = E := by
  have lx := (right_len hx).2
  have h1 := bytes_head lx
  have h2 := bytes_tail lx
  rw [← hs, he, be4_small hE] at h1 h2
  have hl := s.2
  have k1 : s.1.take 3 = (s.1.take 4).take 3 := by rw [List.take_take]; rfl
  refine ⟨by rw [k1, h1]; rfl, by rw [h2]; rfl, ?_, ?_⟩
  · have := head4 s
    rw [h1, k1, h1] at this
    simp only [List.take_succ_cons, List.take_zero, List.cons_append, List.nil_append, List.cons.injEq, and_true, true_and] at this
    unfold b3; rw [← this]; simp; omega
  · have := tail4 s
    rw [h2] at this
    simp only [List.take_succ_cons, List.take_zero, List.cons_append, List.nil_append, List.cons.injEq, and_true, true_and] at this
    unfold b63; rw [← this]; simp; omega
theorem mix_get {k : Int} {s t : Sec} {j : Nat} (hj : j < 64) : (mixS k s t).1.getD j 0 = if j < clampN k then t.1.getD j 0 else s.1.getD j 0 := by
  have hc := clampN_le (k := k)
  have := s.2; have := t.2
  have hl : (t.1.take (clampN k)).length = clampN k := by rw [List.length_take]; omega
  show (t.1.take (clampN k) ++ s.1.drop (clampN k)).getD j 0 = _
  simp only [List.getD_eq_getElem?_getD]
  split
  · rename_i h
    rw [List.getElem?_append_left (by omega), List.getElem?_take_of_lt h]
  · rename_i h
    rw [List.getElem?_append_right (by omega), hl, List.getElem?_drop]
    congr 2; omega
theorem sec_ext {s t : Sec} (h : ∀ j, j < 64 → s.1.getD j 0 = t.1.getD j 0) : s = t := by
  refine Subtype.ext (List.ext_getElem? fun j => ?_)
  have hs := s.2; have ht := t.2
  by_cases hj : j < 64
  · have := h j hj
    simp only [List.getD_eq_getElem?_getD] at this
    rw [List.getElem?_eq_getElem (by omega), List.getElem?_eq_getElem (by omega)] at this ⊢
    simpa using this
  · rw [List.getElem?_eq_none (by omega), List.getElem?_eq_none (by omega)]
theorem take3_iff {s : Sec} : s.1.take 3 = [0, 0, 0] ↔ s.1.getD 0 0 = 0 ∧ s.1.getD 1 0 = 0 ∧ s.1.getD 2 0 = 0 := by
  obtain ⟨l, hl⟩ := s
  match l, hl with
  | a :: b :: c :: r, hl => simp
theorem tail3_iff {s : Sec} : (s.1.drop 60).take 3 = [0, 0, 0] ↔ s.1.getD 60 0 = 0 ∧ s.1.getD 61 0 = 0 ∧ s.1.getD 62 0 = 0 := by
  have hl := s.2
  have e : ∀ k, s.1.getD (60 + k) 0 = (s.1.drop 60).getD k 0 := fun k => by
    rw [List.getD_eq_getElem?_getD, List.getD_eq_getElem?_getD, List.getElem?_drop]
  rw [show (60 : Nat) = 60 + 0 from rfl, show (61 : Nat) = 60 + 1 from rfl, show (62 : Nat) = 60 + 2 from rfl, e, e, e]
  have hd : (s.1.drop 60).length = 4 := by rw [List.length_drop]; omega
  generalize s.1.drop 60 = l at *
  match l, hd with
  | a :: b :: c :: r, hd => simp
theorem mix_leaf {E : Nat} {x : LeafD} {s t : Sec} {k : Int} (h1 : 1 ≤ E) (hE : E < 256) (hx : x.right = true) (he : x.e = epW E) (ht : t.1 = x.bytes) (hs : Tg E s) :
    Tg (E + 1) (mixS k s t) ∧ (mixS k s t = t ∨ mixS k s t = s ∨ takeOK (mixS k s t).1 = false) := by
  obtain ⟨a1, a2, a3, a4⟩ := leaf_tg hE hx he ht
  have c := clampN_le (k := k)
  obtain ⟨s0, s1, s2⟩ := take3_iff.1 hs.hd
  obtain ⟨s60, s61, s62⟩ := tail3_iff.1 hs.tl
  obtain ⟨t0, t1, t2⟩ := take3_iff.1 a1
  obtain ⟨t60, t61, t62⟩ := tail3_iff.1 a2
  have h3 := hs.h3; have h63 := hs.h63
  have m3 : b3 (mixS k s t) = if 3 < clampN k then E else b3 s := by
    unfold b3; rw [mix_get (by omega)]
    split
    · exact a3
    · rfl
  have m63 : b63 (mixS k s t) = if 63 < clampN k then E else b63 s := by
    unfold b63; rw [mix_get (by omega)]
    split
    · exact a4
    · rfl
  have T : Tg (E + 1) (mixS k s t) := by
    refine ⟨take3_iff.2 ⟨?_, ?_, ?_⟩, tail3_iff.2 ⟨?_, ?_, ?_⟩, ?_, ?_⟩
    all_goals first | (rw [mix_get (by omega)]; split <;> assumption) | skip
    · rw [m3]; split <;> omega
    · rw [m63]; split <;> omega
  refine ⟨T, ?_⟩
  by_cases c64 : clampN k = 64
  · left
    refine sec_ext fun j hj => ?_
    rw [mix_get hj, if_pos (by omega)]
  by_cases c3 : clampN k ≤ 3
  · right; left
    refine sec_ext fun j hj => ?_
    rw [mix_get hj]
    split
    · have : j = 0 ∨ j = 1 ∨ j = 2 := by omega
      rcases this with rfl | rfl | rfl
      · rw [s0, t0]
      · rw [s1, t1]
      · rw [s2, t2]
    · rfl
  · right; right
    cases hok : takeOK (mixS k s t).1 with
    | false => rfl
    | true =>
      obtain ⟨y, hy, hm⟩ := takeOK_iff.1 hok
      have := (leaf_e T hy hm).2
      rw [m3, m63, if_pos (by omega), if_neg (by omega)] at this
      omega
def LeafAt (A : List Sec) (i : Nat) (y : LeafD) : Prop := ∃ s, A[i]? = some s ∧ y.right = true ∧ s.1 = y.bytes
structure LfOk (y : LeafD) (e : BitVec 32) (num k : Nat) (l : Bool) : Prop where
  e : y.e = e
  n : y.n.toNat = num
  f : y.f = decide (k = 0)
  l : y.l = l
def Whole (A : List Sec) (u num : Nat) (e : BitVec 32) (m : Nat) (y : Nat → LeafD) : Prop := 1 ≤ m ∧ ∀ k, k < m → LeafAt A (u + k) (y k) ∧ LfOk (y k) e num k (decide (k + 1 = m))
def NoRec (A : List Sec) (u num : Nat) : Prop := ∀ e m y, ¬ Whole A u num e m y
theorem leafAt_fun {A : List Sec} {i : Nat} {y z : LeafD} (h : LeafAt A i y) (h' : LeafAt A i z) : y = z := by
  obtain ⟨s, h1, h2, h3⟩ := h
  obtain ⟨t, k1, k2, k3⟩ := h'
  rw [h1] at k1; cases k1
  have a := takeX_bytes h2
  have b := takeX_bytes k2
  rw [← h3] at a; rw [← k3] at b
  exact a.symm.trans b
end Go.AM
namespace Go.AM
variable {D : DskD} {J : JD} {n : Nat}
theorem lv_at {i : Nat} (hf : J.frm + J.n ≤ D.b.length) (h : lvOK D J i = true) : LeafAt D.b (J.frm + i) (lvX D J i) := by
  obtain ⟨hi, hr⟩ := lvOK_right h
  unfold lvOK at h
  unfold lvX at hr ⊢
  rw [if_pos hi] at h hr ⊢
  obtain ⟨y, hy, hs⟩ := takeOK_iff.1 h
  refine ⟨secAt D.b ((J.frm + i : Nat) : Int), ?_, hr, ?_⟩
  · unfold secAt
    rw [Int.toNat_natCast, List.getD_eq_getElem?_getD, List.getElem?_eq_getElem (by omega), Option.getD_some]
  · rw [hs, takeX_bytes hy]
theorem lvNext_ok {k : Nat} {e : BitVec 32} (h : lvNext D J k e = true) : lvOK D J (J.used + k) = true ∧ (lvX D J (J.used + k)).n.toNat = J.recs.length ∧ (lvX D J (J.used + k)).f = decide (k = 0) ∧ (k ≠ 0 → (lvX D J (J.used + k)).e = e) := by
  unfold lvNext at h
  simp only [Bool.and_eq_true, Bool.or_eq_true, beq_iff_eq, decide_eq_true_eq, Bool.not_eq_true', decide_eq_false_iff_not] at h
  refine ⟨?_, ?_, ?_, fun hk => ?_⟩
  · cases h' : lvOK D J (J.used + k) <;> simp_all
  · simp_all
  · simp_all
  · simp_all
abbrev ERec := BitVec 32 × Txt
def Laid (A : List Sec) (frm : Nat) : Nat → Nat → BitVec 32 → List ERec → Prop
  | _, _, _, [] => True
  | num, u, la, (e, b) :: L => RecAt' A e num (frm + u) b ∧ e ≠ 0#32 ∧ la.toNat ≤ e.toNat ∧ b ≠ [] ∧ Laid A frm (num + 1) (u + needN b.length) e L
def rec2 (L : List ERec) : List Txt := L.map (·.2)
def sumE (L : List ERec) : Nat := sumN (rec2 L)
theorem rec2_app {L M : List ERec} : rec2 (L ++ M) = rec2 L ++ rec2 M := List.map_append
theorem sumE_app {L M : List ERec} : sumE (L ++ M) = sumE L + sumE M := by unfold sumE; rw [rec2_app, sumN_app]
theorem laid_len {A : List Sec} {frm : Nat} : ∀ {L : List ERec} {num u : Nat} {la : BitVec 32}, Laid A frm num u la L → L.length ≤ sumE L
  | [], _, _, _, _ => Nat.zero_le _
  | (e, b) :: L, num, u, la, h => by
    have := laid_len h.2.2.2.2
    have := needN_pos' h.2.2.2.1
    show L.length + 1 ≤ needN b.length + sumE L
    omega
theorem laid_app {A A' : List Sec} {frm : Nat} : ∀ {L : List ERec} {num u : Nat} {la e : BitVec 32} {b : Txt}, Laid A frm num u la L → (∀ t, t < frm + (u + sumE L) → A'[t]? = A[t]?) → e ≠ 0#32 → b ≠ [] → la.toNat ≤ e.toNat → (∀ p ∈ L, p.1.toNat ≤ e.toNat) →
    RecAt' A' e (num + L.length) (frm + (u + sumE L)) b → Laid A' frm num u la (L ++ [(e, b)])
  | [], num, u, la, e, b, _, _, he, hb, hla, _, hR => ⟨by simpa [sumE, sumN, rec2] using hR, he, hla, hb, trivial⟩
  | (e1, c) :: L, num, u, la, e, b, hL, hA, he, hb, hla, hp, hR => by
    obtain ⟨h1, h2, h3, h4, h5⟩ := hL
    have hsum : sumE ((e1, c) :: L) = needN c.length + sumE L := rfl
    refine ⟨fun k hk => ?_, h2, h3, h4, laid_app h5 (fun t ht => hA t (by omega)) he hb (hp (e1, c) (by simp)) (fun p h => hp p (by simp [h])) ?_⟩
    · rw [hA _ (by omega)]; exact h1 k hk
    · rw [show num + 1 + L.length = num + ((e1, c) :: L).length by simp; omega, show u + needN c.length + sumE L = u + sumE ((e1, c) :: L) by omega]
      exact hR
theorem laid_cong {A A' : List Sec} {frm : Nat} : ∀ {L : List ERec} {num u : Nat} {la : BitVec 32}, Laid A frm num u la L → (∀ t, t < frm + (u + sumE L) → A'[t]? = A[t]?) → Laid A' frm num u la L
  | [], _, _, _, _, _ => trivial
  | (e1, c) :: L, num, u, la, hL, hA => by
    obtain ⟨h1, h2, h3, h4, h5⟩ := hL
    have hsum : sumE ((e1, c) :: L) = needN c.length + sumE L := rfl
    exact ⟨fun k hk => by rw [hA _ (by omega)]; exact h1 k hk, h2, h3, h4, laid_cong h5 fun t ht => hA t (by omega)⟩
end Go.AM
namespace Go.AM
variable {D : DskD} {J : JD} {n : Nat} {A : List Sec} {u w : Nat} {f : Nat → Sec}
structure Half (n : Nat) (D : DskD) (A : List Sec) (u w : Nat) (f : Nat → Sec) : Prop where
  z : Siz D n
  a : D.a = A
  b : ∀ t, t < n → if u ≤ t ∧ t < u + w then D.b[t]? = some (f (t - u)) ∧ D.l[t]? = some true else D.b[t]? = A[t]? ∧ D.l[t]? = some false
theorem Half.any0 (h : Half n D A u 0 f) {u' : Nat} {f' : Nat → Sec} : Half n D A u' 0 f' := ⟨h.z, h.a, fun t ht => by
  have := h.b t ht
  rw [if_neg (by omega)] at this ⊢
  exact this⟩
theorem write_half (h : Half n D A u w f) (ho : D.off = false) (hw : u + w < n) :
    ((writeE D ((u + w : Nat) : Int) = 0 ∧ (D.write ((u + w : Nat) : Int) (f w)).off = false) ∨ writeE D ((u + w : Nat) : Int) = 9) ∧ Half n (D.write ((u + w : Nat) : Int) (f w)) A u (w + 1) f := by
  have hz := h.z
  have hm : mayE D ((u + w : Nat) : Int) = 0 := by
    unfold mayE; rw [ho, if_neg (by simp), if_neg (by have := hz.b; omega)]
  have hW : D.write ((u + w : Nat) : Int) (f w) = (D.put (u + w) (f w)).hit := by
    unfold DskD.write; rw [if_pos hm, Int.toNat_natCast]
  refine ⟨?_, ⟨hz.write, ?_, fun t ht => ?_⟩⟩
  · unfold writeE
    rw [if_pos hm, hW]
    cases hh : D.hits with
    | true => exact .inr rfl
    | false =>
      refine .inl ⟨rfl, ?_⟩
      unfold DskD.hit
      split
      · exact ho
      · exact hh
  · rw [hW]
    have : (D.put (u + w) (f w)).hit.a = D.a := by unfold DskD.hit; split <;> rfl
    rw [this, h.a]
  · rw [hW]
    have e1 : (D.put (u + w) (f w)).hit.b = D.b.set (u + w) (f w) := by unfold DskD.hit; split <;> rfl
    have e2 : (D.put (u + w) (f w)).hit.l = D.l.set (u + w) true := by unfold DskD.hit; split <;> rfl
    rw [e1, e2, List.getElem?_set, List.getElem?_set]
    have := h.b t ht
    by_cases h1 : u + w = t
    · subst h1
      rw [if_pos (by omega), if_pos rfl, if_pos rfl, if_pos (by rw [hz.b]; omega), if_pos (by rw [hz.l]; omega), show u + w - u = w by omega]
      exact ⟨rfl, rfl⟩
    · rw [if_neg h1, if_neg h1]
      by_cases h2 : u ≤ t ∧ t < u + w
      · rw [if_pos h2] at this; rw [if_pos (by omega)]; exact this
      · rw [if_neg h2] at this; rw [if_neg (by omega)]; exact this
theorem sync_half (h : Half n D A u w f) (ho : D.off = false) (h0 : 0 < n) : (writeE D 0 = 0 ∧ D.sync.off = false ∧ Half n D.sync D.b u 0 f) ∨ (writeE D 0 = 9 ∧ Half n D.sync A u w f) := by
  have hz := h.z
  have hm : mayE D 0 = 0 := by
    unfold mayE; rw [ho, if_neg (by simp), if_neg (by have := hz.b; omega)]
  unfold writeE DskD.sync
  rw [if_pos hm, if_pos hm]
  cases hh : D.hits with
  | true =>
    refine .inr ⟨rfl, ?_⟩
    have e1 : D.hit.b = D.b := by unfold DskD.hit; split <;> rfl
    have e2 : D.hit.l = D.l := by unfold DskD.hit; split <;> rfl
    have e3 : D.hit.a = D.a := by unfold DskD.hit; split <;> rfl
    exact ⟨hz.hit, by show D.hit.a = A; rw [e3, h.a], fun t ht => by show if _ then D.hit.b[t]? = _ ∧ D.hit.l[t]? = _ else D.hit.b[t]? = _ ∧ D.hit.l[t]? = _; rw [e1, e2]; exact h.b t ht⟩
  | false =>
    have e1 : D.hit.b = D.b := by unfold DskD.hit; split <;> rfl
    refine .inl ⟨rfl, ?_, ⟨⟨hz.b, hz.hit.b, by simp [hz.l], hz.hit.armed⟩, rfl, fun t ht => ?_⟩⟩
    · show D.hit.off = false
      unfold DskD.hit
      split
      · exact ho
      · exact hh
    · rw [if_neg (by omega)]
      exact ⟨by show D.hit.b[t]? = _; rw [e1], by show (List.replicate D.l.length false)[t]? = _; rw [List.getElem?_replicate, if_pos (by rw [hz.l]; exact ht)]⟩
theorem layF_half {at' : Nat → Int} (ha : ∀ j, at' j = ((u + j : Nat) : Int)) (h0 : 0 < n) : ∀ (m i : Nat) {D : DskD}, Half n D A u i f → D.off = false → u + i + m ≤ n →
    ((layF D at' f i m).1 = 0 ∧ (layF D at' f i m).2.off = false ∧ ∃ A', Half n (layF D at' f i m).2 A' u 0 f ∧ ∀ t, A'[t]? = if u ≤ t ∧ t < u + (i + m) then some (f (t - u)) else A[t]?) ∨
    ((layF D at' f i m).1 = 9 ∧ ∃ w, w ≤ i + m ∧ Half n (layF D at' f i m).2 A u w f)
  | 0, i, D, h, ho, hm => by
    unfold layF
    rcases sync_half h ho h0 with ⟨a1, a2, a3⟩ | ⟨a1, a2⟩
    · refine .inl ⟨a1, a2, D.b, a3, fun t => ?_⟩
      have hz := h.z
      by_cases ht : t < n
      · have := h.b t ht
        by_cases h2 : u ≤ t ∧ t < u + i
        · rw [if_pos h2] at this; rw [if_pos (by omega)]; exact this.1
        · rw [if_neg h2] at this; rw [if_neg (by omega)]; exact this.1
      · have hA : A.length = n := by rw [← h.a]; exact hz.a
        rw [if_neg (by omega), List.getElem?_eq_none (by have := hz.b; omega), List.getElem?_eq_none (by omega)]
    · exact .inr ⟨a1, i, by omega, a2⟩
  | m + 1, i, D, h, ho, hm => by
    obtain ⟨c, h'⟩ := write_half h ho (by omega)
    unfold layF
    rw [ha i]
    rcases c with ⟨c1, c2⟩ | c1
    · rw [if_pos c1]
      have := layF_half ha h0 m (i + 1) h' c2 (by omega)
      rw [show i + 1 + m = i + (m + 1) by omega] at this
      exact this
    · rw [if_neg (by omega)]
      exact .inr ⟨c1, i + 1, by omega, h'⟩
theorem settle_at {K : Nat → Int} (z : Siz D n) : ∀ m, m ≤ n → (∀ t, m ≤ t → (settleN K D m).1.a[t]? = D.a[t]? ∧ (settleN K D m).1.b[t]? = D.b[t]? ∧ (settleN K D m).1.l[t]? = D.l[t]?) ∧
    (∀ t, t < m → (settleN K D m).1.l[t]? = some false ∧ (D.l[t]? = some true → ∃ c, (settleN K D m).1.a[t]? = some (mixS c (D.a.getD t zsec) (D.b.getD t zsec)) ∧ (settleN K D m).1.b[t]? = (settleN K D m).1.a[t]?) ∧
      (D.l[t]? = some false → (settleN K D m).1.a[t]? = D.a[t]? ∧ (settleN K D m).1.b[t]? = D.b[t]?))
  | 0, _ => ⟨fun _ _ => ⟨rfl, rfl, rfl⟩, fun t ht => absurd ht (by omega)⟩
  | m + 1, hm => by
    obtain ⟨i1, i2⟩ := settle_at (K := K) z m (by omega)
    obtain ⟨l1, l2, l3, _⟩ := settleN_len (D := D) (K := K) m
    have za := z.a; have zb := z.b; have zl := z.l
    have hlm : (settleN K D m).1.l[m]? = D.l[m]? := (i1 m (Nat.le_refl _)).2.2
    have hga : (settleN K D m).1.a.getD m zsec = D.a.getD m zsec := by rw [List.getD_eq_getElem?_getD, List.getD_eq_getElem?_getD, (i1 m (Nat.le_refl _)).1]
    have hgb : (settleN K D m).1.b.getD m zsec = D.b.getD m zsec := by rw [List.getD_eq_getElem?_getD, List.getD_eq_getElem?_getD, (i1 m (Nat.le_refl _)).2.1]
    obtain ⟨x, hx⟩ : ∃ x, D.l[m]? = some x := ⟨_, List.getElem?_eq_getElem (by omega)⟩
    have hgl : (settleN K D m).1.l.getD m false = x := by rw [List.getD_eq_getElem?_getD, hlm, hx]; rfl
    unfold settleN
    simp only [hgl]
    cases x with
    | false =>
      simp only [Bool.false_eq_true, if_false]
      refine ⟨fun t ht => i1 t (by omega), fun t ht => ?_⟩
      by_cases htm : t = m
      · subst htm
        obtain ⟨j1, j2, j3⟩ := i1 t (Nat.le_refl _)
        exact ⟨by rw [j3, hx], fun h => (by rw [hx] at h; cases h), fun _ => ⟨j1, j2⟩⟩
      · exact i2 t (by omega)
    | true =>
      simp only [if_true, hga, hgb]
      refine ⟨fun t ht => ?_, fun t ht => ?_⟩
      · rw [List.getElem?_set_ne (by omega), List.getElem?_set_ne (by omega), List.getElem?_set_ne (by omega)]
        exact i1 t (by omega)
      · by_cases htm : t = m
        · subst htm
          rw [List.getElem?_set_self (by omega), List.getElem?_set_self (by omega), List.getElem?_set_self (by omega)]
          exact ⟨rfl, fun _ => ⟨_, rfl, rfl⟩, fun h => (by rw [hx] at h; cases h)⟩
        · rw [List.getElem?_set_ne (by omega), List.getElem?_set_ne (by omega), List.getElem?_set_ne (by omega)]
          exact i2 t (by omega)
theorem settle_half {K : Nat → Int} (h : Half n D A u w f) : ∃ A', Half n (D.settle K) A' u 0 f ∧ ∀ t, t < n → if u ≤ t ∧ t < u + w then ∃ c, A'[t]? = some (mixS c (A.getD t zsec) (f (t - u))) else A'[t]? = A[t]? := by
  have hz := h.z
  obtain ⟨_, i2⟩ := settle_at (K := K) hz n (Nat.le_refl _)
  have hb : D.b.length = n := hz.b
  have ha := h.a
  refine ⟨(D.settle K).a, ⟨hz.settle, rfl, fun t ht => ?_⟩, fun t ht => ?_⟩
  · rw [if_neg (by omega)]
    obtain ⟨j1, j2, j3⟩ := i2 t ht
    have hB := h.b t ht
    unfold DskD.settle
    rw [hb]
    refine ⟨?_, j1⟩
    by_cases h2 : u ≤ t ∧ t < u + w
    · rw [if_pos h2] at hB
      obtain ⟨c, k1, k2⟩ := j2 hB.2
      exact k2
    · rw [if_neg h2] at hB
      obtain ⟨k1, k2⟩ := j3 hB.2
      show (settleN K D n).1.b[t]? = (settleN K D n).1.a[t]?
      rw [k1, k2, hB.1, ha]
  · obtain ⟨j1, j2, j3⟩ := i2 t ht
    have hB := h.b t ht
    unfold DskD.settle
    rw [hb]
    by_cases h2 : u ≤ t ∧ t < u + w
    · rw [if_pos h2] at hB ⊢
      obtain ⟨c, k1, k2⟩ := j2 hB.2
      refine ⟨c, ?_⟩
      show (settleN K D n).1.a[t]? = _
      rw [k1, ha]
      have : D.b.getD t zsec = f (t - u) := by rw [List.getD_eq_getElem?_getD, hB.1]; rfl
      rw [this]
    · rw [if_neg h2] at hB ⊢
      obtain ⟨k1, k2⟩ := j3 hB.2
      show (settleN K D n).1.a[t]? = _
      rw [k1, ha]
theorem crash_half {ks : List Int} (h : Half n D A u w f) : ∃ A', Half n (D.crash ks).start A' u 0 f ∧ (D.crash ks).start.off = false ∧ (D.crash ks).start.armed = 0 ∧ ∀ t, t < n → if u ≤ t ∧ t < u + w then ∃ c, A'[t]? = some (mixS c (A.getD t zsec) (f (t - u))) else A'[t]? = A[t]? := by
  obtain ⟨A1, h1, k1⟩ := settle_half (K := keepAt ks) h
  have h1' : Half n (D.crash ks) A1 u 0 f := ⟨⟨h1.z.a, h1.z.b, h1.z.l, h1.z.armed⟩, h1.a, h1.b⟩
  obtain ⟨A2, h2, k2⟩ := settle_half (K := fun _ => 0) h1'
  have e : (D.crash ks).start = { (D.crash ks).settle (fun _ => 0) with off := false } := by
    unfold DskD.start; exact if_pos rfl
  refine ⟨A2, ?_, ?_, ?_, fun t ht => ?_⟩
  · rw [e]; exact ⟨⟨h2.z.a, h2.z.b, h2.z.l, h2.z.armed⟩, h2.a, h2.b⟩
  · rw [e]
  · rw [e]; rfl
  · have q := k2 t ht
    rw [if_neg (by omega)] at q
    rw [q]
    exact k1 t ht
end Go.AM
namespace Go.AM
variable {D : DskD} {J : JD} {n E : Nat} {A A' : List Sec} {L : List ERec}
structure KI (n E : Nat) (A : List Sec) (L : List ERec) : Prop where
  len : A.length = n
  laid : Laid A 0 0 0 0#32 L
  ep : ∀ p ∈ L, p.1.toNat ≤ E
  fit : sumE L ≤ n
  tg : ∀ i s, sumE L ≤ i → A[i]? = some s → Tg E s
  num : ∀ i y, sumE L ≤ i → LeafAt A i y → y.n.toNat ≤ L.length
  no : NoRec A (sumE L) L.length
theorem KI.mono {F : Nat} (h : KI n E A L) (hf : E ≤ F) : KI n F A L := ⟨h.len, h.laid, fun p hp => by have := h.ep p hp; omega, h.fit, fun i s hi hs => (h.tg i s hi hs).mono hf, h.num, h.no⟩
theorem epW_nat {e : Nat} (h : e < 256) : (epW e).toNat = e := by unfold epW; rw [BitVec.toNat_ofNat, Nat.mod_eq_of_lt (by omega)]
theorem KI.add {b : Txt} (h : KI n E A L) (h1 : 1 ≤ E) (hE : E < 256) (hb : b ≠ []) (hn : sumE L + needN b.length ≤ n) (hl : A'.length = n)
    (hA : ∀ t, A'[t]? = if sumE L ≤ t ∧ t < sumE L + needN b.length then some (secK (epW E) L.length (needN b.length) b (t - sumE L)) else A[t]?) : KI n E A' (L ++ [(epW E, b)]) := by
  have hs : sumE (L ++ [(epW E, b)]) = sumE L + needN b.length := by rw [sumE_app]; show sumE L + (needN b.length + 0) = _; omega
  have hpos := needN_pos' hb
  have hnum : ∀ i y, sumE L + needN b.length ≤ i → LeafAt A' i y → y.n.toNat ≤ L.length := fun i y hi ⟨s, k1, k2, k3⟩ => by
    rw [hA, if_neg (by omega)] at k1
    exact h.num i y (by omega) ⟨s, k1, k2, k3⟩
  refine ⟨hl, laid_app h.laid (fun t ht => ?_) (epW_ne h1 (by omega)) hb (Nat.zero_le _) (fun p hp => by rw [epW_nat hE]; exact h.ep p hp) (fun k hk => ?_), fun p hp => ?_, by rw [hs]; exact hn, fun i s hi hs' => ?_, fun i y hi hy => ?_, fun e m y hW => ?_⟩
  · rw [hA, if_neg (by omega)]
  · rw [hA, if_pos (by omega)]
    congr 2 <;> omega
  · rcases List.mem_append.1 hp with h' | h'
    · exact h.ep p h'
    · simp only [List.mem_singleton] at h'; subst h'; show (epW E).toNat ≤ E; rw [epW_nat hE]; exact Nat.le_refl _
  · rw [hs] at hi
    rw [hA, if_neg (by omega)] at hs'
    exact h.tg i s (by omega) hs'
  · rw [hs] at hi
    have := hnum i y hi hy
    simp; omega
  · rw [hs] at hW
    obtain ⟨hm, hk⟩ := hW
    obtain ⟨k1, k2⟩ := hk 0 (by omega)
    have := hnum _ _ (by omega) k1
    have h2 := k2.n
    simp at h2; omega
theorem secK_right {e : BitVec 32} {num k : Nat} {b : Txt} (he : e ≠ 0#32) (hb : b ≠ []) (hk : k < needN b.length) : (leafK e num (needN b.length) b k).right = true ∧ (secK e num (needN b.length) b k).1 = (leafK e num (needN b.length) b k).bytes := ⟨leafK_right he hb hk, secK_bytes⟩
theorem KI.crash {b : Txt} {w : Nat} (h : KI n E A L) (h1 : 1 ≤ E) (hE : E < 256) (hb : b ≠ []) (hL : L.length < 2 ^ 32) (hw : w ≤ needN b.length) (hn : sumE L + needN b.length ≤ n) (hl : A'.length = n)
    (hA : ∀ t, t < n → if sumE L ≤ t ∧ t < sumE L + w then ∃ c, A'[t]? = some (mixS c (A.getD t zsec) (secK (epW E) L.length (needN b.length) b (t - sumE L))) else A'[t]? = A[t]?) :
    KI n (E + 1) A' L ∨ KI n (E + 1) A' (L ++ [(epW E, b)]) := by
  have hne := epW_ne h1 (show E ≤ 1000 by omega)
  have hlen := h.len
  have hold : ∀ t, t < n → A[t]? = some (A.getD t zsec) := fun t ht => by rw [List.getD_eq_getElem?_getD, List.getElem?_eq_getElem (by omega)]; rfl
  have key : ∀ t, sumE L ≤ t → t < n → ∃ s, A'[t]? = some s ∧ Tg (E + 1) s ∧
      ((t < sumE L + w ∧ s = secK (epW E) L.length (needN b.length) b (t - sumE L)) ∨ A'[t]? = A[t]? ∨ takeOK s.1 = false) := fun t h2 ht => by
    have q := hA t ht
    have hT := h.tg t _ h2 (hold t ht)
    by_cases hr : t < sumE L + w
    · rw [if_pos ⟨h2, hr⟩] at q
      obtain ⟨c, hc⟩ := q
      obtain ⟨r1, r2⟩ := secK_right (num := L.length) (b := b) (k := t - sumE L) hne hb (by omega)
      obtain ⟨m1, m2⟩ := mix_leaf (k := c) h1 hE r1 rfl r2 hT
      refine ⟨_, hc, m1, ?_⟩
      rcases m2 with m | m | m
      · exact .inl ⟨hr, m⟩
      · refine .inr (.inl ?_)
        rw [hc, m, hold t ht]
      · exact .inr (.inr m)
    · rw [if_neg (by omega)] at q
      exact ⟨_, q.trans (hold t ht), hT.mono (by omega), .inr (.inl q)⟩
  have hlow : ∀ t, t < sumE L → A'[t]? = A[t]? := fun t ht => by
    have hf := h.fit
    have q := hA t (by omega)
    rw [if_neg (by omega)] at q
    exact q
  have htg : ∀ i s, sumE L ≤ i → A'[i]? = some s → Tg (E + 1) s := fun i s hi hs => by
    have hin : i < n := by have := lt_of_get hs; omega
    obtain ⟨s', e', t', _⟩ := key i hi hin
    rw [hs] at e'; cases e'; exact t'
  have hlaid : Laid A' 0 0 0 0#32 L := laid_cong h.laid fun t ht => hlow t (by omega)
  have hep : ∀ p ∈ L, p.1.toNat ≤ E + 1 := fun p hp => by have := h.ep p hp; omega
  have hleaf : ∀ i y, sumE L ≤ i → LeafAt A' i y → (i < sumE L + w ∧ y = leafK (epW E) L.length (needN b.length) b (i - sumE L) ∧ A'[i]? = some (secK (epW E) L.length (needN b.length) b (i - sumE L))) ∨ LeafAt A i y := fun i y hi hy => by
    obtain ⟨s, k1, k2, k3⟩ := hy
    have hin : i < n := by have := lt_of_get k1; omega
    obtain ⟨s', e', t', c⟩ := key i hi hin
    rw [k1] at e'; cases e'
    rcases c with ⟨c1, c2⟩ | c | c
    · left
      obtain ⟨r1, r2⟩ := secK_right (e := epW E) (num := L.length) (b := b) (k := i - sumE L) hne hb (by omega)
      refine ⟨c1, ?_, by rw [k1, c2]⟩
      have a1 := takeX_bytes k2
      have a2 := takeX_bytes r1
      rw [← k3, c2, r2] at a1
      exact a1.symm.trans a2
    · right; exact ⟨s, by rw [← c, k1], k2, k3⟩
    · rw [k3, takeOK_bytes k2] at c; cases c
  have hnum : ∀ i y, sumE L ≤ i → LeafAt A' i y → y.n.toNat ≤ L.length := fun i y hi hy => by
    rcases hleaf i y hi hy with ⟨_, e, _⟩ | h'
    · rw [e]; show (BitVec.ofNat 32 L.length).toNat ≤ _; rw [BitVec.toNat_ofNat]; exact Nat.mod_le _ _
    · exact h.num i y hi h'
  by_cases hall : w = needN b.length ∧ ∀ k, k < needN b.length → A'[sumE L + k]? = some (secK (epW E) L.length (needN b.length) b k)
  · right
    obtain ⟨hw', hk⟩ := hall
    have hs : sumE (L ++ [(epW E, b)]) = sumE L + needN b.length := by rw [sumE_app]; show sumE L + (needN b.length + 0) = _; omega
    have hpos := needN_pos' hb
    refine ⟨hl, laid_app h.laid (fun t ht => hlow t (by omega)) hne hb (Nat.zero_le _) (fun p hp => by rw [epW_nat hE]; exact h.ep p hp) (fun k hk' => ?_), fun p hp => ?_, by rw [hs]; exact hn, fun i s hi hs' => htg i s (by omega) hs', fun i y hi hy => ?_, fun e m y hW => ?_⟩
    · rw [Nat.zero_add, Nat.zero_add, Nat.zero_add]; exact hk k hk'
    · rcases List.mem_append.1 hp with h' | h'
      · exact hep p h'
      · simp only [List.mem_singleton] at h'; subst h'; show (epW E).toNat ≤ E + 1; rw [epW_nat hE]; omega
    · have := hnum i y (by omega) hy; simp; omega
    · rw [hs] at hW
      obtain ⟨hm, hk2⟩ := hW
      obtain ⟨k1, k2⟩ := hk2 0 (by omega)
      have := hnum _ _ (by omega) k1
      have h2 := k2.n
      simp at h2; omega
  · left
    refine ⟨hl, hlaid, hep, h.fit, htg, hnum, fun e m y hW => ?_⟩
    obtain ⟨hm, hk⟩ := hW
    by_cases he : e = epW E
    · -- all of them are of this record
      have hnew : ∀ k, k < m → sumE L + k < sumE L + w ∧ y k = leafK (epW E) L.length (needN b.length) b k ∧ A'[sumE L + k]? = some (secK (epW E) L.length (needN b.length) b k) := fun k hkm => by
        obtain ⟨k1, k2⟩ := hk k hkm
        rcases hleaf _ _ (by omega) k1 with h' | ⟨s, s1, s2, s3⟩
        · rw [show sumE L + k - sumE L = k by omega] at h'; exact h'
        · have hT := h.tg _ s (by omega) s1
          have := (leaf_e hT s2 s3).1
          rw [k2.e, he] at this
          have h3 := hT.h3
          have := epW_inj hE (by omega) this
          omega
      obtain ⟨l1, l2, _⟩ := hnew (m - 1) (by omega)
      have hl2 := (hk (m - 1) (by omega)).2.l
      rw [l2] at hl2
      have : decide (m - 1 = needN b.length - 1) = decide (m - 1 + 1 = m) := hl2
      rw [show m - 1 + 1 = m by omega, decide_eq_true (rfl : m = m), decide_eq_true_iff] at this
      have hpos := needN_pos' hb
      exact hall ⟨by omega, fun k hk' => (hnew k (by omega)).2.2⟩
    · refine h.no e m y ⟨hm, fun k hkm => ?_⟩
      obtain ⟨k1, k2⟩ := hk k hkm
      refine ⟨?_, k2⟩
      rcases hleaf _ _ (by omega) k1 with ⟨_, h', _⟩ | h'
      · exfalso
        have := k2.e
        rw [h'] at this
        exact he this.symm
      · exact h'
structure PK (n E : Nat) (D : DskD) (J : JD) (A : List Sec) (L : List ERec) : Prop where
  h : Half n D A (sumE L) 0 (fun _ => zsec)
  off : D.off = false
  k : KI n E A L
  recs : J.recs = rec2 L
  used : J.used = sumE L
  jn : J.n = n
  frm : J.frm = 0
  ep : J.ep = epW E
  dead : J.dead = false
structure PEnd (n E : Nat) (D : DskD) (L : List ERec) (c : Option Txt) : Prop where
  z : Siz D n
  cr : ∀ ks, ∃ A', Half n (D.crash ks).start A' 0 0 (fun _ => zsec) ∧ (D.crash ks).start.off = false ∧ (KI n (E + 1) A' L ∨ ∃ b, c = some b ∧ KI n (E + 1) A' (L ++ [(epW E, b)]))
theorem PK.pend (h : PK n E D J A L) {c : Option Txt} : PEnd n E D L c := ⟨h.h.z, fun ks => by
  obtain ⟨A', h1, h2, _, h3⟩ := crash_half (ks := ks) h.h
  refine ⟨A', h1.any0, h2, .inl ?_⟩
  have hA : A' = A := by
    refine List.ext_getElem? fun t => ?_
    by_cases ht : t < n
    · have := h3 t ht
      rw [if_neg (by omega)] at this
      exact this
    · have e1 : A'.length = n := by rw [← h1.a]; exact h1.z.a
      rw [List.getElem?_eq_none (by omega), List.getElem?_eq_none (by rw [h.k.len]; omega)]
  rw [hA]; exact h.k.mono (by omega)⟩
theorem laid_llen (h : KI n E A L) (hn : n < 2 ^ 30) : L.length < 2 ^ 30 := by
  have := laid_len h.laid
  have := h.fit
  omega
theorem PK.add {b : Txt} (h : PK n E D J A L) (h1 : 1 ≤ E) (hE : E < 256) (h0 : 0 < n) (h30 : n < 2 ^ 30) (hb : b ≠ []) (hbl : b.length ≤ 400000) :
    ((J.add D b).1 = 0 ∧ ∃ A', PK n E (J.add D b).2.1 (J.add D b).2.2 A' (L ++ [(epW E, b)])) ∨ ((J.add D b).1 ≠ 0 ∧ PEnd n E (J.add D b).2.1 L (some b)) := by
  have hb1 : 1 ≤ b.length := by cases b with | nil => exact absurd rfl hb | cons => simp
  have hu := h.used; have hjn := h.jn
  have hlen : J.recs.length = L.length := by rw [h.recs]; simp [rec2]
  unfold JD.add
  rw [if_neg (by rw [h.dead, h.off]; simp), if_neg (by omega)]
  split
  · rename_i hf
    exact .inr ⟨by show (6 : Int) ≠ 0; decide, h.pend⟩
  · rename_i hf
    have hh : Half n D A (sumE L) 0 (secK J.ep J.recs.length (needN b.length) b) := h.h.any0
    have hfit : sumE L + needN b.length ≤ n := by omega
    have := layF_half (u := sumE L) (at' := J.at') (fun j => by unfold JD.at'; rw [h.frm, h.used, Nat.zero_add]) h0 (needN b.length) 0 hh h.off (by omega)
    rw [Nat.zero_add] at this
    have hlay : J.lay D b = layF D J.at' (secK J.ep J.recs.length (needN b.length) b) 0 (needN b.length) := rfl
    rcases this with ⟨a1, a2, A', a3, a4⟩ | ⟨a1, w, a2, a3⟩
    · rw [← hlay] at a1 a2 a3
      rw [if_pos a1]
      refine .inl ⟨rfl, A', ⟨a3.any0, a2, ?_, ?_, ?_, hjn, h.frm, h.ep, h.dead⟩⟩
      · rw [h.ep, hlen] at a4
        exact h.k.add h1 hE hb hfit (by rw [← a3.a]; exact a3.z.a) a4
      · show J.recs ++ [b] = _; rw [h.recs, rec2_app]; rfl
      · show J.used + needN b.length = _; rw [sumE_app, hu]; show _ = sumE L + (needN b.length + 0); omega
    · rw [← hlay] at a1 a3
      rw [if_neg (by omega)]
      refine .inr ⟨by show (J.lay D b).1 ≠ 0; omega, a3.z, fun ks => ?_⟩
      obtain ⟨A', c1, c2, _, c3⟩ := crash_half (ks := ks) a3
      refine ⟨A', c1.any0, c2, ?_⟩
      rw [h.ep, hlen] at c3
      rcases h.k.crash h1 hE hb (by have := laid_llen h.k h30; omega) a2 hfit (by rw [← c1.a]; exact c1.z.a) c3 with k | k
      · exact .inl k
      · exact .inr ⟨b, rfl, k⟩
end Go.AM
namespace Go.AM
variable {prog : String → Option IFn}
variable {G L : List (Option Blk)} {P : DPos} {D : DskD} {n q p : Nat} {B : Option Blk} {cs : List AV} {J : JD}
theorem lj_len {D' : DskD} {B' : Option Blk} {cs' : List AV} : (lj L P q p D' B' cs').length = L.length := by simp [lj, lset]
end Go.AM
