import Derived.Test.YtdcnjckkcfoppaaJourC
import Derived.Test.YtdcnjckkcfoppaaJourB
set_option linter.unusedVariables false
set_option linter.unusedSimpArgs false
namespace Go.AM
variable {D : DskD} {J : JD}
def RecAt (D : DskD) (ep : BitVec 32) (num u : Nat) (b : Txt) : Prop := ∀ k, k < needN b.length → secAt D.b ((u + k : Nat) : Int) = secK ep num (needN b.length) b k
theorem pc_take {b : Txt} {k : Nat} : b.take (k * 46) ++ pc b k = b.take ((k + 1) * 46) := by
  unfold pc
  rw [show (k + 1) * 46 = k * 46 + 46 by omega, List.take_add]
theorem lv_rec {ep : BitVec 32} {num : Nat} {b : Txt} {k : Nat} (he : ep ≠ 0#32) (hb : b ≠ []) (hR : RecAt D ep num (J.frm + J.used) b) (hk : k < needN b.length) (hn : J.used + k < J.n) :
    lvOK D J (J.used + k) = true ∧ lvX D J (J.used + k) = leafK ep num (needN b.length) b k := by
  have hr := leafK_right (num := num) he hb hk
  have hs : (secAt D.b ((J.frm + (J.used + k) : Nat) : Int)).1 = (leafK ep num (needN b.length) b k).bytes := by
    have := hR k hk
    rw [show J.frm + J.used + k = J.frm + (J.used + k) by omega] at this
    rw [this, secK_bytes]
  unfold lvOK lvX
  rw [if_pos hn, if_pos hn, hs]
  exact ⟨takeOK_bytes hr, takeX_bytes hr⟩
theorem tkF_rec {ep : BitVec 32} {b : Txt} (he : ep ≠ 0#32) (hb : b ≠ []) (hR : RecAt D ep J.recs.length (J.frm + J.used) b) (hla : ¬ ep.toNat < J.la.toNat) (hn : J.used + needN b.length ≤ J.n) (hrl : J.recs.length < 2 ^ 32) :
    ∀ (j k f : Nat) (e' : BitVec 32), k + j + 1 = needN b.length → j + 1 ≤ f → (k ≠ 0 → e' = ep) → tkF D J f k (b.take (k * 46)) e' = (true, ({ J with ep := ep } : JD).note b (needN b.length))
  | j, k, 0, e', hj, hf, hk => by omega
  | j, k, f + 1, e', hj, hf, hk => by
    obtain ⟨ho, hx⟩ := lv_rec (J := J) (k := k) he hb hR (by omega) (by omega)
    have hN : lvNext D J k e' = true := by
      unfold lvNext
      rw [ho, hx]
      have h1 : ((leafK ep J.recs.length (needN b.length) b k).n.toNat == J.recs.length) = true := by
        rw [beq_iff_eq]; show (BitVec.ofNat 32 J.recs.length).toNat = _; rw [BitVec.toNat_ofNat, Nat.mod_eq_of_lt hrl]
      have h2 : ((leafK ep J.recs.length (needN b.length) b k).f == decide (k = 0)) = true := by rw [beq_iff_eq]; rfl
      have h3 : decide ((leafK ep J.recs.length (needN b.length) b k).e.toNat < J.la.toNat) = false := decide_eq_false hla
      have h4 : (decide (k = 0) || (leafK ep J.recs.length (needN b.length) b k).e == e') = true := by
        by_cases h : k = 0
        · rw [decide_eq_true h]; rfl
        · rw [hk h]; show (decide (k = 0) || ep == ep) = true; rw [beq_self_eq_true, Bool.or_true]
      rw [h1, h2, h3, h4]
      rfl
    unfold tkF
    rw [if_pos hN, hx]
    have hd : b.take (k * 46) ++ (leafK ep J.recs.length (needN b.length) b k).d = b.take ((k + 1) * 46) := pc_take
    have hl : (leafK ep J.recs.length (needN b.length) b k).l = decide (k = needN b.length - 1) := rfl
    have hE : (leafK ep J.recs.length (needN b.length) b k).e = ep := rfl
    rw [hd, hl, hE]
    cases j with
    | zero =>
      rw [if_pos (decide_eq_true (by omega))]
      have hlen : b.length ≤ (k + 1) * 46 := by unfold needN at hj; omega
      rw [List.take_of_length_le hlen, show k + 1 = needN b.length by omega]
    | succ j =>
      rw [if_neg (by simp; omega)]
      exact tkF_rec he hb hR hla hn hrl j (k + 1) f ep (by omega) (by omega) (fun _ => rfl)
theorem needN_pos' {b : Txt} (hb : b ≠ []) : 1 ≤ needN b.length := by
  have : 0 < b.length := by cases b with | nil => exact absurd rfl hb | cons => simp
  unfold needN; omega
theorem take_rec {ep : BitVec 32} {b : Txt} (he : ep ≠ 0#32) (hb : b ≠ []) (hR : RecAt D ep J.recs.length (J.frm + J.used) b) (hla : ¬ ep.toNat < J.la.toNat) (hn : J.used + needN b.length ≤ J.n) (hrl : J.recs.length < 2 ^ 32) :
    J.take D = (true, ({ J with ep := ep } : JD).note b (needN b.length)) := by
  have := needN_pos' hb
  exact tkF_rec he hb hR hla hn hrl (needN b.length - 1) 0 _ _ (by omega) (by omega) (fun h => absurd rfl h)
theorem take_stop (h : lvNext D J 0 J.ep = false) : J.take D = (false, J) := by
  unfold JD.take tkF
  rw [h]
  rfl
def noteAll (ep : BitVec 32) : JD → List Txt → JD
  | J, [] => J
  | J, b :: l => noteAll ep (({ J with ep := ep } : JD).note b (needN b.length)) l
def RecsAt (D : DskD) (ep : BitVec 32) (frm : Nat) : Nat → Nat → List Txt → Prop
  | _, _, [] => True
  | num, u, b :: l => RecAt D ep num (frm + u) b ∧ RecsAt D ep frm (num + 1) (u + needN b.length) l
def sumN : List Txt → Nat
  | [] => 0
  | b :: l => needN b.length + sumN l
theorem noteAll_facts {ep : BitVec 32} : ∀ (l : List Txt) (J : JD), (noteAll ep J l).recs = J.recs ++ l ∧ (noteAll ep J l).used = J.used + sumN l ∧ (noteAll ep J l).n = J.n ∧ (noteAll ep J l).frm = J.frm ∧ (noteAll ep J l).dead = J.dead ∧ (l ≠ [] → (noteAll ep J l).la = ep) ∧ (l = [] → noteAll ep J l = J) ∧ (noteAll ep J l).fi = (if J.recs = [] then (if l = [] then J.fi else ep) else J.fi)
  | [], J => ⟨by simp [noteAll], by simp [noteAll, sumN], rfl, rfl, rfl, fun h => absurd rfl h, fun _ => rfl, by simp [noteAll]⟩
  | b :: l, J => by
    obtain ⟨h1, h2, h3, h4, h5, h6, h7, h8⟩ := noteAll_facts (ep := ep) l (({ J with ep := ep } : JD).note b (needN b.length))
    refine ⟨?_, ?_, h3, h4, h5, fun _ => ?_, (fun h => by cases h), ?_⟩
    · show (noteAll ep (({ J with ep := ep } : JD).note b (needN b.length)) l).recs = _
      rw [h1]; show (J.recs ++ [b]) ++ l = _; rw [List.append_assoc]; rfl
    · show (noteAll ep (({ J with ep := ep } : JD).note b (needN b.length)) l).used = _
      rw [h2]; show J.used + needN b.length + sumN l = J.used + (needN b.length + sumN l); omega
    · show (noteAll ep (({ J with ep := ep } : JD).note b (needN b.length)) l).la = ep
      by_cases hl : l = []
      · rw [h7 hl]; rfl
      · exact h6 hl
    · show (noteAll ep (({ J with ep := ep } : JD).note b (needN b.length)) l).fi = _
      rw [h8, if_neg (by show ¬ J.recs ++ [b] = []; simp), if_neg (by simp : ¬ b :: l = [])]
      rfl
theorem tksF_recs {ep : BitVec 32} (he : ep ≠ 0#32) : ∀ (l : List Txt) (J : JD) (f : Nat), (∀ b ∈ l, b ≠ []) → RecsAt D ep J.frm J.recs.length J.used l → ¬ ep.toNat < J.la.toNat → J.used + sumN l ≤ J.n → J.recs.length + l.length < 2 ^ 32 → l.length + 1 ≤ f →
    lvNext D (noteAll ep J l) 0 (noteAll ep J l).ep = false → tksF D f J = noteAll ep J l
  | [], J, f, _, _, _, _, _, hf, hs => by
    obtain ⟨f, rfl⟩ : ∃ g, f = g + 1 := ⟨f - 1, by simp at hf; omega⟩
    unfold tksF
    rw [take_stop (J := J) hs]
    rfl
  | b :: l, J, f, hb, hR, hla, hn, hrl, hf, hs => by
    obtain ⟨f, rfl⟩ : ∃ g, f = g + 1 := ⟨f - 1, by simp at hf; omega⟩
    have hsum : sumN (b :: l) = needN b.length + sumN l := rfl
    have e := take_rec (D := D) (J := J) he (hb b (by simp)) hR.1 hla (by omega) (by simp at hrl; omega)
    unfold tksF
    rw [e]
    simp only [if_true]
    refine tksF_recs he l _ f (fun c hc => hb c (by simp [hc])) ?_ ?_ ?_ ?_ ?_ hs
    · have : (J.recs ++ [b]).length = J.recs.length + 1 := by simp
      show RecsAt D ep J.frm (J.recs ++ [b]).length (J.used + needN b.length) l
      rw [this]; exact hR.2
    · show ¬ ep.toNat < ep.toNat; omega
    · show J.used + needN b.length + sumN l ≤ J.n; omega
    · show (J.recs ++ [b]).length + l.length < 2 ^ 32
      simp at hrl ⊢; omega
    · simp at hf; omega
end Go.AM
namespace Go.AM
variable {D : DskD} {J : JD} {n : Nat}
theorem layF_b {at' : Nat → Int} {s : Nat → Sec} {k0 : Nat} (ha : ∀ j, at' j = ((k0 + j : Nat) : Int)) : ∀ (m i : Nat) {D : DskD}, Live D → Siz D n → 0 < n → k0 + i + m ≤ n →
    ∀ t, (layF D at' s i m).2.b[t]? = if k0 + i ≤ t ∧ t < k0 + i + m then some (s (t - k0)) else D.b[t]?
  | 0, i, D, hl, z, h0, _ => fun t => by
    obtain ⟨e1, e2, e3⟩ := sync_live hl (by rw [z.b]; exact h0)
    unfold layF
    rw [e2, if_neg (by omega)]
    rfl
  | m + 1, i, D, hl, z, h0, hm => fun t => by
    obtain ⟨e1, e2⟩ := write_live hl (i := k0 + i) (s := s i) (by rw [z.b]; omega)
    unfold layF
    rw [ha i, if_pos e1, e2]
    rw [layF_b ha m (i + 1) (live_put hl) z.put h0 (by omega) t]
    have hb : (D.put (k0 + i) (s i)).b = D.b.set (k0 + i) (s i) := rfl
    rw [hb]
    by_cases h1 : k0 + (i + 1) ≤ t ∧ t < k0 + (i + 1) + m
    · rw [if_pos h1, if_pos (by omega)]
    · rw [if_neg h1, List.getElem?_set]
      by_cases h2 : k0 + i = t
      · subst h2
        rw [if_pos rfl, if_pos (by rw [z.b]; omega), if_pos (by omega), show k0 + i - k0 = i by omega]
      · rw [if_neg h2, if_neg (by omega)]
theorem add_b {b : Txt} (hl : Live D) (z : Siz D n) (h0 : 0 < n) (hfn : J.frm + J.used + needN b.length ≤ n) (t : Nat) :
    (J.lay D b).2.b[t]? = if J.frm + J.used ≤ t ∧ t < J.frm + J.used + needN b.length then some (secK J.ep J.recs.length (needN b.length) b (t - (J.frm + J.used))) else D.b[t]? := by
  unfold JD.lay
  have := layF_b (at' := J.at') (s := secK J.ep J.recs.length (needN b.length) b) (k0 := J.frm + J.used) (n := n) (fun j => rfl) (needN b.length) 0 hl z h0 (by omega) t
  rw [Nat.add_zero] at this
  exact this
def addAll : DskD × JD → List Txt → DskD × JD
  | q, [] => q
  | q, b :: l => addAll (q.2.add q.1 b).2 l
structure AddedOk (n : Nat) (q : DskD × JD) : Prop where
  live : Live q.1
  z : Siz q.1 n
  dead : q.2.dead = false
  fit : q.2.frm + q.2.n ≤ n
theorem add_ok {q : DskD × JD} {b : Txt} (h : AddedOk n q) (h0 : 0 < n) (hb : b ≠ []) (hbl : b.length ≤ 400000) (hn : q.2.used + needN b.length ≤ q.2.n) :
    (q.2.add q.1 b).1 = 0 ∧ (q.2.add q.1 b).2.2 = q.2.note b (needN b.length) ∧ AddedOk n (q.2.add q.1 b).2 ∧
    ∀ t, (q.2.add q.1 b).2.1.b[t]? = if q.2.frm + q.2.used ≤ t ∧ t < q.2.frm + q.2.used + needN b.length then some (secK q.2.ep q.2.recs.length (needN b.length) b (t - (q.2.frm + q.2.used))) else q.1.b[t]? := by
  have hb1 : 1 ≤ b.length := by cases b with | nil => exact absurd rfl hb | cons => simp
  have hf := h.fit
  obtain ⟨e1, e2, e3⟩ := layF_live (at' := q.2.at') (s := secK q.2.ep q.2.recs.length (needN b.length) b) (k0 := q.2.frm + q.2.used) (n := n) (fun j => rfl) (needN b.length) 0 h.live h.z h0 (by omega)
  have e : q.2.add q.1 b = (0, (q.2.lay q.1 b).2, q.2.note b (needN b.length)) := by
    unfold JD.add
    rw [if_neg (by rw [h.dead, h.live.1]; simp), if_neg (by omega), if_neg (by omega)]
    exact if_pos e1
  rw [e]
  refine ⟨rfl, rfl, ⟨e2, e3, h.dead, h.fit⟩, fun t => ?_⟩
  exact add_b (J := q.2) h.live h.z h0 (by omega) t
theorem recAt_of {A : DskD} {ep : BitVec 32} {num u : Nat} {b : Txt} (h : ∀ k, k < needN b.length → A.b[u + k]? = some (secK ep num (needN b.length) b k)) : RecAt A ep num u b := fun k hk => by
  unfold secAt
  rw [Int.toNat_natCast, List.getD_eq_getElem?_getD, h k hk]; rfl
def RecAt' (A : List Sec) (ep : BitVec 32) (num u : Nat) (b : Txt) : Prop := ∀ k, k < needN b.length → A[u + k]? = some (secK ep num (needN b.length) b k)
def RecsAt' (A : List Sec) (ep : BitVec 32) (frm : Nat) : Nat → Nat → List Txt → Prop
  | _, _, [] => True
  | num, u, b :: l => RecAt' A ep num (frm + u) b ∧ RecsAt' A ep frm (num + 1) (u + needN b.length) l
theorem recsAt_of {A : DskD} {ep : BitVec 32} {frm : Nat} : ∀ {num u : Nat} {l : List Txt}, RecsAt' A.b ep frm num u l → RecsAt A ep frm num u l
  | _, _, [], _ => trivial
  | _, _, _ :: _, h => ⟨recAt_of h.1, recsAt_of h.2⟩
structure AddAll (n : Nat) (q r : DskD × JD) (l : List Txt) : Prop where
  ok : AddedOk n r
  j : r.2 = noteAll q.2.ep q.2 l
  at' : RecsAt' r.1.b q.2.ep q.2.frm q.2.recs.length q.2.used l
  out : ∀ t, t < q.2.frm + q.2.used ∨ q.2.frm + q.2.used + sumN l ≤ t → r.1.b[t]? = q.1.b[t]?
theorem addAll_ok (h0 : 0 < n) : ∀ (l : List Txt) (q : DskD × JD), AddedOk n q → (∀ b ∈ l, b ≠ [] ∧ b.length ≤ 400000) → q.2.used + sumN l ≤ q.2.n → AddAll n q (addAll q l) l
  | [], q, h, _, _ => ⟨h, rfl, trivial, fun _ _ => rfl⟩
  | b :: l, q, h, hb, hn => by
    have hs : sumN (b :: l) = needN b.length + sumN l := rfl
    obtain ⟨a1, a2, a3, a4⟩ := add_ok (b := b) h h0 (hb b (by simp)).1 (hb b (by simp)).2 (by omega)
    have e : addAll q (b :: l) = addAll (q.2.add q.1 b).2 l := rfl
    rw [e]
    generalize (q.2.add q.1 b).2 = r at *
    have hep : r.2.ep = q.2.ep := by rw [a2]; rfl
    have hfr : r.2.frm = q.2.frm := by rw [a2]; rfl
    have hus : r.2.used = q.2.used + needN b.length := by rw [a2]; rfl
    have hnn : r.2.n = q.2.n := by rw [a2]; rfl
    have hrc : r.2.recs.length = q.2.recs.length + 1 := by rw [a2]; simp [JD.note]
    obtain ⟨c1, c2, c3, c4⟩ := addAll_ok h0 l r a3 (fun c hc => hb c (by simp [hc])) (by omega)
    rw [hep, hfr, hrc, hus] at c3
    rw [hfr, hus] at c4
    refine ⟨c1, ?_, ⟨fun k hk => ?_, c3⟩, fun t ht => ?_⟩
    · rw [c2, hep, a2]; rfl
    · rw [c4 _ (.inl (by omega)), a4, if_pos (by omega)]
      congr 2; omega
    · rw [c4 t (by omega), a4, if_neg (by omega)]
end Go.AM
namespace Go.AM
variable {D : DskD} {J : JD} {n : Nat}
theorem zs64_badJ : takeOK zs64 = false := by
  cases h : takeOK zs64 with
  | false => rfl
  | true =>
    have := (Bool.and_eq_true _ _ ▸ h : (takeD zs64).right = true ∧ decide ((takeD zs64).bytes = zs64) = true).1
    have h2 := (right_len this).1
    exact absurd h2 (by decide)
theorem addAll_all {l : List Txt} : ∀ {q : DskD × JD}, 0 < n → AddedOk n q → (∀ b ∈ l, b ≠ [] ∧ b.length ≤ 400000) → q.2.used + sumN l ≤ q.2.n → ∀ t : Nat, (addAll q l).1.b[t]? = q.1.b[t]? ∨ ∃ num b k, b ≠ [] ∧ k < needN b.length ∧ (addAll q l).1.b[t]? = some (secK q.2.ep num (needN b.length) b k) := by
  induction l with
  | nil => exact fun _ _ _ _ t => .inl rfl
  | cons b l ih =>
    intro q h0 h hb hn t
    have hs : sumN (b :: l) = needN b.length + sumN l := rfl
    obtain ⟨a1, a2, a3, a4⟩ := add_ok (b := b) h h0 (hb b (by simp)).1 (hb b (by simp)).2 (by omega)
    have e : addAll q (b :: l) = addAll (q.2.add q.1 b).2 l := rfl
    rw [e]
    generalize (q.2.add q.1 b).2 = r at *
    have hep : r.2.ep = q.2.ep := by rw [a2]; rfl
    have hus : r.2.used = q.2.used + needN b.length := by rw [a2]; rfl
    have hnn : r.2.n = q.2.n := by rw [a2]; rfl
    rcases ih h0 a3 (fun c hc => hb c (by simp [hc])) (by omega) t with h1 | ⟨num, c, k, h1, h2, h3⟩
    · rw [h1, a4]
      by_cases h2 : q.2.frm + q.2.used ≤ t ∧ t < q.2.frm + q.2.used + needN b.length
      · rw [if_pos h2]
        exact .inr ⟨_, b, _, (hb b (by simp)).1, by omega, rfl⟩
      · rw [if_neg h2]; exact .inl rfl
    · exact .inr ⟨num, c, k, h1, h2, by rw [h3, hep]⟩
theorem lvNext_zero {ep : BitVec 32} (h : D.b[J.frm + J.used]? = some zsec ∨ J.n ≤ J.used) : lvNext D J 0 ep = false := by
  have : lvOK D J (J.used + 0) = false := by
    unfold lvOK
    split
    · rename_i hi
      rcases h with h | h
      · unfold secAt
        rw [Int.toNat_natCast, List.getD_eq_getElem?_getD, show J.frm + (J.used + 0) = J.frm + J.used from rfl, h]
        exact zs64_badJ
      · omega
    · rfl
  unfold lvNext
  rw [this]; rfl
theorem lvNext_old {ep e : BitVec 32} {num k : Nat} {b : Txt} (he : e ≠ 0#32) (hb : b ≠ []) (hk : k < needN b.length) (h : D.b[J.frm + J.used]? = some (secK e num (needN b.length) b k)) (hla : e.toNat < J.la.toNat) : lvNext D J 0 ep = false := by
  have hr := leafK_right (num := num) he hb hk
  unfold lvNext
  by_cases hi : J.used + 0 < J.n
  · have hx : lvX D J (J.used + 0) = leafK e num (needN b.length) b k := by
      unfold lvX secAt
      rw [if_pos hi, Int.toNat_natCast, List.getD_eq_getElem?_getD, show J.frm + (J.used + 0) = J.frm + J.used from rfl, h]
      show takeX (secK e num (needN b.length) b k).1 = _
      rw [secK_bytes]
      exact takeX_bytes hr
    rw [hx]
    have : decide ((leafK e num (needN b.length) b k).e.toNat < J.la.toNat) = true := decide_eq_true hla
    rw [this]
    simp
  · have : lvOK D J (J.used + 0) = false := by unfold lvOK; rw [if_neg hi]
    rw [this]; rfl
theorem newD_b {k t : Nat} (h : t < k) : (newD k).b[t]? = some zsec := by
  simp [newD, h]
theorem addedOk_new {n : Nat} {ep : BitVec 32} {D : DskD} (hl : Live D) (z : Siz D n) : AddedOk n (D, newJ 0 n ep) := ⟨hl, z, rfl, Nat.le_of_eq (Nat.zero_add n)⟩
theorem sumN_le {l : List Txt} (h : ∀ b ∈ l, b.length ≤ 201) : sumN l ≤ 5 * l.length := by
  induction l with
  | nil => exact Nat.le_refl _
  | cons b l ih =>
    have h1 := h b (by simp)
    have h2 := ih fun c hc => h c (by simp [hc])
    have h3 : needN b.length ≤ 5 := by unfold needN; omega
    show needN b.length + sumN l ≤ _
    simp only [List.length_cons]; omega
def SmallR (l : List Txt) : Prop := ∀ b ∈ l, b ≠ [] ∧ b.length ≤ 201
theorem SmallR.big {l : List Txt} (h : SmallR l) : ∀ b ∈ l, b ≠ [] ∧ b.length ≤ 400000 := fun b hb => ⟨(h b hb).1, by have := (h b hb).2; omega⟩
theorem open_one {as : List Txt} (ha : SmallR as) (hl : as.length ≤ 10) : (openJ (addAll (newD 90, newJ 0 90 3#32) as).1 0 90 5#32).recs = as := by
  have hs := sumN_le fun b hb => (ha b hb).2
  have A := addAll_ok (n := 90) (by omega) as _ (addedOk_new (ep := 3#32) newD_live .new) ha.big (by show 0 + sumN as ≤ 90; omega)
  obtain ⟨f1, f2, f3, f4, f5, f6, f7, f8⟩ := noteAll_facts (ep := 3#32) as (newJ 0 90 5#32)
  have e := tksF_recs (D := (addAll (newD 90, newJ 0 90 3#32) as).1) (ep := 3#32) (by decide) as (newJ 0 90 5#32) 91 (fun b hb => (ha b hb).1) (recsAt_of A.at') (by show ¬ (3#32 : BitVec 32).toNat < (0#32 : BitVec 32).toNat; decide) (by show 0 + sumN as ≤ 90; omega) (by show 0 + as.length < 2 ^ 32; omega) (by omega)
    (lvNext_zero (.inl (by
      rw [f4, f2, A.out _ (.inr (by show 0 + 0 + sumN as ≤ 0 + (0 + sumN as); omega))]
      exact newD_b (by show 0 + (0 + sumN as) < 90; omega))))
  show (tksF _ 91 (newJ 0 90 5#32)).recs = as
  rw [e, f1]; rfl
theorem open_two {as bs : List Txt} (ha : SmallR as) (hb : SmallR bs) (hl : as.length ≤ 10) (hm : bs.length ≤ 10) (h0 : bs ≠ []) :
    (openJ (addAll ((addAll (newD 90, newJ 0 90 3#32) as).1, newJ 0 90 4#32) bs).1 0 90 5#32).recs = bs ∧ (openJ (addAll ((addAll (newD 90, newJ 0 90 3#32) as).1, newJ 0 90 4#32) bs).1 0 90 5#32).fi = 4#32 := by
  have hs := sumN_le fun b hb => (ha b hb).2
  have ht := sumN_le fun c hc => (hb c hc).2
  have A := addAll_ok (n := 90) (by omega) as _ (addedOk_new (ep := 3#32) newD_live .new) ha.big (by show 0 + sumN as ≤ 90; omega)
  have A2 := addAll_all (n := 90) (l := as) (by omega) (addedOk_new (ep := 3#32) newD_live .new) ha.big (by show 0 + sumN as ≤ 90; omega)
  generalize addAll (newD 90, newJ 0 90 3#32) as = q at *
  have C := addAll_ok (n := 90) (by omega) bs (q.1, newJ 0 90 4#32) (addedOk_new A.ok.live A.ok.z) hb.big (by show 0 + sumN bs ≤ 90; omega)
  obtain ⟨f1, f2, f3, f4, f5, f6, f7, f8⟩ := noteAll_facts (ep := 4#32) bs (newJ 0 90 5#32)
  have e := tksF_recs (D := (addAll (q.1, newJ 0 90 4#32) bs).1) (ep := 4#32) (by decide) bs (newJ 0 90 5#32) 91 (fun b h => (hb b h).1) (recsAt_of C.at') (by show ¬ (4#32 : BitVec 32).toNat < (0#32 : BitVec 32).toNat; decide) (by show 0 + sumN bs ≤ 90; omega) (by show 0 + bs.length < 2 ^ 32; omega) (by omega) (by
      have ho := C.out (0 + (0 + sumN bs)) (.inr (by show 0 + 0 + sumN bs ≤ 0 + (0 + sumN bs); omega))
      have hfu : (noteAll 4#32 (newJ 0 90 5#32) bs).frm + (noteAll 4#32 (newJ 0 90 5#32) bs).used = 0 + (0 + sumN bs) := by rw [f4, f2]; rfl
      rcases A2 (0 + (0 + sumN bs)) with h | ⟨num, b, k, h1, h2, h3⟩
      · refine lvNext_zero (.inl ?_)
        rw [hfu, ho]
        show q.1.b[_]? = _
        rw [h]
        exact newD_b (by omega)
      · refine lvNext_old (e := 3#32) (num := num) (b := b) (k := k) (by decide) h1 h2 ?_ ?_
        · rw [hfu, ho]; exact h3
        · rw [f6 h0]; decide)
  constructor
  · show (tksF _ 91 (newJ 0 90 5#32)).recs = bs
    rw [e, f1]; rfl
  · show (tksF _ 91 (newJ 0 90 5#32)).fi = 4#32
    rw [e, f8]
    exact (if_pos rfl).trans (if_neg h0)
end Go.AM
namespace Go.AM
variable {prog : String → Option IFn}
variable {G L : List (Option Blk)} {P : DPos} {D : DskD} {n q p : Nat} {B : Option Blk} {cs : List AV} {J : JD}
structure BtV where
  b : Txt
  a : AV
  va : ∀ h, View h a 1 b.length (b.map byteAV)
  hl : b.length ≤ maxLen
theorem BtV.lf (x : BtV) : AV.lf.lfs [x.a] = true := by
  rcases (x.va ⟨[], []⟩).cases with ⟨h, _⟩ | ⟨nl, h⟩ | ⟨ℓ, m, off, cap, B, h, hB, _⟩
  · rw [h]; rfl
  · rw [h]
    have := bytes_lfs (bs := x.b)
    simp [AV.lf.lfs, AV.lf, this]
  · have := hB
    cases ℓ <;> simp [Hp.get] at this
def bsE : Enc BtV := ⟨fun x => [x.a], 1, true, fun _ => rfl, by omega, .inl rfl, BtV.lf, fun h => by cases h⟩
theorem is_bss {cs : List AV} (h : (Ty.slice (.slice (.int .u8))).Is cs) : ∃ a, ∃ xs : List BtV, cs = [a] ∧ (∀ h, TView bsE h a xs) ∧ xs.length ≤ maxLen := by
  rcases h with rfl | ⟨es, rfl, h, hl⟩
  · exact ⟨_, [], rfl, fun h => view_nil' (by decide), by simp⟩
  · obtain ⟨xs, hb⟩ : ∃ xs : List BtV, es = xs.map bsE.E := by
      clear hl
      induction es with
      | nil => exact ⟨[], rfl⟩
      | cons e es ih =>
        obtain ⟨xs, hb⟩ := ih fun x hx => h x (by simp [hx])
        obtain ⟨a, bs, he, va, hl⟩ := is_bytes (h e (by simp))
        exact ⟨⟨bs, a, va, hl⟩ :: xs, by rw [hb, he]; rfl⟩
    subst hb
    have e : (xs.map bsE.E).flatten = bsE.row xs := by rw [Enc.row, List.flatMap_def]
    refine ⟨_, xs, rfl, fun h => ?_, by simpa using hl⟩
    rw [e, List.length_map]
    exact view_ro (by decide) (bsE.row_len xs)
def putR (x : BtV) : Txt := 1 :: x.b.take 200
def rowV (ℓ : Lab) (l : List Txt) : AV := if l = [] then .v (.slice none 0 0) else .own ℓ l.length 0 l.length 1 none
def rowBk (l : List Txt) : Option Blk := if l = [] then none else recB l
theorem addAll_snoc : ∀ (l : List Txt) (q : DskD × JD) (b : Txt), addAll q (l ++ [b]) = ((addAll q l).2.add (addAll q l).1 b).2
  | [], q, b => rfl
  | c :: l, q, b => addAll_snoc l _ b
theorem noteAll_ep {ep : BitVec 32} : ∀ (l : List Txt) (J : JD), J.ep = ep → (noteAll ep J l).ep = ep
  | [], J, h => h
  | b :: l, J, h => noteAll_ep l _ rfl
theorem sumN_ge {l : List Txt} (h : ∀ b ∈ l, b ≠ []) : l.length ≤ sumN l := by
  induction l with
  | nil => exact Nat.le_refl _
  | cons b l ih =>
    have h1 := needN_pos' (h b (by simp))
    have h2 := ih fun c hc => h c (by simp [hc])
    show _ ≤ needN b.length + sumN l
    simp only [List.length_cons]; omega
theorem sumN_app : ∀ (l m : List Txt), sumN (l ++ m) = sumN l + sumN m
  | [], m => by simp [sumN]
  | b :: l, m => by show needN b.length + sumN (l ++ m) = needN b.length + sumN l + sumN m; rw [sumN_app l m]; omega
theorem arg_blk {k : Nat} {b : Txt} {X : Blk} {cap : Option Nat} (hf : Off P q p k) (hk : G[k]? = some (some X)) (hX : X.cells = b.map byteAV) (hv : X.virt = false) (hc : ∀ c, cap = some c → b.length ≤ c) : Arg G P q p (.own (.o k) b.length 0 b.length 1 cap) b := by
  have hlt := lt_of_get hk
  have hg : ∀ D B cs Y, (dj G P q p D B cs ++ Y)[k]? = some (some X) := fun D B cs Y => by
    rw [List.getElem?_append_left (by rw [dj_len]; exact hlt), dj_off hf]; exact hk
  refine ⟨fun D B cs Y L' => ?_, fun hb D B cs Y L' => ?_, fun g => rfl⟩
  · refine ⟨rfl, ?_, by simp, rfl, ?_, by omega⟩
    · simp only [Hp.sees, Hp.get, hg, Option.join_some, hX, List.length_map, if_true, List.drop_zero, Nat.mul_one]
      rw [List.take_of_length_le (by simp)]
    · unfold capOK; cases cap with
      | none => trivial
      | some c => have := hc c rfl; simp only; omega
  · simp only [Hp.isNil, Hp.get, hg, Option.join_some, hX, hv, List.length_map]
    simp
theorem app_row {G b0 b1} {l : List Txt} {b : Txt} (hr : (l.length + 1) * 24 ≤ room) : prim ⟨G, [b0, b1, some (dBlk [roAV b] false false), rowBk l]⟩ (.append 3 true 1 24) [rowV (.l 3) l, .own (.l 2) 1 0 1 1 (some 1)] =
    some (rowV (.l 3) (l ++ [b]), ⟨G, [b0, b1, some (dBlk [roAV b] false false), rowBk (l ++ [b])]⟩) := by
  have e : l ++ [b] ≠ [] := by simp
  by_cases h : l = []
  · subst h
    have hv : View ⟨G, [b0, b1, some (dBlk [roAV b] false false), none]⟩ (.own (.l 2) 1 0 1 1 (some 1)) 1 1 [roAV b] := own_view1 (j := 2) rfl rfl (by simp)
    have hr2 : 24 ≤ room := by simpa using hr
    simp only [rowV, rowBk, if_true, prim, hv.source, Option.bind_some]
    simp only [Hp.mayFreeze, if_true, Hp.freezes, Hp.freeze, roAV, Option.bind_some, Option.map_some, Hp.append, List.length_cons, List.length_nil, Nat.mul_one, Nat.zero_add]
    rw [if_neg (by omega), if_pos (by omega)]
    rfl
  · have := append_recL (G := G) (L := [b0, b1, some (dBlk [roAV b] false false), rowBk l]) (site := 3) (j := 3) (m := 2) (l := l) (b := b) (by unfold rowBk; rw [if_neg h]; rfl) rfl hr
    unfold rowV rowBk
    rw [if_neg h, if_neg h, if_neg e, if_neg e, List.length_append]
    unfold rowBk at this
    rw [if_neg h] at this
    exact this
theorem frz0 {G : List (Option Blk)} {c : AV} {Y : Option Blk} {b : Txt} (hb : b = [1]) : prim ⟨G, [some (dBlk [byteAV 1] false false), none, none, Y]⟩ (.buildSlice 2 true 1 1 [.slice none 0 0] [(0, 1)]) [.own (.l 0) 1 0 1 1 (some 1)] =
    some (.own (.l 2) 1 0 1 1 (some 1), ⟨G, [some { dBlk [byteAV 1] false false with wr := false }, none, some (dBlk [roAV b] false false), Y]⟩) := by
  subst hb; rfl
theorem app1 {G : List (Option Blk)} {Y : Option Blk} {x : AV} {d : Txt} (hd : d ≠ []) (hv : View ⟨G, [some (dBlk [byteAV 1] false false), none, none, Y]⟩ x 1 d.length (d.map byteAV)) (hr : 1 + d.length ≤ room) :
    prim ⟨G, [some (dBlk [byteAV 1] false false), none, none, Y]⟩ (.append 1 false 1 1) [.own (.l 0) 1 0 1 1 (some 1), x] = some (.own (.l 1) ((1 :: d).length * 1) 0 (1 :: d).length 1 none, ⟨G, [some (dBlk [byteAV 1] false false), some (dBlk ((1 :: d).map byteAV) true false), none, Y]⟩) := by
  have h0 : 0 < d.length := by cases d with | nil => exact absurd rfl hd | cons => simp
  have hdl : AV.lf.lfs (d.map byteAV) = true := bytes_lfs
  simp only [prim, hv.source, Option.bind_some]
  simp only [Hp.mayFreeze, Bool.false_eq_true, if_false, Hp.append, hv.hclen, if_true, Hp.get, List.getElem?_cons_zero, Option.join_some, dBlk_cells, List.length_cons, List.length_nil, Option.bind_some]
  rw [if_pos ⟨trivial, trivial, by omega, rfl⟩, if_neg (by omega), if_neg (by omega)]
  simp only [Hp.new, List.getElem?_cons_succ, List.getElem?_cons_zero, Option.map_some, List.drop_zero, dBlk, hdl, Bool.and_true, List.set_cons_succ, List.set_cons_zero, List.map_cons, Nat.mul_one, Nat.zero_add]
  rw [show 1 + d.length = d.length + 1 by omega]
  rfl
theorem app0 {G : List (Option Blk)} {Y : Option Blk} {x : AV} (hv : View ⟨G, [some (dBlk [byteAV 1] false false), none, none, Y]⟩ x 1 0 []) :
    prim ⟨G, [some (dBlk [byteAV 1] false false), none, none, Y]⟩ (.append 1 false 1 1) [.own (.l 0) 1 0 1 1 (some 1), x] = some (.own (.l 0) 1 0 1 1 (some 1), ⟨G, [some (dBlk [byteAV 1] false false), none, none, Y]⟩) := by
  have hroom : room = 140737488355328 := rfl
  simp only [prim, hv.source, Option.bind_some]
  simp only [Hp.mayFreeze, Bool.false_eq_true, if_false, Hp.append, List.length_nil, Nat.zero_mul, if_true, Hp.get, List.getElem?_cons_zero, Option.join_some, dBlk_cells, List.length_cons, Option.bind_some]
  rw [if_pos ⟨trivial, trivial, by omega, rfl⟩]
structure PutInv (n : Nat) (D : DskD) (J : JD) (bs : List Txt) : Prop where
  ok : AddedOk n (D, J)
  n0 : 0 < n
  nN : n ≤ 20000
  ep : J.ep ≠ 0#32
  ru : J.recs.length ≤ J.used
  fit : J.used + sumN bs ≤ J.n
  small : SmallR bs
  few : bs.length ≤ 1000
theorem put_at {bs : List Txt} (h : PutInv n D J bs) {l m : List Txt} (hl : bs = l ++ m) : AddedOk n (addAll (D, J) l) ∧ (addAll (D, J) l).2.ep ≠ 0#32 ∧ (addAll (D, J) l).2.frm + (addAll (D, J) l).2.n ≤ n ∧ (addAll (D, J) l).2.used + sumN m ≤ (addAll (D, J) l).2.n ∧ (addAll (D, J) l).2.recs.length ≤ (addAll (D, J) l).2.used := by
  subst hl
  have hs := sumN_app l m
  have hf := h.fit
  have A := addAll_ok h.n0 l (D, J) h.ok (fun b hb => SmallR.big h.small b (by simp [hb])) (by show J.used + sumN l ≤ J.n; omega)
  obtain ⟨f1, f2, f3, f4, f5, f6, f7, f8⟩ := noteAll_facts (ep := J.ep) l J
  have hg := sumN_ge (l := l) fun b hb => (h.small b (by simp [hb])).1
  have hr := h.ru
  have he := noteAll_ep (ep := J.ep) l J rfl
  have aj := A.j
  simp only at aj
  refine ⟨A.ok, ?_, A.ok.fit, ?_, ?_⟩
  · rw [aj, he]; exact h.ep
  · rw [aj, f2, f3]; omega
  · rw [aj, f1, f2, List.length_append]; omega
end Go.AM
namespace Go.AM
variable {prog : String → Option IFn}
variable {G L : List (Option Blk)} {P : DPos} {D : DskD} {n q p : Nat} {B : Option Blk} {cs : List AV} {J : JD}
def DB (B : Option Blk) : Prop := ∀ b, B = some b → b.labs = []
theorem DB.z : DB none := fun b h => by cases h
theorem DB.d {c : List AV} {o v : Bool} : DB (some (dBlk c o v)) := fun b h => by cases h; rfl
theorem DB.w {c : List AV} {o v w : Bool} : DB (some { dBlk c o v with wr := w }) := fun b h => by cases h; rfl
theorem DB.r {l : List Txt} : DB (rowBk l) := fun b h => by
  unfold rowBk at h
  split at h
  · cases h
  · cases h; rfl
theorem dat_4 {a b c d : Option Blk} (ha : DB a) (hb : DB b) (hc : DB c) (hd : DB d) : Dat [a, b, c, d] := by
  intro B hB x e
  simp at hB
  rcases hB with h | h | h | h <;> subst h
  · exact ha x e
  · exact hb x e
  · exact hc x e
  · exact hd x e
theorem rowV_nr {l : List Txt} : ∀ ks, 3 ∉ ks → noRef ks (rowV (.l 3) l) = true := fun ks h => by
  unfold rowV; split
  · rfl
  · rw [noRef_own]; simpa using h
set_option maxHeartbeats 2000000 in
theorem putJ_spec (H : JourLib prog) (hp : prog "haberdash/haberdashlaw08.put" = some f_law08_put) (h : OOk G.length P q p n) {a : AV} {xs : List BtV} (va : ∀ h, TView bsE h a xs) {bs : List Txt} (hbs : bs = xs.map putR) (I : PutInv n D J bs) :
    ∃ r Bs, Ev prog (.call "haberdash/haberdashlaw08.put" [.ptr (.o p) 9 0, .v (.slice none 0 0), a] (dj G P q p D (recB J.recs) (jC .o P.p q J)))
      (.ret (.tup [r, .v (.int .i64 (bs.length : Nat))]) (dj G P q p (addAll (D, J) bs).1 (recB (addAll (D, J) bs).2.recs) (jC .o P.p q (addAll (D, J) bs).2) ++ Bs)) ∧ ((bs = [] ∧ r = .v (.slice none 0 0) ∧ Bs = []) ∨ (bs ≠ [] ∧ r = .own (.o G.length) bs.length 0 bs.length 1 none ∧ Bs = [recB bs])) := by
  have hroom : room = 140737488355328 := rfl
  have hlen : bs.length = xs.length := by rw [hbs, List.length_map]
  have na : ∀ ks, noRef ks a = true := fun ks => noRef_out (View.out (va ⟨[], []⟩))
  obtain ⟨r, G2, he, a', Bs, rfl, rfl, hr⟩ := call_ex (prog := prog) (P := fun r G2 => ∃ r' Bs, r = .tup [r', .v (.int .i64 (bs.length : Nat))] ∧ G2 = dj G P q p (addAll (D, J) bs).1 (recB (addAll (D, J) bs).2.recs) (jC .o P.p q (addAll (D, J) bs).2) ++ Bs ∧ ((bs = [] ∧ r' = .v (.slice none 0 0) ∧ Bs = []) ∨ (bs ≠ [] ∧ r' = .own (.o G.length) bs.length 0 bs.length 1 none ∧ Bs = [recB bs])))
    hp (args := [.ptr (.o p) 9 0, .v (.slice none 0 0), a]) (G := dj G P q p D (recB J.recs) (jC .o P.p q J)) (by
    simp only [f_law08_put_B, enter, List.length_cons, List.length_nil, List.replicate, Nat.reduceAdd, Nat.reduceSub, List.cons_append, List.nil_append]
    have lsn : ∀ h : Hp, prim h .lenSlice [.v (.slice none 0 0)] = some (.v (.int .i64 0), h) := fun h => rfl
    have gd : ∀ {D B cs L}, Dat L → Good ⟨dj G P q p D B cs, L⟩ := fun hL => goodX hL
    have nr : ∀ l, noRef [0, 1, 2] (rowV (.l 3) l) = true := fun l => rowV_nr _ (by simp)
    have np : ∀ ks, noRef ks (.ptr (.o p) 9 0) = true := fun ks => by simp [noRef, AV.labs, labNot]
    simp (disch := first | (simp only [ne_eq, reduceCtorEq, not_false_eq_true, implies_true, List.getElem?_cons_zero, List.getElem?_cons_succ]; done) | omega) only [WS, St.guard, St.put, evalO, reduceCtorEq, reduceIte, Nat.reduceAdd, Nat.reduceEqDiff, lsn]
    refine WC_count (fun i => ⟨f_law08_put_H0 (.ptr (.o p) 9 0) (rowV (.l 3) (bs.take i)) a (.v (.int .i64 (i : Nat))) (.v (.int .i64 (i : Nat))), ⟨dj G P q p (addAll (D, J) (bs.take i)).1 (recB (addAll (D, J) (bs.take i)).2.recs) (jC .o P.p q (addAll (D, J) (bs.take i)).2), [none, none, none, rowBk (bs.take i)]⟩⟩) xs.length ?_ (fun i hi => ?_) ?_
    · exact clear_fre (by simp only [clear_nil, List.foldl_cons, List.foldl_nil, Option.some.injEq, List.map_cons, List.map_nil, List.getD_cons_zero, List.getD_cons_succ, List.set_cons_zero, List.set_cons_succ, Option.map_some, Option.bind_some, ne_eq, reduceCtorEq, not_false_eq_true, implies_true, beq_self_eq_true, BEq.rfl, if_true, if_false, Bool.false_eq_true, not_true_eq_false, Option.some.injEq, reduceIte, Bool.not_true, Bool.not_false, beq_true, beq_false, Bool.true_and, Bool.and_true, Bool.false_and, Bool.and_false, true_and, List.getElem?_cons_zero, List.getElem?_cons_succ, List.length_cons, List.length_nil, Nat.reduceAdd] <;> rfl) (by rfl) (by simp only [f_law08_put_H0, List.all_cons, List.all_nil, noRef_v, noRef_dead, noRef_own, noRef_ptr, noRef_nil, Bool.and_true, Bool.true_and, Bool.and_self, List.contains_cons, List.contains_nil, Bool.or_false, Nat.reduceBEq, Bool.not_false, na, nr, np]) (by rfl)
    · have hlt : (i : Int) < (xs.length : Int) := by omega
      obtain ⟨x, hx⟩ : ∃ x, xs[i]? = some x := ⟨_, List.getElem?_eq_getElem hi⟩
      have hbi : bs[i]? = some (putR x) := by rw [hbs, List.getElem?_map, hx]; rfl
      have htk : bs.take (i + 1) = bs.take i ++ [putR x] := by rw [List.take_add_one, hbi]; rfl
      have hsp : bs = bs.take i ++ bs.drop i := (List.take_append_drop i bs).symm
      have hdr : bs.drop i = putR x :: bs.drop (i + 1) := by
        rw [List.drop_eq_getElem_cons (by omega)]
        congr 1
        have := List.getElem?_eq_getElem (l := bs) (i := i) (by omega)
        rw [this] at hbi; exact Option.some.inj hbi
      obtain ⟨k1, k2, k3, k4, k5⟩ := put_at I hsp
      rw [htk, addAll_snoc]
      have hll : (bs.take i).length ≤ 1000 := by have := I.few; rw [List.length_take]; omega
      generalize bs.take i = l at *
      generalize addAll (D, J) l = R at *
      obtain ⟨E, K⟩ := R
      simp only at k2 k3 k4 k5 ⊢
      rw [hdr] at k4
      have hns : sumN (putR x :: bs.drop (i + 1)) = needN (putR x).length + sumN (bs.drop (i + 1)) := rfl
      have hin : putR x ∈ bs := by rw [hbs]; exact List.mem_map.2 ⟨x, List.mem_of_getElem? hx, rfl⟩
      have hsm := I.small _ hin
      obtain ⟨q1, q2, q3, q4⟩ := add_ok (b := putR x) k1 I.n0 hsm.1 (by omega) (by simp only; omega)
      have ix : ∀ h, prim h (.indexAddr 1) [a, .v (.int .i64 (i : Int))] = some (elemPtr a 1 i, h) := fun h => (va h).index hi
      have ld : ∀ h, prim h (.load 1 false) [elemPtr a 1 i] = some (x.a, h) := fun h => (va h).load1 (by
        have := row_fld (T := bsE) (f := 0) (y := x.a) hx (by show 0 < 1; omega) rfl
        rw [show bsE.esz = 1 from rfl, Nat.mul_one, Nat.add_zero] at this
        exact this)
      simp only at q1 q2 q3
      generalize hQ : K.add E (putR x) = Q at *
      obtain ⟨qe, qD, qJ⟩ := Q
      simp only at q1 q2 q3 ⊢
      subst q1
      obtain ⟨d, hd⟩ : ∃ d, d = x.b.take 200 := ⟨_, rfl⟩
      have hpR : putR x = 1 :: d := by rw [hd]; rfl
      have hdl : d.length = min x.b.length 200 := by rw [hd, List.length_take]; omega
      have sv : ∀ h, View h (AM.sub x.a 1 0 (min x.b.length 200)) 1 d.length (d.map byteAV) := fun h => by
        have := (x.va h).sub (i := 0) (j := min x.b.length 200) (by omega) (by omega)
        rw [Nat.mul_one, Nat.mul_one, Nat.sub_zero, List.drop_zero, ← List.map_take] at this
        rw [hdl, hd, show x.b.take 200 = x.b.take (min x.b.length 200) by rw [Nat.min_comm, List.take_eq_take_iff]; omega]
        exact this
      have mn : mins .i64 (x.b.length : Int) [.v (.int .i64 200)] = some ((min x.b.length 200 : Nat) : Int) := by simp only [mins, Option.some.injEq]; omega
      have sl : ∀ h, prim h (.slice 1 false true false) [x.a, .v (.int .i64 ((min x.b.length 200 : Nat) : Int))] = some (AM.sub x.a 1 0 (min x.b.length 200), h) := fun h => (x.va h).sliceHi (Nat.min_le_left _ _)
      simp (disch := first | (simp only [ne_eq, reduceCtorEq, not_false_eq_true, implies_true, List.getElem?_cons_zero, List.getElem?_cons_succ]; done) | omega) only [f_law08_put_L0, f_law08_put_H0, WS, St.guard, St.put, evalO, reduceCtorEq, reduceIte, Nat.reduceAdd, Nat.reduceEqDiff, (va _).lenSlice, goInt, hlt, decide_true]
      refine WDP_of (.prim (build1 (n := 1) (xs := [byteAV 1]) (by rfl) (by rfl) (by rfl) (cells_bytes (bs := [1])) (by rfl))) (by exact gd (dat_4 .z .z .z .r)) (by exact gd (dat_4 .d .z .z .r)) rfl rfl ?_
      simp (disch := first | (simp only [ne_eq, reduceCtorEq, not_false_eq_true, implies_true, List.getElem?_cons_zero, List.getElem?_cons_succ]; done) | omega) only [WS, St.guard, St.put, evalO, reduceCtorEq, reduceIte, Nat.reduceAdd, Nat.reduceEqDiff, ix]
      refine WDP_er (by exact gd (dat_4 .d .z .z .r)) rfl ?_
      refine ⟨_, _, ld _, rfl, .inr ⟨rfl, gd (dat_4 .d .z .z .r)⟩, ?_⟩
      simp (disch := first | (simp only [ne_eq, reduceCtorEq, not_false_eq_true, implies_true, List.getElem?_cons_zero, List.getElem?_cons_succ]; done) | omega) only [WS, St.guard, St.put, evalO, reduceCtorEq, reduceIte, Nat.reduceAdd, Nat.reduceEqDiff, WDX_some, reduceIte, if_true, if_false, Bool.and_true, Bool.true_and, true_and, Bool.false_eq_true, false_or, true_or, Hp.over, AM.over, over_nil, List.foldl_cons, List.foldl_nil, List.set_cons_zero, List.set_cons_succ, List.getElem?_cons_zero, List.getElem?_cons_succ, Option.join_some, List.length_cons, List.length_nil, Prim.sites, List.cons_append, List.nil_append, ix]
      refine WDP_er (by exact gd (dat_4 .d .z .z .r)) rfl ?_
      refine ⟨_, _, ld _, rfl, .inr ⟨rfl, gd (dat_4 .d .z .z .r)⟩, ?_⟩
      simp (disch := first | (simp only [ne_eq, reduceCtorEq, not_false_eq_true, implies_true, List.getElem?_cons_zero, List.getElem?_cons_succ]; done) | omega) only [WS, St.guard, St.put, evalO, reduceCtorEq, reduceIte, Nat.reduceAdd, Nat.reduceEqDiff, WDX_some, reduceIte, if_true, if_false, Bool.and_true, Bool.true_and, true_and, Bool.false_eq_true, false_or, true_or, Hp.over, AM.over, over_nil, List.foldl_cons, List.foldl_nil, List.set_cons_zero, List.set_cons_succ, List.getElem?_cons_zero, List.getElem?_cons_succ, Option.join_some, List.length_cons, List.length_nil, Prim.sites, List.cons_append, List.nil_append, (x.va _).lenSlice, mn, sl]
      have hx201 : (putR x).length = 1 + d.length := by rw [hpR, List.length_cons]; omega
      have addOp : ∀ (k : Nat) (cap : Option Nat) (Y : List (Option Blk)) (X : Blk), Y[k]? = some (some X) → X.cells = (putR x).map byteAV → X.virt = false → (∀ c, cap = some c → (putR x).length ≤ c) → X.labs = [] → Dat Y →
          Ev prog (.op (.call "(*haberdash/journal.Journal).Add" []) [.ptr (.o p) 9 0, .own (.l k) (putR x).length 0 (putR x).length 1 cap] ⟨dj G P q p E (recB K.recs) (jC .o P.p q K), Y⟩)
            (.val (.v (.int .i64 0)) ⟨dj G P q p qD (recB qJ.recs) (jC .o P.p q qJ), Y⟩) := fun k cap Y X hk hX hv hc hl hY => by
        refine op_turn ⟨dj G P q p qD (recB qJ.recs) (jC .o P.p q qJ), Y⟩ ?_ rfl (by simp only [dj_len]) rfl (gd hY) (gd hY)
        rw [into_djL h, into_djL h]
        have hio : OOk (⟨G, Y⟩ : Hp).into.length P q p n := by unfold Hp.into; exact h.app
        have hA := arg_blk (P := P) (q := q) (p := p) (k := G.length + k) (b := putR x) (cap := cap) (Off.of h (by omega)) (into_at (G := G) hk hl) hX hv hc
        have e := Add_spec H (D := E) (J := K) hio k1.z I.nN hA k2 (by have := I.nN; omega) (by omega) (by omega) (by omega)
        rw [hQ] at e
        have xr : [AV.ptr (.o p) 9 0, .own (.l k) (putR x).length 0 (putR x).length 1 cap].map (AV.ren (up (dj G P q p E (recB K.recs) (jC .o P.p q K)).length)) = [.ptr (.o p) 9 0, .own (.o (G.length + k)) (putR x).length 0 (putR x).length 1 cap] := by
          rw [dj_len]; rfl
        rw [xr]
        exact e
      have hx1000 : xs.length ≤ 1000 := by have := I.few; omega
      have hi1 : (i : Int) + 1 = ((i + 1 : Nat) : Int) := by omega
      by_cases hd0 : d = []
      · have hp1 : putR x = [1] := by rw [hpR, hd0]
        have v0 : ∀ h, View h (AM.sub x.a 1 0 (min x.b.length 200)) 1 0 [] := fun h => by have := sv h; rw [hd0] at this; exact this
        refine WDP_of (.prim (app0 (v0 _))) (by exact gd (dat_4 .d .z .z .r)) (by exact gd (dat_4 .d .z .z .r)) rfl rfl ?_
        simp (disch := first | (simp only [ne_eq, reduceCtorEq, not_false_eq_true, implies_true, List.getElem?_cons_zero, List.getElem?_cons_succ]; done) | omega) only [WS, St.guard, St.put, evalO, reduceCtorEq, reduceIte, Nat.reduceAdd, Nat.reduceEqDiff]
        refine (WR_eq (frz0 (c := .dead) hp1)).2 ?_
        simp (disch := first | (simp only [ne_eq, reduceCtorEq, not_false_eq_true, implies_true, List.getElem?_cons_zero, List.getElem?_cons_succ]; done) | omega) only [WS, St.guard, St.put, evalO, reduceCtorEq, reduceIte, Nat.reduceAdd, Nat.reduceEqDiff]
        refine (WR_eq (app_row (by omega))).2 ?_
        simp (disch := first | (simp only [ne_eq, reduceCtorEq, not_false_eq_true, implies_true, List.getElem?_cons_zero, List.getElem?_cons_succ]; done) | omega) only [WS, St.guard, St.put, evalO, reduceCtorEq, reduceIte, Nat.reduceAdd, Nat.reduceEqDiff]
        have ao := addOp 0 (some 1) [some { dBlk [byteAV 1] false false with wr := false }, none, some (dBlk [roAV (putR x)] false false), rowBk (l ++ [putR x])] _ rfl (by rw [hp1]; rfl) rfl (by intro c hc; cases hc; rw [hp1]; exact Nat.le_refl _) rfl (dat_4 .w .z .d .r)
        rw [show (putR x).length = 1 by rw [hp1]; rfl] at ao
        refine WP_of ao ?_
        simp (disch := first | (simp only [ne_eq, reduceCtorEq, not_false_eq_true, implies_true, List.getElem?_cons_zero, List.getElem?_cons_succ]; done) | omega) only [WS, St.guard, St.put, evalO, reduceCtorEq, reduceIte, Nat.reduceAdd, Nat.reduceEqDiff, Int.reduceBNe, vBin_add_i64, hi1]
        exact clear_fre (by simp only [clear_nil, List.foldl_cons, List.foldl_nil, Option.some.injEq, List.map_cons, List.map_nil, List.getD_cons_zero, List.getD_cons_succ, List.set_cons_zero, List.set_cons_succ, Option.map_some, Option.bind_some, ne_eq, reduceCtorEq, not_false_eq_true, implies_true, beq_self_eq_true, BEq.rfl, if_true, if_false, Bool.false_eq_true, not_true_eq_false, Option.some.injEq, reduceIte, Bool.not_true, Bool.not_false, beq_true, beq_false, Bool.true_and, Bool.and_true, Bool.false_and, Bool.and_false, true_and, List.getElem?_cons_zero, List.getElem?_cons_succ, List.length_cons, List.length_nil, Nat.reduceAdd] <;> rfl) (by rfl) (by simp only [f_law08_put_H0, List.all_cons, List.all_nil, noRef_v, noRef_dead, noRef_own, noRef_ptr, noRef_nil, Bool.and_true, Bool.true_and, Bool.and_self, List.contains_cons, List.contains_nil, Bool.or_false, Nat.reduceBEq, Bool.not_false, na, nr, np]) (by unfold rowBk; rw [if_neg (by simp)]; rfl)
      · refine WDP_of (.prim (app1 hd0 (sv _) (by omega))) (by exact gd (dat_4 .d .z .z .r)) (by exact gd (dat_4 .d .d .z .r)) rfl rfl ?_
        rw [← hpR]
        simp (disch := first | (simp only [ne_eq, reduceCtorEq, not_false_eq_true, implies_true, List.getElem?_cons_zero, List.getElem?_cons_succ]; done) | omega) only [WS, St.guard, St.put, evalO, reduceCtorEq, reduceIte, Nat.reduceAdd, Nat.reduceEqDiff]
        refine (WR_eq frz_rowL).2 ?_
        simp (disch := first | (simp only [ne_eq, reduceCtorEq, not_false_eq_true, implies_true, List.getElem?_cons_zero, List.getElem?_cons_succ]; done) | omega) only [WS, St.guard, St.put, evalO, reduceCtorEq, reduceIte, Nat.reduceAdd, Nat.reduceEqDiff]
        refine (WR_eq (app_row (by omega))).2 ?_
        simp (disch := first | (simp only [ne_eq, reduceCtorEq, not_false_eq_true, implies_true, List.getElem?_cons_zero, List.getElem?_cons_succ]; done) | omega) only [WS, St.guard, St.put, evalO, reduceCtorEq, reduceIte, Nat.reduceAdd, Nat.reduceEqDiff]
        have ao := addOp 1 none [some (dBlk [byteAV 1] false false), some { dBlk ((putR x).map byteAV) true false with wr := false }, some (dBlk [roAV (putR x)] false false), rowBk (l ++ [putR x])] _ rfl rfl rfl (by intro c hc; cases hc) rfl (dat_4 .d .w .d .r)
        rw [Nat.mul_one]
        refine WP_of ao ?_
        simp (disch := first | (simp only [ne_eq, reduceCtorEq, not_false_eq_true, implies_true, List.getElem?_cons_zero, List.getElem?_cons_succ]; done) | omega) only [WS, St.guard, St.put, evalO, reduceCtorEq, reduceIte, Nat.reduceAdd, Nat.reduceEqDiff, Int.reduceBNe, vBin_add_i64, hi1]
        exact clear_fre (by simp only [clear_nil, List.foldl_cons, List.foldl_nil, Option.some.injEq, List.map_cons, List.map_nil, List.getD_cons_zero, List.getD_cons_succ, List.set_cons_zero, List.set_cons_succ, Option.map_some, Option.bind_some, ne_eq, reduceCtorEq, not_false_eq_true, implies_true, beq_self_eq_true, BEq.rfl, if_true, if_false, Bool.false_eq_true, not_true_eq_false, Option.some.injEq, reduceIte, Bool.not_true, Bool.not_false, beq_true, beq_false, Bool.true_and, Bool.and_true, Bool.false_and, Bool.and_false, true_and, List.getElem?_cons_zero, List.getElem?_cons_succ, List.length_cons, List.length_nil, Nat.reduceAdd] <;> rfl) (by rfl) (by simp only [f_law08_put_H0, List.all_cons, List.all_nil, noRef_v, noRef_dead, noRef_own, noRef_ptr, noRef_nil, Bool.and_true, Bool.true_and, Bool.and_self, List.contains_cons, List.contains_nil, Bool.or_false, Nat.reduceBEq, Bool.not_false, na, nr, np]) (by unfold rowBk; rw [if_neg (by simp)]; rfl)
    · have htl : bs.take xs.length = bs := by rw [List.take_of_length_le (by omega)]
      rw [htl]
      simp (disch := first | (simp only [ne_eq, reduceCtorEq, not_false_eq_true, implies_true, List.getElem?_cons_zero, List.getElem?_cons_succ]; done) | omega) only [f_law08_put_L0, f_law08_put_H0, WS, St.guard, St.put, evalO, reduceCtorEq, reduceIte, Nat.reduceAdd, Nat.reduceEqDiff, (va _).lenSlice, goInt, Int.lt_irrefl, decide_false, fin_tmp2]
      rw [hlen]
      by_cases hb0 : bs = []
      · have e1 : rowV (.l 3) bs = .v (.slice none 0 0) := if_pos hb0
        rw [e1]
        refine ⟨by simp, _, _, leave_lf rfl, .v (.slice none 0 0), [], rfl, by rw [List.append_nil], .inl ⟨hb0, rfl, rfl⟩⟩
      · have e1 : rowV (.l 3) bs = .own (.l 3) bs.length 0 bs.length 1 none := if_neg hb0
        have e2 : rowBk bs = recB bs := if_neg hb0
        rw [e1, e2]
        refine ⟨by simp, _, _, leave_own (C := fun a => .tup [a, .v (.int .i64 (xs.length : Nat))]) (fun _ _ => rfl) (fun a => by simp [AV.labs, AV.labs.labss]) (by exact rfl) rfl, _, _, rfl, rfl, .inr ⟨hb0, by rw [dj_len, hlen], rfl⟩⟩)
  exact ⟨a', Bs, he, hr⟩
end Go.AM
namespace Go.AM
variable {prog : String → Option IFn}
variable {G L : List (Option Blk)} {P : DPos} {D : DskD} {n q p : Nat} {B : Option Blk} {cs : List AV} {J : JD}
structure RowLib (prog : String → Option IFn) : Prop where
  rows : prog "haberdash/haberdashhelp.Rows" = some f_help_Rows
  same : prog "haberdash/haberdashhelp.Same[[]byte]" = some f_help_Same___byte_
  bytes : prog "haberdash/haberdashhelp.Bytes" = some f_help_Bytes
theorem same_rows (H : RowLib prog) {a b : Nat} {l : List Txt} (ha : G[a]? = some (recB l)) (hb : G[b]? = some (recB l)) (hl : l.length ≤ 2 ^ 40) :
    Ev prog (.call "haberdash/haberdashhelp.Same[[]byte]" [.own (.o a) l.length 0 l.length 1 none, .own (.o b) l.length 0 l.length 1 none, .fn "haberdash/haberdashhelp.Bytes" [] []] G) (.ret (.v (.bool true)) G) := by
  have vt : ∀ (t : Txt) h, View h (roAV t) 1 t.length (t.map byteAV) := fun t h => view_ro (by decide) (by simp)
  have := same_spec (T := recE) (U := recE) rfl rfl (H.same.trans (congrArg some (show f_help_Same___byte_ = gSame recE.esz recE.agg from rfl))) (G := G) (a := .own (.o a) l.length 0 l.length 1 none) (b := .own (.o b) l.length 0 l.length 1 none) (fv := .fn "haberdash/haberdashhelp.Bytes" [] []) (xs := l) (ys := l) (fun L => rec_view ha) (fun L => rec_view hb) (fun x y => decide (x = y)) (fun i x y _ _ => by
    refine op_fnV (g := "haberdash/haberdashhelp.Bytes") (first := []) (xs := [roAV x, roAV y]) (caps := []) (h := ⟨G, []⟩) (h' := ⟨G, []⟩) ?_ rfl rfl rfl trivial trivial
    exact Bytes_spec H.bytes (fun L => vt x _) (fun L => vt y _)) (by omega) (by omega)
  rw [same2_eq, decide_eq_true rfl] at this
  exact this
theorem rows_spec (H : RowLib prog) {a b : Nat} {l : List Txt} (ha : G[a]? = some (recB l)) (hb : G[b]? = some (recB l)) (hl : l.length ≤ 2 ^ 40) :
    Ev prog (.call "haberdash/haberdashhelp.Rows" [.own (.o a) l.length 0 l.length 1 none, .own (.o b) l.length 0 l.length 1 none] G) (.ret (.v (.bool true)) G) := by
  refine call_of_fin H.rows ?_
  simp only [f_help_Rows_B, enter, List.length_cons, List.length_nil, List.replicate, Nat.reduceAdd, Nat.reduceSub, List.cons_append, List.nil_append]
  simp (disch := first | (simp only [ne_eq, reduceCtorEq, not_false_eq_true, implies_true, List.getElem?_cons_zero, List.getElem?_cons_succ]; done) | omega) only [WS, St.guard, St.put, evalO, reduceCtorEq, reduceIte, Nat.reduceAdd, Nat.reduceEqDiff]
  refine (WP_p (x := .bool true) (by rw [into_nil]; exact same_rows H ha hb hl) (by exact trivial)).2 ?_
  simp (disch := first | (simp only [ne_eq, reduceCtorEq, not_false_eq_true, implies_true, List.getElem?_cons_zero, List.getElem?_cons_succ]; done) | omega) only [WS, St.guard, St.put, evalO, reduceCtorEq, reduceIte, Nat.reduceAdd, Nat.reduceEqDiff, fin_tmp, leave_v]
  simp
end Go.AM
