import Derived.Test.YtdcnjckkcfoppaaJourC
import Derived.Test.YtdcnjckkcfoppaaJourB
set_option linter.unusedVariables false
set_option linter.unusedSimpArgs false
namespace Go.AM
variable {D : DskD} {J : JD}
def RecAt (D : DskD) (ep : BitVec 32) (num u : Nat) (b : Txt) : Prop := ∀ k, k < needN b.length → secAt D.b ((u + k : Nat) : Int) = secK ep num (needN b.length) b k
theorem pc_take {b : Txt} {k : Nat} : b.take (k * 46) ++ pc b k = b.take ((k + 1) * 46) := by
  unfold pc
  rw [show (k + 1) * 46 = k * 46 + 46 by omega, List.take_add]
theorem lv_rec {ep : BitVec 32} {num : Nat} {b : Txt} {k : Nat} (he : ep ≠ 0#32) (hb : b ≠ []) (hR : RecAt D ep num (J.frm + J.used) b) (hk : k < needN b.length) (hn : J.used + k < J.n) :
    lvOK D J (J.used + k) = true ∧ lvX D J (J.used + k) = leafK ep num (needN b.length) b k := by
  have hr := leafK_right (num := num) he hb hk
  have hs : (secAt D.b ((J.frm + (J.used + k) : Nat) : Int)).1 = (leafK ep num (needN b.length) b k).bytes := by
    have := hR k hk
    rw [show J.frm + J.used + k = J.frm + (J.used + k) by omega] at this
    rw [this, secK_bytes]
  unfold lvOK lvX
  rw [if_pos hn, if_pos hn, hs]
  exact ⟨takeOK_bytes hr, takeX_bytes hr⟩
theorem tkF_rec {ep : BitVec 32} {b : Txt} (he : ep ≠ 0#32) (hb : b ≠ []) (hR : RecAt D ep J.recs.length (J.frm + J.used) b) (hla : ¬ ep.toNat < J.la.toNat) (hn : J.used + needN b.length ≤ J.n) (hrl : J.recs.length < 2 ^ 32) :
    ∀ (j k f : Nat) (e' : BitVec 32), k + j + 1 = needN b.length → j + 1 ≤ f → (k ≠ 0 → e' = ep) → tkF D J f k (b.take (k * 46)) e' = (true, ({ J with ep := ep } : JD).note b (needN b.length))
  | j, k, 0, e', hj, hf, hk => by omega
  | j, k, f + 1, e', hj, hf, hk => by
    obtain ⟨ho, hx⟩ := lv_rec (J := J) (k := k) he hb hR (by omega) (by omega)
    have hN : lvNext D J k e' = true := by
      unfold lvNext
      rw [ho, hx]
      have h1 : ((leafK ep J.recs.length (needN b.length) b k).n.toNat == J.recs.length) = true := by
        rw [beq_iff_eq]; show (BitVec.ofNat 32 J.recs.length).toNat = _; rw [BitVec.toNat_ofNat, Nat.mod_eq_of_lt hrl]
      have h2 : ((leafK ep J.recs.length (needN b.length) b k).f == decide (k = 0)) = true := by rw [beq_iff_eq]; rfl
      have h3 : decide ((leafK ep J.recs.length (needN b.length) b k).e.toNat < J.la.toNat) = false := decide_eq_false hla
      have h4 : (decide (k = 0) || (leafK ep J.recs.length (needN b.length) b k).e == e') = true := by
        by_cases h : k = 0
        · rw [decide_eq_true h]; rfl
        · rw [hk h]; show (decide (k = 0) || ep == ep) = true; rw [beq_self_eq_true, Bool.or_true]
      rw [h1, h2, h3, h4]
      rfl
    unfold tkF
    rw [if_pos hN, hx]
    have hd : b.take (k * 46) ++ (leafK ep J.recs.length (needN b.length) b k).d = b.take ((k + 1) * 46) := pc_take
    have hl : (leafK ep J.recs.length (needN b.length) b k).l = decide (k = needN b.length - 1) := rfl
    have hE : (leafK ep J.recs.length (needN b.length) b k).e = ep := rfl
    rw [hd, hl, hE]
    cases j with
    | zero =>
      rw [if_pos (decide_eq_true (by omega))]
      have hlen : b.length ≤ (k + 1) * 46 := by unfold needN at hj; omega
      rw [List.take_of_length_le hlen, show k + 1 = needN b.length by omega]
    | succ j =>
      rw [if_neg (by simp; omega)]
      exact tkF_rec he hb hR hla hn hrl j (k + 1) f ep (by omega) (by omega) (fun _ => rfl)
theorem needN_pos' {b : Txt} (hb : b ≠ []) : 1 ≤ needN b.length := by
  have : 0 < b.length := by cases b with | nil => exact absurd rfl hb | cons => simp
  unfold needN; omega
theorem take_rec {ep : BitVec 32} {b : Txt} (he : ep ≠ 0#32) (hb : b ≠ []) (hR : RecAt D ep J.recs.length (J.frm + J.used) b) (hla : ¬ ep.toNat < J.la.toNat) (hn : J.used + needN b.length ≤ J.n) (hrl : J.recs.length < 2 ^ 32) :
    J.take D = (true, ({ J with ep := ep } : JD).note b (needN b.length)) := by
  have := needN_pos' hb
  exact tkF_rec he hb hR hla hn hrl (needN b.length - 1) 0 _ _ (by omega) (by omega) (fun h => absurd rfl h)
theorem take_stop (h : lvNext D J 0 J.ep = false) : J.take D = (false, J) := by
  unfold JD.take tkF
  rw [h]
  rfl
def noteAll (ep : BitVec 32) : JD → List Txt → JD
  | J, [] => J
  | J, b :: l => noteAll ep (({ J with ep := ep } : JD).note b (needN b.length)) l
def RecsAt (D : DskD) (ep : BitVec 32) (frm : Nat) : Nat → Nat → List Txt → Prop
  | _, _, [] => True
  | num, u, b :: l => RecAt D ep num (frm + u) b ∧ RecsAt D ep frm (num + 1) (u + needN b.length) l
def sumN : List Txt → Nat
  | [] => 0
  | b :: l => needN b.length + sumN l
theorem noteAll_facts {ep : BitVec 32} : ∀ (l : List Txt) (J : JD), (noteAll ep J l).recs = J.recs ++ l ∧ (noteAll ep J l).used = J.used + sumN l ∧ (noteAll ep J l).n = J.n ∧ (noteAll ep J l).frm = J.frm ∧ (noteAll ep J l).dead = J.dead ∧ (l ≠ [] → (noteAll ep J l).la = ep) ∧ (l = [] → noteAll ep J l = J) ∧ (noteAll ep J l).fi = (if J.recs = [] then (if l = [] then J.fi else ep) else J.fi)
  | [], J => ⟨by simp [noteAll], by simp [noteAll, sumN], rfl, rfl, rfl, fun h => absurd rfl h, fun _ => rfl, by simp [noteAll]⟩
  | b :: l, J => by
    obtain ⟨h1, h2, h3, h4, h5, h6, h7, h8⟩ := noteAll_facts (ep := ep) l (({ J with ep := ep } : JD).note b (needN b.length))
    refine ⟨?_, ?_, h3, h4, h5, fun _ => ?_, (fun h => by cases h), ?_⟩
    · show (noteAll ep (({ J with ep := ep } : JD).note b (needN b.length)) l).recs = _
      rw [h1]; show (J.recs ++ [b]) ++ l = _; rw [List.append_assoc]; rfl
    · show (noteAll ep (({ J with ep := ep } : JD).note b (needN b.length)) l).used = _
      rw [h2]; show J.used + needN b.length + sumN l = J.used + (needN b.length + sumN l); omega
    · show (noteAll ep (({ J with ep := ep } : JD).note b (needN b.length)) l).la = ep
      by_cases hl : l = []
      · rw [h7 hl]; rfl
      · exact h6 hl
    · show (noteAll ep (({ J with ep := ep } : JD).note b (needN b.length)) l).fi = _
      rw [h8, if_neg (by show ¬ J.recs ++ [b] = []; simp), if_neg (by simp : ¬ b :: l = [])]
      rfl
theorem tksF_recs {ep : BitVec 32} (he : ep ≠ 0#32) : ∀ (l : List Txt) (J : JD) (f : Nat), (∀ b ∈ l, b ≠ []) → RecsAt D ep J.frm J.recs.length J.used l → ¬ ep.toNat < J.la.toNat → J.used + sumN l ≤ J.n → J.recs.length + l.length < 2 ^ 32 → l.length + 1 ≤ f →
    lvNext D (noteAll ep J l) 0 (noteAll ep J l).ep = false → tksF D f J = noteAll ep J l
  | [], J, f, _, _, _, _, _, hf, hs => by
    obtain ⟨f, rfl⟩ : ∃ g, f = g + 1 := ⟨f - 1, by simp at hf; omega⟩
    unfold tksF
    rw [take_stop (J := J) hs]
    rfl
  | b :: l, J, f, hb, hR, hla, hn, hrl, hf, hs => by
    obtain ⟨f, rfl⟩ : ∃ g, f = g + 1 := ⟨f - 1, by simp at hf; omega⟩
    have hsum : sumN (b :: l) = needN b.length + sumN l := rfl
    have e := take_rec (D := D) (J := J) he (hb b (by simp)) hR.1 hla (by omega) (by simp at hrl; omega)
    unfold tksF
    rw [e]
    simp only [if_true]
    refine tksF_recs he l _ f (fun c hc => hb c (by simp [hc])) ?_ ?_ ?_ ?_ ?_ hs
    · have : (J.recs ++ [b]).length = J.recs.length + 1 := by simp
      show RecsAt D ep J.frm (J.recs ++ [b]).length (J.used + needN b.length) l
      rw [this]; exact hR.2
    · show ¬ ep.toNat < ep.toNat; omega
    · show J.used + needN b.length + sumN l ≤ J.n; omega
    · show (J.recs ++ [b]).length + l.length < 2 ^ 32
      simp at hrl ⊢; omega
    · simp at hf; omega
end Go.AM
namespace Go.AM
variable {D : DskD} {J : JD} {n : Nat}
theorem layF_b {at' : Nat → Int} {s : Nat → Sec} {k0 : Nat} (ha : ∀ j, at' j = ((k0 + j : Nat) : Int)) : ∀ (m i : Nat) {D : DskD}, Live D → Siz D n → 0 < n → k0 + i + m ≤ n →
    ∀ t, (layF D at' s i m).2.b[t]? = if k0 + i ≤ t ∧ t < k0 + i + m then some (s (t - k0)) else D.b[t]?
  | 0, i, D, hl, z, h0, _ => fun t => by
    obtain ⟨e1, e2, e3⟩ := sync_live hl (by rw [z.b]; exact h0)
    unfold layF
    rw [e2, if_neg (by omega)]
    rfl
  | m + 1, i, D, hl, z, h0, hm => fun t => by
    obtain ⟨e1, e2⟩ := write_live hl (i := k0 + i) (s := s i) (by rw [z.b]; omega)
    unfold layF
    rw [ha i, if_pos e1, e2]
    rw [layF_b ha m (i + 1) (live_put hl) z.put h0 (by omega) t]
    have hb : (D.put (k0 + i) (s i)).b = D.b.set (k0 + i) (s i) := rfl
    rw [hb]
    by_cases h1 : k0 + (i + 1) ≤ t ∧ t < k0 + (i + 1) + m
    · rw [if_pos h1, if_pos (by omega)]
    · rw [if_neg h1, List.getElem?_set]
      by_cases h2 : k0 + i = t
      · subst h2
        rw [if_pos rfl, if_pos (by rw [z.b]; omega), if_pos (by omega), show k0 + i - k0 = i by omega]
      · rw [if_neg h2, if_neg (by omega)]
theorem add_b {b : Txt} (hl : Live D) (z : Siz D n) (h0 : 0 < n) (hfn : J.frm + J.used + needN b.length ≤ n) (t : Nat) :
    (J.lay D b).2.b[t]? = if J.frm + J.used ≤ t ∧ t < J.frm + J.used + needN b.length then some (secK J.ep J.recs.length (needN b.length) b (t - (J.frm + J.used))) else D.b[t]? := by
  unfold JD.lay
  have := layF_b (at' := J.at') (s := secK J.ep J.recs.length (needN b.length) b) (k0 := J.frm + J.used) (n := n) (fun j => rfl) (needN b.length) 0 hl z h0 (by omega) t
  rw [Nat.add_zero] at this
  exact this
structure AddedOk (n : Nat) (q : DskD × JD) : Prop where
  live : Live q.1
  z : Siz q.1 n
  dead : q.2.dead = false
  fit : q.2.frm + q.2.n ≤ n
theorem add_ok {q : DskD × JD} {b : Txt} (h : AddedOk n q) (h0 : 0 < n) (hb : b ≠ []) (hbl : b.length ≤ 400000) (hn : q.2.used + needN b.length ≤ q.2.n) :
    (q.2.add q.1 b).1 = 0 ∧ (q.2.add q.1 b).2.2 = q.2.note b (needN b.length) ∧ AddedOk n (q.2.add q.1 b).2 ∧
    ∀ t, (q.2.add q.1 b).2.1.b[t]? = if q.2.frm + q.2.used ≤ t ∧ t < q.2.frm + q.2.used + needN b.length then some (secK q.2.ep q.2.recs.length (needN b.length) b (t - (q.2.frm + q.2.used))) else q.1.b[t]? := by
  have hb1 : 1 ≤ b.length := by cases b with | nil => exact absurd rfl hb | cons => simp
  have hf := h.fit
  obtain ⟨e1, e2, e3⟩ := layF_live (at' := q.2.at') (s := secK q.2.ep q.2.recs.length (needN b.length) b) (k0 := q.2.frm + q.2.used) (n := n) (fun j => rfl) (needN b.length) 0 h.live h.z h0 (by omega)
  have e : q.2.add q.1 b = (0, (q.2.lay q.1 b).2, q.2.note b (needN b.length)) := by
    unfold JD.add
    rw [if_neg (by rw [h.dead, h.live.1]; simp), if_neg (by omega), if_neg (by omega)]
    exact if_pos e1
  rw [e]
  refine ⟨rfl, rfl, ⟨e2, e3, h.dead, h.fit⟩, fun t => ?_⟩
  exact add_b (J := q.2) h.live h.z h0 (by omega) t
theorem recAt_of {A : DskD} {ep : BitVec 32} {num u : Nat} {b : Txt} (h : ∀ k, k < needN b.length → A.b[u + k]? = some (secK ep num (needN b.length) b k)) : RecAt A ep num u b := fun k hk => by
  unfold secAt
  rw [Int.toNat_natCast, List.getD_eq_getElem?_getD, h k hk]; rfl
def RecAt' (A : List Sec) (ep : BitVec 32) (num u : Nat) (b : Txt) : Prop := ∀ k, k < needN b.length → A[u + k]? = some (secK ep num (needN b.length) b k)
def RecsAt' (A : List Sec) (ep : BitVec 32) (frm : Nat) : Nat → Nat → List Txt → Prop
  | _, _, [] => True
  | num, u, b :: l => RecAt' A ep num (frm + u) b ∧ RecsAt' A ep frm (num + 1) (u + needN b.length) l
theorem recsAt_of {A : DskD} {ep : BitVec 32} {frm : Nat} : ∀ {num u : Nat} {l : List Txt}, RecsAt' A.b ep frm num u l → RecsAt A ep frm num u l
  | _, _, [], _ => trivial
  | _, _, _ :: _, h => ⟨recAt_of h.1, recsAt_of h.2⟩
end Go.AM
namespace Go.AM
variable {D : DskD} {J : JD} {n : Nat}
theorem zs64_badJ : takeOK zs64 = false := by
  cases h : takeOK zs64 with
  | false => rfl
  | true =>
    have := (Bool.and_eq_true _ _ ▸ h : (takeD zs64).right = true ∧ decide ((takeD zs64).bytes = zs64) = true).1
    have h2 := (right_len this).1
    exact absurd h2 (by decide)
theorem lvNext_zero {ep : BitVec 32} (h : D.b[J.frm + J.used]? = some zsec ∨ J.n ≤ J.used) : lvNext D J 0 ep = false := by
  have : lvOK D J (J.used + 0) = false := by
    unfold lvOK
    split
    · rename_i hi
      rcases h with h | h
      · unfold secAt
        rw [Int.toNat_natCast, List.getD_eq_getElem?_getD, show J.frm + (J.used + 0) = J.frm + J.used from rfl, h]
        exact zs64_badJ
      · omega
    · rfl
  unfold lvNext
  rw [this]; rfl
theorem lvNext_old {ep e : BitVec 32} {num k : Nat} {b : Txt} (he : e ≠ 0#32) (hb : b ≠ []) (hk : k < needN b.length) (h : D.b[J.frm + J.used]? = some (secK e num (needN b.length) b k)) (hla : e.toNat < J.la.toNat) : lvNext D J 0 ep = false := by
  have hr := leafK_right (num := num) he hb hk
  unfold lvNext
  by_cases hi : J.used + 0 < J.n
  · have hx : lvX D J (J.used + 0) = leafK e num (needN b.length) b k := by
      unfold lvX secAt
      rw [if_pos hi, Int.toNat_natCast, List.getD_eq_getElem?_getD, show J.frm + (J.used + 0) = J.frm + J.used from rfl, h]
      show takeX (secK e num (needN b.length) b k).1 = _
      rw [secK_bytes]
      exact takeX_bytes hr
    rw [hx]
    have : decide ((leafK e num (needN b.length) b k).e.toNat < J.la.toNat) = true := decide_eq_true hla
    rw [this]
    simp
  · have : lvOK D J (J.used + 0) = false := by unfold lvOK; rw [if_neg hi]
    rw [this]; rfl
theorem newD_b {k t : Nat} (h : t < k) : (newD k).b[t]? = some zsec := by
  simp [newD, h]
def SmallR (l : List Txt) : Prop := ∀ b ∈ l, b ≠ [] ∧ b.length ≤ 201
theorem SmallR.big {l : List Txt} (h : SmallR l) : ∀ b ∈ l, b ≠ [] ∧ b.length ≤ 400000 := fun b hb => ⟨(h b hb).1, by have := (h b hb).2; omega⟩
end Go.AM
namespace Go.AM
variable {prog : String → Option IFn}
variable {G L : List (Option Blk)} {P : DPos} {D : DskD} {n q p : Nat} {B : Option Blk} {cs : List AV} {J : JD}
structure BtV where
  b : Txt
  a : AV
  va : ∀ h, View h a 1 b.length (b.map byteAV)
  hl : b.length ≤ maxLen
theorem BtV.lf (x : BtV) : AV.lf.lfs [x.a] = true := by
  rcases (x.va ⟨[], []⟩).cases with ⟨h, _⟩ | ⟨nl, h⟩ | ⟨ℓ, m, off, cap, B, h, hB, _⟩
  · rw [h]; rfl
  · rw [h]
    have := bytes_lfs (bs := x.b)
    simp [AV.lf.lfs, AV.lf, this]
  · have := hB
    cases ℓ <;> simp [Hp.get] at this
def bsE : Enc BtV := ⟨fun x => [x.a], 1, true, fun _ => rfl, by omega, .inl rfl, BtV.lf, fun h => by cases h⟩
theorem is_bss {cs : List AV} (h : (Ty.slice (.slice (.int .u8))).Is cs) : ∃ a, ∃ xs : List BtV, cs = [a] ∧ (∀ h, TView bsE h a xs) ∧ xs.length ≤ maxLen := by
  rcases h with rfl | ⟨es, rfl, h, hl⟩
  · exact ⟨_, [], rfl, fun h => view_nil' (by decide), by simp⟩
  · obtain ⟨xs, hb⟩ : ∃ xs : List BtV, es = xs.map bsE.E := by
      clear hl
      induction es with
      | nil => exact ⟨[], rfl⟩
      | cons e es ih =>
        obtain ⟨xs, hb⟩ := ih fun x hx => h x (by simp [hx])
        obtain ⟨a, bs, he, va, hl⟩ := is_bytes (h e (by simp))
        exact ⟨⟨bs, a, va, hl⟩ :: xs, by rw [hb, he]; rfl⟩
    subst hb
    have e : (xs.map bsE.E).flatten = bsE.row xs := by rw [Enc.row, List.flatMap_def]
    refine ⟨_, xs, rfl, fun h => ?_, by simpa using hl⟩
    rw [e, List.length_map]
    exact view_ro (by decide) (bsE.row_len xs)
def rowBk (l : List Txt) : Option Blk := if l = [] then none else recB l
theorem sumN_app : ∀ (l m : List Txt), sumN (l ++ m) = sumN l + sumN m
  | [], m => by simp [sumN]
  | b :: l, m => by show needN b.length + sumN (l ++ m) = needN b.length + sumN l + sumN m; rw [sumN_app l m]; omega
theorem arg_blk {k : Nat} {b : Txt} {X : Blk} {cap : Option Nat} (hf : Off P q p k) (hk : G[k]? = some (some X)) (hX : X.cells = b.map byteAV) (hv : X.virt = false) (hc : ∀ c, cap = some c → b.length ≤ c) : Arg G P q p (.own (.o k) b.length 0 b.length 1 cap) b := by
  have hlt := lt_of_get hk
  have hg : ∀ D B cs Y, (dj G P q p D B cs ++ Y)[k]? = some (some X) := fun D B cs Y => by
    rw [List.getElem?_append_left (by rw [dj_len]; exact hlt), dj_off hf]; exact hk
  refine ⟨fun D B cs Y L' => ?_, fun hb D B cs Y L' => ?_, fun g => rfl⟩
  · refine ⟨rfl, ?_, by simp, rfl, ?_, by omega⟩
    · simp only [Hp.sees, Hp.get, hg, Option.join_some, hX, List.length_map, if_true, List.drop_zero, Nat.mul_one]
      rw [List.take_of_length_le (by simp)]
    · unfold capOK; cases cap with
      | none => trivial
      | some c => have := hc c rfl; simp only; omega
  · simp only [Hp.isNil, Hp.get, hg, Option.join_some, hX, hv, List.length_map]
    simp
end Go.AM
namespace Go.AM
variable {prog : String → Option IFn}
variable {G L : List (Option Blk)} {P : DPos} {D : DskD} {n q p : Nat} {B : Option Blk} {cs : List AV} {J : JD}
def DB (B : Option Blk) : Prop := ∀ b, B = some b → b.labs = []
theorem DB.z : DB none := fun b h => by cases h
theorem DB.d {c : List AV} {o v : Bool} : DB (some (dBlk c o v)) := fun b h => by cases h; rfl
theorem DB.w {c : List AV} {o v w : Bool} : DB (some { dBlk c o v with wr := w }) := fun b h => by cases h; rfl
theorem DB.r {l : List Txt} : DB (rowBk l) := fun b h => by
  unfold rowBk at h
  split at h
  · cases h
  · cases h; rfl
end Go.AM
