import Derived.Test.YtdcnjckkcfoppaaVaultC
import Derived.Test.YtdcnjckkcfoppaaJourG
set_option linter.unusedVariables false
set_option linter.unusedSimpArgs false
namespace Go.AM
variable {prog : String → Option IFn}
variable {G L : List (Option Blk)} {P : DPos} {D : DskD} {n q p pv i j : Nat} {B : Option Blk} {cs : List AV} {J J0 J1 : JD} {V : VD}
theorem VBase_spec (H : VaultLib prog) (hb : prog "(*haberdash/vault.Vault).Base" = some f___vault_Vault__Base) (h : VOk G.length P q p pv n) {x : UInt8} {b : Txt} (h0 : J.recs[0]? = some (x :: b)) (hne : ∀ b ∈ J.recs, b ≠ []) (hbl : ∀ b ∈ J.recs, b.length ≤ room) (hrl : J.recs.length * 24 ≤ room) :
    ∃ r Bs, Ev prog (.call "(*haberdash/vault.Vault).Base" [.ptr (.o pv) 5 0] (vj G P q p pv D J V)) (.ret r (vj G P q p pv D J V ++ Bs)) ∧ RetSlice (vj G P q p pv D J V) r Bs 1 b.length (b.map byteAV) := by
  have l1 : ∀ L, prim ⟨vj G P q p pv D J V, L⟩ (.load 1 false) [.ptr (.o pv) 5 1] = some (.ptr (.o p) 9 0, ⟨vj G P q p pv D J V, L⟩) := fun L => vj_ld h rfl
  have nn : ∀ b, (none : Option Blk) = some b → b.labs = [] := fun b e => by cases e
  have rb : ∀ b, recB J.recs = some b → b.labs = [] := fun b e => by cases e; rfl
  have hx := hbl _ (List.mem_of_getElem? h0)
  have h1 : 0 < J.recs.length := lt_of_get h0
  have h1i : (((J.recs.length : Nat) : Int) == 0) = false := by
    rw [beq_eq_false_iff_ne]; omega
  have g1 : Good ⟨vj G P q p pv D J V, [none, none]⟩ := trivial
  have g2 : Good ⟨vj G P q p pv D J V, [recB J.recs, none]⟩ := goodD rb trivial
  have i1 : (⟨vj G P q p pv D J V, [none, none]⟩ : Hp).into = dj (G.set pv (vob P.p p V) ++ [none, none]) P q p D (recB J.recs) (jC .o P.p q J) := by
    rw [into_dat (by intro B hB b e; subst e; simp at hB), dj_app h.s]; rfl
  have hR : Ev prog (.op (.call "(*haberdash/journal.Journal).Records" [0]) [.ptr (.o p) 9 0] ⟨vj G P q p pv D J V, [none, none]⟩) (.val (.own (.l 0) J.recs.length 0 J.recs.length 1 none) ⟨vj G P q p pv D J V, [recB J.recs, none]⟩) := by
    refine op_news (h := ⟨vj G P q p pv D J V, [none, none]⟩) (sites := [0]) (Bs := [recB J.recs]) (r := .own (.o (⟨vj G P q p pv D J V, [none, none]⟩ : Hp).into.length) J.recs.length 0 J.recs.length 1 none) ?_ (by intro B hB b e; simp only [List.mem_singleton] at hB; subst hB; exact rb b e) rfl (by decide) rfl g1 ren_own1
    have := Records_spec (G := G.set pv (vob P.p p V) ++ [none, none]) H.toJourLib (D := D) ((h.s (X := vob P.p p V)).app (X := [none, none])) hne hbl hrl
    rw [i1, dj_len]
    exact this
  have ln : ∀ h, prim h .lenSlice [.own (.l 0) J.recs.length 0 J.recs.length 1 none] = some (.v (.int .i64 (J.recs.length : Nat)), h) := fun h => rfl
  obtain ⟨GG, hGG⟩ : ∃ GG, GG = vj G P q p pv D J V := ⟨_, rfl⟩
  have vr : View ⟨vj G P q p pv D J V, [recB J.recs, none]⟩ (.own (.l 0) J.recs.length 0 J.recs.length 1 none) 1 J.recs.length (recE.row J.recs) := by
    refine ⟨rfl, ?_, by rw [rec_len]; omega, rfl, trivial, by omega⟩
    simp only [Hp.sees, Hp.get, List.getElem?_cons_zero, recB, Option.join_some, dBlk_cells, rec_len, if_true, List.drop_zero, Nat.mul_one]
    rw [List.take_of_length_le (by rw [rec_len]; exact Nat.le_refl _)]
  have ix : prim ⟨vj G P q p pv D J V, [recB J.recs, none]⟩ (.indexAddr 1) [.own (.l 0) J.recs.length 0 J.recs.length 1 none, .v (.int .i64 0)] = some (.ptr (.l 0) J.recs.length 0, ⟨vj G P q p pv D J V, [recB J.recs, none]⟩) := by
    have := vr.index (k := .i64) h1
    simpa only [elemPtr, Nat.zero_add, Nat.mul_one, Int.cast_ofNat_Int] using this
  have ld : prim ⟨vj G P q p pv D J V, [recB J.recs, none]⟩ (.load 1 false) [.ptr (.l 0) J.recs.length 0] = some (roAV (x :: b), ⟨vj G P q p pv D J V, [recB J.recs, none]⟩) := by
    have := vr.load1 (rec_get h0)
    simpa only [elemPtr, Nat.zero_add, Nat.mul_one] using this
  have vx : ∀ h, View h (roAV (x :: b)) 1 (b.length + 1) ((x :: b).map byteAV) := fun h => ro_view
  have sl : ∀ h, prim h (.slice 1 true false false) [roAV (x :: b), .v (.int .i64 1)] = some (.ro false 1 b.length (b.map byteAV), h) := fun h => by
    have := (vx h).sliceLo (k := .i64) (i := 1) (by omega)
    rw [show ((1 : Nat) : Int) = 1 from rfl] at this
    rw [this]
    simp [roAV, AM.sub, List.take_of_length_le]
  have vb : ∀ h, View h (.ro false 1 b.length (b.map byteAV)) 1 b.length (b.map byteAV) := fun h => view_ro (by decide) (by simp)
  obtain ⟨r, G2, he, Bs, rfl, hr⟩ := call_ex (prog := prog) (P := fun r G2 => ∃ Bs, G2 = vj G P q p pv D J V ++ Bs ∧ RetSlice (vj G P q p pv D J V) r Bs 1 b.length (b.map byteAV)) hb (args := [.ptr (.o pv) 5 0]) (G := vj G P q p pv D J V) (by
    simp only [f___vault_Vault__Base_B, enter, List.length_cons, List.length_nil, List.replicate, Nat.reduceAdd, Nat.reduceSub, List.cons_append, List.nil_append]
    simp (disch := first | (simp only [DS, reduceCtorEq]; done) | omega) only [WS, St.guard, St.put, evalO, reduceCtorEq, reduceIte, Nat.reduceAdd, Nat.reduceEqDiff, isNilV, Hp.isNil, l1]
    refine WP_of hR ?_
    simp (disch := first | (simp only [DS, reduceCtorEq]; done) | omega) only [WS, St.guard, St.put, evalO, reduceCtorEq, reduceIte, Nat.reduceAdd, Nat.reduceEqDiff, ln, h1i, ix, ld, sl]
    refine WP_slice (fun a => a) (fun ρ a => rfl) (esz := 1) (len := b.length) (cells := b.map byteAV) ?_ (by exact g2) (by exact rfl) fun a B hat => ?_
    · exact Clone_spec H.clone (fun L => vb _) (fun L => rfl) (nb := false) (fun e => by cases e) (by simp at hx; omega)
    · simp (disch := first | (simp only [DS, reduceCtorEq]; done) | omega) only [WS, St.guard, St.put, evalO, reduceCtorEq, reduceIte, Nat.reduceAdd, Nat.reduceEqDiff, fin_tmp]
      refine ⟨by simp, ?_⟩
      obtain ⟨r, Bs, e1, e2⟩ := leave_at (h := ⟨vj G P q p pv D J V, [recB J.recs, B]⟩) (site := 1) hat rfl (fun a => a) (fun ρ a => rfl) (fun a => rfl) (fun a e => e)
      exact ⟨r, _, e1, Bs, rfl, e2⟩)
  exact ⟨r, Bs, he, hr⟩
end Go.AM
namespace Go.AM
variable {D : DskD} {n : Nat} {J : JD} {V : VD}
def OldAt (A : List Sec) (t m : Nat) : Prop := A[t]? = some zsec ∨ ∃ e num c k, e ≠ 0#32 ∧ e.toNat ≤ m ∧ c ≠ [] ∧ k < needN c.length ∧ A[t]? = some (secK e num (needN c.length) c k)
theorem OldAt.mono {A : List Sec} {t m m' : Nat} (h : OldAt A t m) (hm : m ≤ m') : OldAt A t m' := by
  rcases h with h | ⟨e, num, c, k, h1, h2, h3⟩
  · exact .inl h
  · exact .inr ⟨e, num, c, k, h1, by omega, h3⟩
theorem secAt_get {A : List Sec} {t : Nat} {s : Sec} (h : A[t]? = some s) : secAt A (t : Nat) = s := by
  unfold secAt
  rw [Int.toNat_natCast, List.getD_eq_getElem?_getD, h]; rfl
theorem old_leaf {A : List Sec} {t m : Nat} {y : LeafD} (h : OldAt A t m) (hy : LeafAt A t y) : y.e.toNat ≤ m := by
  rcases h with h | ⟨e, num, c, k, h1, h2, h3, h4, h5⟩
  · obtain ⟨s, a1, a2, a3⟩ := hy
    rw [h] at a1
    cases a1
    have : takeOK zs64 = true := by rw [show zs64 = zsec.1 from rfl, a3]; exact takeOK_bytes a2
    rw [zs64_badJ] at this; cases this
  · have := leafAt_fun hy ⟨_, h5, leafK_right (num := num) h1 h3 h4, secK_bytes⟩
    rw [this]; exact h2
theorem old_mark {A : List Sec} {t m : Nat} (h : OldAt A t m) : (markS (secAt A (t : Nat))).toNat ≤ m := by
  rcases h with h | ⟨e, num, c, k, h1, h2, h3, h4, h5⟩
  · rw [secAt_get h, mark_zero]; exact Nat.zero_le _
  · rw [secAt_get h5]
    unfold markS
    rw [secK_bytes, mark_bytes (by show (pc c k).length ≤ 46; unfold pc; rw [List.length_take]; omega)]
    exact h2
theorem maxU_le {a b : BitVec 32} {m : Nat} (ha : a.toNat ≤ m) (hb : b.toNat ≤ m) : (maxU a b).toNat ≤ m := by
  unfold maxU; split
  · exact hb
  · exact ha
theorem gr_le {A : List Sec} {m : Nat} : ∀ i, (∀ t, t < i → OldAt A t m) → (grF A i).toNat ≤ m
  | 0, _ => Nat.zero_le _
  | i + 1, h => maxU_le (gr_le i fun t ht => h t (by omega)) (old_mark (h i (by omega)))
theorem tkF_fi {m : Nat} (hf : J.frm + J.n ≤ D.b.length) (hu : ∀ t, J.frm ≤ t → t < J.frm + J.n → OldAt D.b t m) (hJ : J.fi.toNat ≤ m) : ∀ f k b e, (tkF D J f k b e).2.fi.toNat ≤ m ∧ (tkF D J f k b e).2.frm = J.frm ∧ (tkF D J f k b e).2.n = J.n
  | 0, k, b, e => ⟨hJ, rfl, rfl⟩
  | f + 1, k, b, e => by
    unfold tkF
    split
    · rename_i hN
      obtain ⟨a1, a2, a3, a4⟩ := lvNext_ok hN
      split
      · refine ⟨?_, rfl, rfl⟩
        show (if J.recs = [] then (lvX D J (J.used + k)).e else J.fi).toNat ≤ m
        split
        · have hi := (lvOK_right a1).1
          exact old_leaf (hu _ (by omega) (by omega)) (lv_at hf a1)
        · exact hJ
      · exact tkF_fi hf hu hJ f _ _ _
    · exact ⟨hJ, rfl, rfl⟩
theorem tksF_fi {m frm nn : Nat} (hf : frm + nn ≤ D.b.length) (hu : ∀ t, frm ≤ t → t < frm + nn → OldAt D.b t m) : ∀ f (J : JD), J.frm = frm → J.n = nn → J.fi.toNat ≤ m → (tksF D f J).fi.toNat ≤ m
  | 0, J, _, _, h => h
  | f + 1, J, h1, h2, h => by
    obtain ⟨b1, b2, b3⟩ := tkF_fi (D := D) (J := J) (m := m) (by rw [h1, h2]; exact hf) (by rw [h1, h2]; exact hu) h (J.n - J.used + 1) 0 [] J.ep
    unfold tksF JD.take
    split
    · exact tksF_fi hf hu f _ (b2.trans h1) (b3.trans h2) b1
    · exact b1
theorem open_fi {m frm nn : Nat} {ep : BitVec 32} (hf : frm + nn ≤ D.b.length) (hu : ∀ t, frm ≤ t → t < frm + nn → OldAt D.b t m) : (openJ D frm nn ep).fi.toNat ≤ m :=
  tksF_fi hf hu _ _ rfl rfl (Nat.zero_le _)
theorem open_base {m frm nn : Nat} {ep e : BitVec 32} {b : Txt} (he : e ≠ 0#32) (hb : b ≠ []) (hR : RecAt' D.b e 0 frm b) (hn : needN b.length ≤ nn) (hm : m < e.toNat) (ho : needN b.length < nn → OldAt D.b (frm + needN b.length) m) :
    (openJ D frm nn ep).recs = [b] ∧ (openJ D frm nn ep).used = needN b.length ∧ (openJ D frm nn ep).fi = e := by
  have hp := needN_pos' hb
  have hR' : RecsAt' D.b e frm 0 0 [b] := ⟨hR, trivial⟩
  obtain ⟨f1, f2, f3, f4, f5, f6, f7, f8⟩ := noteAll_facts (ep := e) [b] (newJ frm nn ep)
  have hs : sumN [b] = needN b.length := Nat.add_zero _
  have hu : (noteAll e (newJ frm nn ep) [b]).used = needN b.length := by rw [f2, hs]; show 0 + _ = _; omega
  have hE := tksF_recs (D := D) (ep := e) he [b] (newJ frm nn ep) (nn + 1) (fun c hc => by simp at hc; subst hc; exact hb) (recsAt_of hR') (by show ¬ e.toNat < 0; omega) (by show 0 + sumN [b] ≤ nn; omega) (by show 0 + 1 < 2 ^ 32; omega) (by show 1 + 1 ≤ nn + 1; omega) (by
    by_cases h : needN b.length < nn
    · rcases ho h with h2 | ⟨e', num, c, k, h1, h2, h3, h4, h5⟩
      · exact lvNext_zero (.inl (by rw [f4, hu]; exact h2))
      · refine lvNext_old h1 h3 h4 (by rw [f4, hu]; exact h5) ?_
        rw [f6 (by simp)]; omega
    · exact lvNext_zero (.inr (by rw [f3, hu]; show nn ≤ _; omega)))
  have hE' : openJ D frm nn ep = { noteAll e (newJ frm nn ep) [b] with ep := ep } := by unfold openJ; rw [hE]
  rw [hE']
  refine ⟨?_, hu, ?_⟩
  · show (noteAll e (newJ frm nn ep) [b]).recs = _; rw [f1]; rfl
  · show (noteAll e (newJ frm nn ep) [b]).fi = _; rw [f8]; rfl
structure TInv (i : Nat) (b : Txt) (D : DskD) (J : JD) (V : VD) : Prop where
  live : Live D
  z : Siz D 40
  dead : J.dead = false
  v : V = ⟨i % 2, BitVec.ofNat 32 (i + 1), false⟩
  jn : J.n = 20
  frm : J.frm = i % 2 * 20
  ep : J.ep = BitVec.ofNat 32 (i + 1)
  used : J.used = needN (1 + b.length)
  recs : J.recs = [1 :: b]
  bl : b.length ≤ 200
  at' : RecAt' D.b (BitVec.ofNat 32 (i + 1)) 0 (i % 2 * 20) (1 :: b)
  old : ∀ t, t < 40 → i % 2 * 20 ≤ t ∧ t < i % 2 * 20 + needN (1 + b.length) ∨ OldAt D.b t i
theorem need_base {b : Txt} (hb : b.length ≤ 200) : needN (1 + b.length) ≤ 5 ∧ 1 ≤ needN (1 + b.length) := by unfold needN; omega
theorem ep_nat {i : Nat} (hi : i ≤ 20) : (BitVec.ofNat 32 (i + 1)).toNat = i + 1 := by rw [BitVec.toNat_ofNat]; omega
theorem ep_ne {i : Nat} (hi : i ≤ 20) : BitVec.ofNat 32 (i + 1) ≠ 0#32 := fun e => by
  have := congrArg BitVec.toNat e
  rw [ep_nat hi] at this; cases this
theorem tinv_base {i : Nat} {b : Txt} (hi : i ≤ 20) (hl : Live D) (z : Siz D 40) (hb : b.length ≤ 200) (ho : ∀ t, t < 40 → OldAt D.b t i) :
    (bgJ D (i % 2 * 20) 20 (BitVec.ofNat 32 (i + 1)) b).1 = 0 ∧ TInv i b (bgJ D (i % 2 * 20) 20 (BitVec.ofNat 32 (i + 1)) b).2.1 (bgJ D (i % 2 * 20) 20 (BitVec.ofNat 32 (i + 1)) b).2.2 ⟨i % 2, BitVec.ofNat 32 (i + 1), false⟩ := by
  have hn := need_base hb
  have e1 : (1 :: b : Txt).length = 1 + b.length := by simp; omega
  obtain ⟨a1, a2, a3, a4⟩ := add_ok (n := 40) (q := (D, newJ (i % 2 * 20) 20 (BitVec.ofNat 32 (i + 1)))) (b := 1 :: b) ⟨hl, z, rfl, by show i % 2 * 20 + 20 ≤ 40; omega⟩ (by omega) (by simp) (by rw [e1]; omega) (by rw [e1]; show 0 + _ ≤ 20; omega)
  rw [e1] at a2 a4
  have a4 : ∀ t, (bgJ D (i % 2 * 20) 20 (BitVec.ofNat 32 (i + 1)) b).2.1.b[t]? = if i % 2 * 20 + 0 ≤ t ∧ t < i % 2 * 20 + 0 + needN (1 + b.length) then some (secK (BitVec.ofNat 32 (i + 1)) 0 (needN (1 + b.length)) (1 :: b) (t - (i % 2 * 20 + 0))) else D.b[t]? := a4
  have a2 : (bgJ D (i % 2 * 20) 20 (BitVec.ofNat 32 (i + 1)) b).2.2 = (newJ (i % 2 * 20) 20 (BitVec.ofNat 32 (i + 1))).note (1 :: b) (needN (1 + b.length)) := a2
  have a3 : AddedOk 40 (bgJ D (i % 2 * 20) 20 (BitVec.ofNat 32 (i + 1)) b).2 := a3
  refine ⟨a1, a3.live, a3.z, a3.dead, rfl, ?_, ?_, ?_, ?_, ?_, hb, fun k hk => ?_, fun t ht => ?_⟩
  · rw [a2]; rfl
  · rw [a2]; rfl
  · rw [a2]; rfl
  · rw [a2]; show 0 + _ = _; omega
  · rw [a2]; rfl
  · rw [e1] at hk ⊢
    rw [a4, if_pos (by omega)]
    congr 2; omega
  · by_cases h : i % 2 * 20 + 0 ≤ t ∧ t < i % 2 * 20 + 0 + needN (1 + b.length)
    · exact .inl (by omega)
    · refine .inr ?_
      have := ho t ht
      unfold OldAt at this ⊢
      rw [a4, if_neg h]; exact this
theorem tinv_new : (bgJ (newD 40) 0 20 1#32 []).1 = 0 ∧ TInv 0 [] (openV (newD 40)).1 (openV (newD 40)).2.1 (openV (newD 40)).2.2 := by
  have := tinv_base (D := newD 40) (i := 0) (b := []) (by omega) newD_live .new (by simp) (fun t ht => .inl (newD_b ht))
  rw [openV_new (by omega)]
  exact this
theorem tinv_all {i : Nat} {b : Txt} (hi : i ≤ 20) (h : TInv i b D J V) : ∀ t, t < 40 → OldAt D.b t (i + 1) := fun t ht => by
  have e1 : (1 :: b : Txt).length = 1 + b.length := by simp; omega
  rcases h.old t ht with ⟨h1, h2⟩ | h
  · have := h.at' (t - i % 2 * 20) (by rw [e1]; omega)
    rw [show i % 2 * 20 + (t - i % 2 * 20) = t by omega] at this
    exact .inr ⟨_, _, _, _, ep_ne hi, by rw [ep_nat hi]; exact Nat.le_refl _, by simp, by rw [e1]; omega, this⟩
  · exact h.mono (by omega)
theorem tinv_add {i : Nat} {b c : Txt} (hi : i ≤ 20) (h : TInv i b D J V) (hc : c.length = 1) : ∃ D' J', V.add D J c = (0, D', J', V) ∧ Live D' ∧ Siz D' 40 ∧ J'.recs.length = 2 ∧ (∀ t, t < 40 → OldAt D'.b t (i + 1)) := by
  have hn := need_base h.bl
  have hn1 : needN c.length = 1 := by rw [hc]; rfl
  have hj := h.jn; have hf := h.frm; have hu := h.used
  obtain ⟨a1, a2, a3, a4⟩ := add_ok (n := 40) (q := (D, J)) (b := c) ⟨h.live, h.z, h.dead, by show J.frm + J.n ≤ 40; omega⟩ (by omega) (by intro e; rw [e] at hc; cases hc) (by omega) (by rw [hn1]; show J.used + 1 ≤ J.n; omega)
  rw [hn1] at a2 a4
  refine ⟨(J.add D c).2.1, (J.add D c).2.2, ?_, a3.live, a3.z, ?_, fun t ht => ?_⟩
  · unfold VD.add
    rw [h.v, if_neg (by simp)]
    have a1' : (J.add D c).1 = 0 := a1
    rw [a1']; rfl
  · have a2' : (J.add D c).2.2 = J.note c 1 := a2
    rw [a2']; show (J.recs ++ [c]).length = 2; rw [h.recs]; rfl
  · have a4' : (J.add D c).2.1.b[t]? = if J.frm + J.used ≤ t ∧ t < J.frm + J.used + 1 then some (secK J.ep J.recs.length 1 c (t - (J.frm + J.used))) else D.b[t]? := a4 t
    unfold OldAt
    rw [a4']
    split
    · rename_i hh
      refine .inr ⟨_, J.recs.length, c, t - (J.frm + J.used), ep_ne hi, ?_, (fun e => by rw [e] at hc; cases hc), by rw [hn1]; omega, by rw [hn1, h.ep]⟩
      rw [ep_nat hi]; exact Nat.le_refl _
    · exact tinv_all hi h t ht
theorem tinv_ep {i : Nat} {b : Txt} (h : TInv i b D J V) : (1 - V.half) = (i + 1) % 2 ∧ V.ep + 1#32 = BitVec.ofNat 32 (i + 1 + 1) := by
  rw [h.v]
  refine ⟨?_, ?_⟩
  · show 1 - i % 2 = _; omega
  · show BitVec.ofNat 32 (i + 1) + 1#32 = _; rw [← BitVec.ofNat_add]
theorem tinv_open {i : Nat} {b : Txt} (hi : i ≤ 20) (h : TInv i b D J V) : openEr D = 0 ∧ (bgJ D 0 20 (vEp D) []).1 = 0 ∧ (openV D).1 = D ∧ (openV D).2.2.half = i % 2 ∧ (openV D).2.1.used = needN (1 + b.length) ∧ (openV D).2.1.recs = [1 :: b] := by
  have hl : D.b.length = 40 := h.z.b
  have hn := need_base h.bl
  have e1 : (1 :: b : Txt).length = 1 + b.length := by simp; omega
  have hall := tinv_all hi h
  have hg : (grF D.b D.b.length).toNat ≤ i + 1 := gr_le _ (by rw [hl]; exact hall)
  have hne : grF D.b D.b.length ≠ BitVec.allOnes 32 := fun e => by
    rw [e, BitVec.toNat_allOnes] at hg; omega
  obtain ⟨D', e, _, _⟩ := bg_live (D := D) (n := 40) (frm := 0) (nn := 20) (ep := vEp D) (b := []) h.live h.z (by omega) (by simp) (by show needN 1 ≤ 20; unfold needN; omega) (by omega)
  have hh : D.b.length / 2 = 20 := by rw [hl]
  have ho : ∀ frm, frm + 20 ≤ 40 → (frm + 20 ≤ i % 2 * 20 ∨ i % 2 * 20 + 20 ≤ frm) → ∀ ep, (openJ D frm 20 ep).fi.toNat ≤ i := fun frm h1 h2 ep => by
    refine open_fi (by omega) fun t ht ht2 => ?_
    rcases h.old t (by omega) with ⟨h3, h4⟩ | h3
    · omega
    · exact h3
  have hb : ∀ ep, (openJ D (i % 2 * 20) 20 ep).recs = [1 :: b] ∧ (openJ D (i % 2 * 20) 20 ep).used = needN (1 + b.length) ∧ (openJ D (i % 2 * 20) 20 ep).fi = BitVec.ofNat 32 (i + 1) := fun ep => by
    have := open_base (D := D) (m := i) (frm := i % 2 * 20) (nn := 20) (ep := ep) (e := BitVec.ofNat 32 (i + 1)) (b := 1 :: b) (ep_ne hi) (by simp) h.at' (by rw [e1]; omega) (by rw [ep_nat hi]; omega) (by
      rw [e1]; intro _
      rcases h.old (i % 2 * 20 + needN (1 + b.length)) (by omega) with ⟨h3, h4⟩ | h3
      · omega
      · exact h3)
    rw [e1] at this; exact this
  refine ⟨?_, by rw [e], ?_⟩
  · unfold openEr
    rw [if_neg (by omega), h.live.1, if_neg (by simp), if_neg hne]
  · have hm : i % 2 = 0 ∨ i % 2 = 1 := by omega
    rcases hm with hm | hm
    · have c0 := hb (vEp D)
      have c1 := ho 20 (by omega) (by omega) (vEp D)
      rw [hm] at c0
      have hv0 : vJ0 D = openJ D 0 20 (vEp D) := by unfold vJ0; rw [hh]
      have hv1 : vJ1 D = openJ D 20 20 (vEp D) := by unfold vJ1; rw [hh]
      have c0 : (vJ0 D).recs = [1 :: b] ∧ (vJ0 D).used = needN (1 + b.length) ∧ (vJ0 D).fi = BitVec.ofNat 32 (i + 1) := by rw [hv0]; exact c0
      rw [← hv1] at c1
      have hH : vHalf D = 0 := by unfold vHalf; rw [if_neg (by rw [c0.2.2, ep_nat hi]; omega)]
      have hO : openV D = (D, vJ0 D, ⟨0, vEp D, false⟩) := by
        unfold openV
        rw [if_neg (by rw [c0.2.2]; exact fun h => ep_ne hi h.1), hH, if_neg (by omega)]
      rw [hO, hm]
      exact ⟨rfl, rfl, c0.2.1, c0.1⟩
    · have c1 := hb (vEp D)
      have c0 := ho 0 (by omega) (by omega) (vEp D)
      rw [hm] at c1
      have hv0 : vJ0 D = openJ D 0 20 (vEp D) := by unfold vJ0; rw [hh]
      have hv1 : vJ1 D = openJ D 20 20 (vEp D) := by unfold vJ1; rw [hh]
      have c1 : (vJ1 D).recs = [1 :: b] ∧ (vJ1 D).used = needN (1 + b.length) ∧ (vJ1 D).fi = BitVec.ofNat 32 (i + 1) := by rw [hv1]; exact c1
      rw [← hv0] at c0
      have hH : vHalf D = 1 := by unfold vHalf; rw [if_pos (by rw [c1.2.2, ep_nat hi]; omega)]
      have hO : openV D = (D, vJ1 D, ⟨1, vEp D, false⟩) := by
        unfold openV
        rw [if_neg (by rw [hH]; simp), hH, if_pos rfl]
      rw [hO, hm]
      exact ⟨rfl, rfl, c1.2.1, c1.1⟩
end Go.AM
