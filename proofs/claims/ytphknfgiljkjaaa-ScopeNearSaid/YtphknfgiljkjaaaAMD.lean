import Derived.Test.YtphknfgiljkjaaaAMC
import Derived.Laws.BitsLemmas
import Derived.Laws.BitsAllLaws
import Derived.OpenShut
import Derived.RowKit
import Derived.Carry
set_option linter.unusedVariables false
set_option linter.unusedSimpArgs false
namespace Go.AM
open Go.RowKit
variable {prog : String → Option IFn}
theorem ev_call_inv {p : Prim} {xs : List AV} {h h' : Hp} {a : AV} (he : Ev prog (.op p xs h) (.val a h')) : prim h p xs = some (a, h') ∨
    (∃ f sites, p = .call f sites) ∨ (∃ sites, p = .callV sites) ∨ (∃ f sites, p = .callIn f sites) := by
  cases he with
  | prim hp => exact .inl hp
  | opCall => exact .inr (.inl ⟨_, _, rfl⟩)
  | opCallV => exact .inr (.inr (.inl ⟨_, rfl⟩))
  | opIn => exact .inr (.inr (.inr ⟨_, _, rfl⟩))
theorem prim_call {h : Hp} {f sites xs} : prim h (.call f sites) xs = none := rfl
theorem prim_callIn {h : Hp} {f sites xs} : prim h (.callIn f sites) xs = none := rfl
theorem prim_callV {h : Hp} {sites xs} : prim h (.callV sites) xs = none := rfl
theorem ev_op_call {f : String} {sites : List Nat} {xs : List AV} {h h' : Hp} {a : AV} (he : Ev prog (.op (.call f sites) xs h) (.val a h')) :
    okBlks 0 h.L = true ∧ ∃ r G2, Ev prog (.call f (xs.map (AV.ren (up h.G.length))) h.into) (.ret r G2) ∧ h.back sites G2 r = some (a, h') := by
  cases he with
  | prim hp => rw [prim_call] at hp; cases hp
  | opCall hi hc hb => exact ⟨hi, _, _, hc, hb⟩
theorem det_draw {i : IOp} {s : St} {a a2 : AV} {h' h2 : Hp}
    (hd : okAt s.h.G.length (i.u ++ i.turns) s.h.L = true) (hu : ∀ k ∈ i.u, h'.L[k]? = s.h.L[k]?) (hu2 : ∀ k ∈ i.u, h2.L[k]? = s.h.L[k]?)
    (ih : ∀ X, okX s.h.G.length X → ∀ r', Ev prog (.op i.p (i.xs.map (evalO s.env)) (s.h.over i.u X)) r' → Res.val a (h'.over i.u X) = r')
    (ho2 : ∀ X, okX s.h.G.length X → Ev prog (.op i.p (i.xs.map (evalO s.env)) (s.h.over i.u X)) (.val a2 (h2.over i.u X))) : a = a2 ∧ h' = h2 := by
  have hX : okX s.h.G.length fun k => if k ∈ i.u then (s.h.L[k]?).join else none := fun k B hB => by
    replace hB : (if k ∈ i.u then _ else none) = some B := hB
    split at hB
    · rename_i hk
      have := List.all_eq_true.1 hd k (by simp [hk])
      rw [hB] at this
      exact this
    · cases hB
  have e := ih _ hX _ (ho2 _ hX)
  simp only [Res.val.injEq] at e
  obtain ⟨e1, e2⟩ := e
  refine ⟨e1, ?_⟩
  have k1 : h'.over i.u (fun k => if k ∈ i.u then (s.h.L[k]?).join else none) = h' := by
    refine Hp.over_ext rfl fun k => ?_
    simp only [Hp.over, over_get]
    split
    · rename_i hk; rw [if_pos hk.1, ← hu k hk.1, List.getElem?_eq_getElem hk.2]; rfl
    · rfl
  have k2 : h2.over i.u (fun k => if k ∈ i.u then (s.h.L[k]?).join else none) = h2 := by
    refine Hp.over_ext rfl fun k => ?_
    simp only [Hp.over, over_get]
    split
    · rename_i hk; rw [if_pos hk.1, ← hu2 k hk.1, List.getElem?_eq_getElem hk.2]; rfl
    · rfl
  rw [k1, k2] at e2
  exact e2
theorem ev_det {t : Task} {r : Res} (h : Ev prog t r) : ∀ {r'}, Ev prog t r' → r = r' := by
  induction h with
  | call hf hb ho hr ih =>
    intro r' h'
    cases h' with
    | call hf' hb' ho' hr' =>
      rw [hf] at hf'; cases hf'
      have := ih hb'
      simp only [Res.out.injEq] at this
      obtain ⟨rfl, rfl⟩ := this
      rw [hr] at hr'; cases hr'; rfl
    | orc hf' hx =>
      rw [hf] at hf'; cases hf'
      have hb : Ev prog (.code (.exit 0) _) _ := hb
      cases hb
      rcases ho with h | h <;> cases h
  | orc hf hx =>
    intro r' h'
    cases h' with
    | call hf' hb' ho' hr' =>
      rw [hf] at hf'; cases hf'
      have hb : Ev prog (.code (.exit 0) _) _ := hb'
      cases hb
      rcases ho' with h | h <;> cases h
    | orc hf' hx' => rw [hx] at hx'; cases hx'; rfl
  | skip => intro r' h'; cases h'; rfl
  | ops h ih => intro r' h'; cases h' with | ops h2 => have := ih h2; simp only [Res.env.injEq] at this; rw [this]
  | draw h ih => intro r' h'; cases h' with | draw h2 => have := ih h2; simp only [Res.env.injEq] at this; rw [this]
  | seq h h' ih ih' =>
    intro r' h2
    cases h2 with
    | seq k k' => have := ih k; simp only [Res.out.injEq, true_and] at this; subst this; exact ih' k'
    | seqOut k ho => have := ih k; simp only [Res.out.injEq] at this; exact absurd this.1.symm ho
  | seqOut h ho ih =>
    intro r' h2
    cases h2 with
    | seq k k' => have := ih k; simp only [Res.out.injEq] at this; exact absurd this.1 ho
    | seqOut k ho => exact ih k
  | cond hc h ih =>
    intro r' h2
    cases h2 with
    | cond hc' k => rw [hc] at hc'; cases hc'; exact ih k
  | block h ih =>
    intro r' h2
    cases h2 with
    | block k => have := ih k; simp only [Res.out.injEq] at this; obtain ⟨rfl, rfl⟩ := this; rfl
  | loop hc h h' ih ih' =>
    intro r' h2
    cases h2 with
    | loop hc2 k k' => rw [hc] at hc2; cases hc2; have := ih k; simp only [Res.out.injEq, true_and] at this; subst this; exact ih' k'
    | loopOut hc2 k ho => rw [hc] at hc2; cases hc2; have := ih k; simp only [Res.out.injEq] at this; exact absurd this.1.symm ho
  | loopOut hc h ho ih =>
    intro r' h2
    cases h2 with
    | loop hc2 k k' => rw [hc] at hc2; cases hc2; have := ih k; simp only [Res.out.injEq] at this; exact absurd this.1 ho
    | loopOut hc2 k ho => rw [hc] at hc2; cases hc2; exact ih k
  | post h hm ih =>
    intro r' h2
    cases h2 with
    | post k hm2 => have := ih k; simp only [Res.out.injEq, true_and] at this; subst this; rw [hm] at hm2; cases hm2; rfl
    | postOut k ho => have := ih k; simp only [Res.out.injEq] at this; exact absurd this.1.symm ho
  | postOut h ho ih =>
    intro r' h2
    cases h2 with
    | post k hm2 => have := ih k; simp only [Res.out.injEq] at this; exact absurd this.1 ho
    | postOut k _ => exact ih k
  | postIf h hm ih =>
    intro r' h2
    cases h2 with
    | postIf k hm2 => have := ih k; simp only [Res.out.injEq, true_and] at this; subst this; rw [hm] at hm2; cases hm2; rfl
    | postIfOut k ho => have := ih k; simp only [Res.out.injEq] at this; exact absurd this.1.symm ho
  | postIfOut h ho ih =>
    intro r' h2
    cases h2 with
    | postIf k hm2 => have := ih k; simp only [Res.out.injEq] at this; exact absurd this.1 ho
    | postIfOut k _ => exact ih k
  | exit => intro r' h'; cases h'; rfl
  | ret => intro r' h'; cases h'; rfl
  | prim hp =>
    intro r' h'
    cases h' with
    | prim hp' => rw [hp] at hp'; cases hp'; rfl
    | opCall => rw [prim_call] at hp; cases hp
    | opCallV => rw [prim_callV] at hp; cases hp
    | opIn => rw [prim_callIn] at hp; cases hp
  | opCall hi hc hb ih =>
    intro r' h'
    cases h' with
    | prim hp' => rw [prim_call] at hp'; cases hp'
    | opCall hi' hc' hb' =>
      have := ih hc'
      simp only [Res.ret.injEq] at this
      obtain ⟨rfl, rfl⟩ := this
      rw [hb] at hb'; cases hb'; rfl
  | opCallV hi hc hb ih =>
    intro r' h'
    cases h' with
    | prim hp' => rw [prim_callV] at hp'; cases hp'
    | opCallV hi' hc' hb' =>
      have := ih hc'
      simp only [Res.ret.injEq] at this
      obtain ⟨rfl, rfl⟩ := this
      rw [hb] at hb'; cases hb'; rfl
  | opIn hf hc hb ho hv hl ih =>
    intro r' h'
    cases h' with
    | prim hp' => rw [prim_callIn] at hp'; cases hp'
    | opIn hf' hc' hb' ho' hv' hl' =>
      rw [hf] at hf'; cases hf'
      have := ih hb'
      simp only [Res.out.injEq] at this
      obtain ⟨rfl, rfl⟩ := this
      rw [hv] at hv'; cases hv'; rfl
  | opsNil => intro r' h'; cases h'; rfl
  | opsSkip hg h ih =>
    intro r' h'
    cases h' with
    | opsSkip hg' k => exact ih k
    | opsCons hg' _ _ => rw [hg] at hg'; cases hg'
  | opsCons hg ho h iho ih =>
    intro r' h'
    cases h' with
    | opsSkip hg' k => rw [hg] at hg'; cases hg'
    | opsCons hg' ho' k =>
      have := iho ho'
      simp only [Res.val.injEq] at this
      obtain ⟨rfl, rfl⟩ := this
      exact ih k
  | drawNil => intro r' h'; cases h'; rfl
  | drawSkip hg h ih =>
    intro r' h'
    cases h' with
    | drawSkip hg' k => exact ih k
    | drawCons hg' _ _ _ _ _ => rw [hg] at hg'; cases hg'
  | drawCons hg ho hd hq hu h iho ih =>
    intro r' h'
    cases h' with
    | drawSkip hg' k => rw [hg] at hg'; cases hg'
    | drawCons hg' ho' hd' hq' hu' k =>
      obtain ⟨rfl, rfl⟩ := det_draw hd hu hu' (fun X hX r' h => iho X hX h) ho'
      exact ih k
end Go.AM
namespace Go.AM
open Go.RowKit
inductive Kf where
  | seq (b : ICode)
  | block (id : Nat)
  | post (o : Out → Out)
  | mv (m : List (Nat × Nat))
  | mvi (g : Nat × Nat × Nat) (m : List (Nat × Nat))
section
variable (prog : String → Option IFn)
def WK : List Kf → Out → St → (Out → St → Prop) → Prop
  | [], o, s, Q => Q o s
  | .seq b :: k, o, s, Q => if o = .normal then ∃ o' s', Ev prog (.code b s) (.out o' s') ∧ WK k o' s' Q else WK k o s Q
  | .block id :: k, o, s, Q => WK k (if o = .exit id then .normal else o) s Q
  | .post f :: k, o, s, Q => WK k (f o) s Q
  | .mv m :: k, o, s, Q => if o = .normal then ∃ s2, mvSt m s = some s2 ∧ WK k .normal s2 Q else WK k o s Q
  | .mvi g m :: k, o, s, Q => if o = .normal then ∃ s2, mvIf g m s = some s2 ∧ WK k .normal s2 Q else WK k o s Q
def WC (c : ICode) (k : List Kf) (s : St) (Q : Out → St → Prop) : Prop := ∃ o s', Ev prog (.code c s) (.out o s') ∧ WK prog k o s' Q
def WO (l : List IOp) (k : List Kf) (s : St) (Q : Out → St → Prop) : Prop := ∃ s', Ev prog (.ops l s) (.env s') ∧ WK prog k .normal s' Q
def WD (l : List IOp) (k : List Kf) (s : St) (Q : Out → St → Prop) : Prop := ∃ s', Ev prog (.draw l s) (.env s') ∧ WK prog k .normal s' Q
def WCond (a : AV) (x y : ICode) (k : List Kf) (s : St) (Q : Out → St → Prop) : Prop := ∃ t, a = .v (.bool t) ∧ WC prog (if t then x else y) k s Q
def WG (g : Option Bool) (i : IOp) (l : List IOp) (k : List Kf) (s : St) (Q : Out → St → Prop) : Prop :=
  (g = some false ∧ WO prog l k (s.put i.dst (.v undef)) Q) ∨
  (g = some true ∧ ∃ a h', Ev prog (.op i.p (i.xs.map (evalO s.env)) s.h) (.val a h') ∧ WO prog l k (({ s with h := h' } : St).put i.dst a) Q)
def WP (p : Prim) (xs : List AV) (dst : Option Nat) (l : List IOp) (k : List Kf) (s : St) (Q : Out → St → Prop) : Prop :=
  ∃ a h', Ev prog (.op p xs s.h) (.val a h') ∧ WO prog l k (({ s with h := h' } : St).put dst a) Q
def WR (r : Option (AV × Hp)) (dst : Option Nat) (l : List IOp) (k : List Kf) (s : St) (Q : Out → St → Prop) : Prop :=
  ∃ a h', r = some (a, h') ∧ WO prog l k (({ s with h := h' } : St).put dst a) Q
end
variable {prog : String → Option IFn} {k : List Kf} {s : St} {Q : Out → St → Prop}
theorem WK_nil {o} : WK prog [] o s Q ↔ Q o s := Iff.rfl
theorem WK_seq_normal {b} : WK prog (.seq b :: k) .normal s Q ↔ WC prog b k s Q := by simp [WK, WC]
theorem WK_seq_ret {b} : WK prog (.seq b :: k) .ret s Q ↔ WK prog k .ret s Q := by simp [WK]
theorem WK_seq_exit {b id} : WK prog (.seq b :: k) (.exit id) s Q ↔ WK prog k (.exit id) s Q := by simp [WK]
theorem WK_block_normal {id} : WK prog (.block id :: k) .normal s Q ↔ WK prog k .normal s Q := by simp [WK]
theorem WK_block_ret {id} : WK prog (.block id :: k) .ret s Q ↔ WK prog k .ret s Q := by simp [WK]
theorem WK_block_exit {id j} : WK prog (.block id :: k) (.exit j) s Q ↔ WK prog k (if j = id then .normal else .exit j) s Q := by
  simp only [WK, Out.exit.injEq]
theorem WC_skip : WC prog .skip k s Q ↔ WK prog k .normal s Q :=
  ⟨fun ⟨o, s', he, h⟩ => by cases he; exact h, fun h => ⟨_, _, .skip, h⟩⟩
theorem WC_ret : WC prog .ret k s Q ↔ WK prog k .ret s Q :=
  ⟨fun ⟨o, s', he, h⟩ => by cases he; exact h, fun h => ⟨_, _, .ret, h⟩⟩
theorem WC_exit {id} : WC prog (.exit id) k s Q ↔ WK prog k (.exit id) s Q :=
  ⟨fun ⟨o, s', he, h⟩ => by cases he; exact h, fun h => ⟨_, _, .exit, h⟩⟩
theorem WC_ops {l} : WC prog (.ops l) k s Q ↔ WO prog l k s Q :=
  ⟨fun ⟨o, s', he, h⟩ => by cases he with | ops h2 => exact ⟨_, h2, h⟩, fun ⟨s', h2, h⟩ => ⟨_, _, .ops h2, h⟩⟩
theorem WC_draw {l} : WC prog (.draw l) k s Q ↔ WD prog l k s Q :=
  ⟨fun ⟨o, s', he, h⟩ => by cases he with | draw h2 => exact ⟨_, h2, h⟩, fun ⟨s', h2, h⟩ => ⟨_, _, .draw h2, h⟩⟩
theorem WC_seq {a b} : WC prog (.seq a b) k s Q ↔ WC prog a (.seq b :: k) s Q := by
  constructor
  · rintro ⟨o, s', he, h⟩
    cases he with
    | seq h1 h2 => exact ⟨_, _, h1, by simp only [WK, if_true]; exact ⟨_, _, h2, h⟩⟩
    | seqOut h1 ho => exact ⟨_, _, h1, by simp only [WK, if_neg ho]; exact h⟩
  · rintro ⟨o, s', he, h⟩
    by_cases ho : o = .normal
    · subst ho
      simp only [WK, if_true] at h
      obtain ⟨o', s2, h2, h⟩ := h
      exact ⟨_, _, .seq he h2, h⟩
    · simp only [WK, if_neg ho] at h
      exact ⟨_, _, .seqOut he ho, h⟩
theorem WC_block {id a} : WC prog (.block id a) k s Q ↔ WC prog a (.block id :: k) s Q := by
  constructor
  · rintro ⟨o, s', he, h⟩
    cases he with | block h1 => exact ⟨_, _, h1, h⟩
  · rintro ⟨o, s', he, h⟩
    exact ⟨_, _, .block he, h⟩
theorem WC_cond {c x y} : WC prog (.cond c x y) k s Q ↔ WCond prog (evalO s.env c) x y k s Q := by
  constructor
  · rintro ⟨o, s', he, h⟩
    cases he with | cond hc h1 => exact ⟨_, hc, _, _, h1, h⟩
  · rintro ⟨t, hc, o, s', he, h⟩
    exact ⟨_, _, .cond hc he, h⟩
theorem WCond_bool {t x y} : WCond prog (.v (.bool t)) x y k s Q ↔ WC prog (if t then x else y) k s Q := by simp [WCond]
theorem WO_nil : WO prog [] k s Q ↔ WK prog k .normal s Q :=
  ⟨fun ⟨s', he, h⟩ => by cases he; exact h, fun h => ⟨_, .opsNil, h⟩⟩
theorem WO_cons {i l} : WO prog (i :: l) k s Q ↔ WG prog (s.guard i.guard) i l k s Q := by
  constructor
  · rintro ⟨s', he, h⟩
    cases he with
    | opsSkip hg h1 => exact .inl ⟨hg, _, h1, h⟩
    | opsCons hg ho h1 => exact .inr ⟨hg, _, _, ho, _, h1, h⟩
  · rintro (⟨hg, s', h1, h⟩ | ⟨hg, a, h', ho, s', h1, h⟩)
    · exact ⟨_, .opsSkip hg h1, h⟩
    · exact ⟨_, .opsCons hg ho h1, h⟩
theorem WG_false {i l} : WG prog (some false) i l k s Q ↔ WO prog l k (s.put i.dst (.v undef)) Q := by simp [WG]
theorem WG_true {i l} : WG prog (some true) i l k s Q ↔ WP prog i.p (i.xs.map (evalO s.env)) i.dst l k s Q := by simp [WG, WP]
theorem WP_prim {p xs dst l} (hp : ∀ f sites, p ≠ .call f sites) (hp2 : ∀ sites, p ≠ .callV sites) (hp3 : ∀ f sites, p ≠ .callIn f sites := by simp) : WP prog p xs dst l k s Q ↔ WR prog (prim s.h p xs) dst l k s Q := by
  constructor
  · rintro ⟨a, h', he, h⟩
    rcases ev_call_inv he with h1 | ⟨f, ss, rfl⟩ | ⟨ss, rfl⟩ | ⟨f, ss, rfl⟩
    · exact ⟨a, h', h1, h⟩
    · exact absurd rfl (hp _ _)
    · exact absurd rfl (hp2 _)
    · exact absurd rfl (hp3 _ _)
  · rintro ⟨a, h', he, h⟩
    exact ⟨a, h', .prim he, h⟩
theorem WR_some {a h' dst l} : WR prog (some (a, h')) dst l k s Q ↔ WO prog l k (({ s with h := h' } : St).put dst a) Q := by
  constructor
  · rintro ⟨a2, h2, e, h⟩; cases e; exact h
  · intro h; exact ⟨_, _, rfl, h⟩
theorem WP_call {f sites xs dst l r G2} (hs : Ev prog (.call f (xs.map (AV.ren (up s.h.G.length))) s.h.into) (.ret r G2)) :
    WP prog (.call f sites) xs dst l k s Q ↔ okBlks 0 s.h.L = true ∧ WR prog (s.h.back sites G2 r) dst l k s Q := by
  constructor
  · rintro ⟨a, h', he, h⟩
    obtain ⟨hi, r2, G3, hc, hb⟩ := ev_op_call he
    have := ev_det hs hc
    simp only [Res.ret.injEq] at this
    obtain ⟨rfl, rfl⟩ := this
    exact ⟨hi, _, _, hb, h⟩
  · rintro ⟨hi, a, h', hb, h⟩
    exact ⟨a, h', .opCall hi hs hb, h⟩
theorem WC_loop {clr fre a} (Inv : Nat → St → Prop) (n : Nat) (h0 : ∃ s1, clear s clr fre = some s1 ∧ Inv n s1)
    (hstep : ∀ n s, Inv n s → WC prog a [] s fun o s' => if o = .normal then ∃ s1 m, clear s' clr fre = some s1 ∧ m < n ∧ Inv m s1 else WK prog k o s' Q) :
    WC prog (.loop clr fre a) k s Q := by
  induction n using Nat.strongRecOn generalizing s with
  | ind n ih =>
    obtain ⟨s1, hc, hI⟩ := h0
    obtain ⟨o, s2, he, h⟩ := hstep n s1 hI
    by_cases ho : o = .normal
    · subst ho
      simp only [WK, if_true] at h
      obtain ⟨s3, m, hc2, hm, hI2⟩ := h
      obtain ⟨o', s4, he2, h2⟩ := ih m hm ⟨s3, hc2, hI2⟩
      exact ⟨_, _, .loop hc he he2, h2⟩
    · simp only [WK, if_neg ho] at h
      exact ⟨_, _, .loopOut hc he ho, h⟩
end Go.AM
namespace Go.AM
open Go.RowKit
theorem px_id {h a} : prim h .id [a] = some (a, h) := rfl
theorem px_pick {h c a b} : prim h .pick [.v (.bool c), a, b] = some (if c then a else b, h) := rfl
theorem px_nilv {h s esz} : prim h (.nilv s esz) [.v (.slice none 0 0)] = (h.new s virtBlk).map fun h' => (.own (.l s) 0 0 0 esz none, h') := rfl
theorem px_alloc {h s z ks} : prim h (.alloc s z ks) [] = (h.new s (newBlk (z.map .v))).bind fun h1 => (kidsIn h1 s (z.map .v) ks).map fun q => (.ptr (.l s) q.1.length 0, q.2.put (.l s) (some (newBlk q.1))) := rfl
theorem px_box {h s a} : prim h (.box s) [a] = a.cellsOf.bind fun cs => (h.new s (newBlk cs)).map fun h' => (.ptr (.l s) cs.length 0, h') := rfl
theorem px_build {h z ps as} : prim h (.build z ps) as = (fills ps (z.map .v) as).map fun cs => (.agg cs, h) := rfl
theorem px_buildSlice {h s frz esz len z ps as} : prim h (.buildSlice s frz esz len z ps) as = (h.mayFreeze frz as).bind fun q =>
    (fills ps ((List.replicate len (z.map AV.v)).flatten) q.1).bind fun cs =>
      if cs.length = len * esz then (q.2.new s (newBlk cs)).map fun h' => (.own (.l s) (len * esz) 0 len esz (some len), h') else none := rfl
theorem px_load_ptr {h sz agg ℓ n off} : prim h (.load sz agg) [.ptr ℓ n off] = match h.get ℓ with
      | some B => if B.cells.length = n ∧ off + sz ≤ n then (whole agg ((B.cells.drop off).take sz)).map fun a => (a, h) else none
      | none => none := rfl
theorem px_load_rop {h sz agg cells} : prim h (.load sz agg) [.rop cells] = if sz ≤ cells.length then (whole agg (cells.take sz)).map fun a => (a, h) else none := rfl
theorem px_store {h sz frz ℓ n off x} : prim h (.store sz frz) [.ptr ℓ n off, x] = x.cellsOf.bind fun cs0 => (h.mayFreeze frz cs0).bind fun q => match q.2.get ℓ with
        | some B => if B.cells.length = n ∧ B.wr ∧ q.1.length = sz ∧ off + sz ≤ n ∧ okPut ℓ q.1 then
            some (.v undef, q.2.put ℓ (some { B with cells := lay B.cells off q.1, data := B.data && AV.lf.lfs q.1 })) else none
        | none => none := rfl
theorem px_nilCheck_ptr {h ℓ n off} : prim h .nilCheck [.ptr ℓ n off] = some (.ptr ℓ n off, h) := rfl
theorem px_nilCheck_rop {h cs} : prim h .nilCheck [.rop cs] = some (.rop cs, h) := rfl
theorem px_nilCheck_fn {h f a b} : prim h .nilCheck [.fn f a b] = some (.fn f a b, h) := rfl
theorem px_bin {h op x y} : prim h (.bin op) [.v x, .v y] = (vBin op x y).map fun z => (.v z, h) := rfl
theorem px_eq {h neg ls as bs} : prim h (.eq neg ls) [.agg as, .agg bs] = (cellsEq ls as bs).map fun z => (.v (.bool (z != neg)), h) := rfl
theorem px_eqBool {h neg a b} : prim h (.eqBool neg) [.v (.bool a), .v (.bool b)] = some (.v (.bool ((a == b) != neg)), h) := rfl
theorem px_eqNil {h neg k a b} : prim h (.eqNil neg k) [a, b] = if isNilV k b then (h.isNil k a).map fun z => (.v (.bool (z != neg)), h)
        else if isNilV k a then (h.isNil k b).map fun z => (.v (.bool (z != neg)), h) else none := rfl
theorem px_un {h op x} : prim h (.un op) [.v x] = (vUn op x).map fun z => (.v z, h) := rfl
theorem px_convInt {h k k' n} : prim h (.convInt k) [.v (.int k' n)] = some (.v (.int k (k.wrap n)), h) := rfl
theorem px_bytesStr {h a} : prim h .bytesStr [a] = (h.sees a).bind fun cs => if lenOf a = some cs.length then (bytesOf cs).map fun bs => (.v (.string ⟨bs.toArray⟩), h) else none := rfl
theorem px_bytesBytes {h ℓ n off len esz cap} : prim h .bytesBytes [.own ℓ n off len esz cap] = match h.get ℓ with
      | some B => if B.cells.length = n ∧ B.virt = false ∧ 0 < len ∧ B.wr ∧ B.plain = false then some (.own ℓ n off len esz cap, h) else none
      | none => none := rfl
theorem px_strStr {h s} : prim h .strStr [.v (.string s)] = some (.v (.string s), h) := rfl
theorem px_makeFunc {h f k as} : prim h (.makeFunc f k) as = if k ≤ as.length then some (.fn f (as.take k) (as.drop k), h) else none := rfl
theorem px_sliceStr {h lo hi s xs} : prim h (.sliceStr lo hi) (.v (.string s) :: xs) = (bounds s.size none lo hi false xs).bind fun q =>
        if q.1 ≤ q.2.1 then some (.v (.string (s.extract q.1 q.2.1)), h) else none := rfl
theorem px_slice_own {h esz lo hi mx ℓ n off len esz' cap xs} : prim h (.slice esz lo hi mx) (.own ℓ n off len esz' cap :: xs) =
      if esz' = esz then (bounds len cap lo hi mx xs).bind fun q => if q.1 ≤ q.2.1 then some (.own ℓ n (off + q.1 * esz) (q.2.1 - q.1) esz q.2.2, h) else none else none := rfl
theorem px_slice_ro {h esz lo hi mx nl esz' len cells xs} : prim h (.slice esz lo hi mx) (.ro nl esz' len cells :: xs) =
      if esz' = esz then (bounds len none lo hi mx xs).bind fun q => if q.1 ≤ q.2.1 ∧ mx = false then some (.ro nl esz (q.2.1 - q.1) ((cells.drop (q.1 * esz)).take ((q.2.1 - q.1) * esz)), h) else none else none := rfl
theorem px_slice_nil {h esz lo hi mx xs} : prim h (.slice esz lo hi mx) (.v (.slice none 0 0) :: xs) = (bounds 0 (some 0) lo hi mx xs).bind fun q =>
        if q.1 ≤ q.2.1 then some (.v (.slice none 0 0), h) else none := rfl
theorem px_fieldAddr_ptr {h off' ℓ n off} : prim h (.fieldAddr off') [.ptr ℓ n off] = some (.ptr ℓ n (off + off'), h) := rfl
theorem px_fieldAddr_rop {h off' cs} : prim h (.fieldAddr off') [.rop cs] = some (.rop (cs.drop off'), h) := rfl
theorem px_field {h off sz agg cs} : prim h (.field off sz agg) [.agg cs] = if off + sz ≤ cs.length then (whole agg ((cs.drop off).take sz)).map fun a => (a, h) else none := rfl
theorem px_indexAddr_own {h esz ℓ n off len esz' cap ix} : prim h (.indexAddr esz) [.own ℓ n off len esz' cap, ix] = (natOf ix).bind fun i => if i < len ∧ esz' = esz then some (.ptr ℓ n (off + i * esz), h) else none := rfl
theorem px_indexAddr_ro {h esz nl esz' len cells ix} : prim h (.indexAddr esz) [.ro nl esz' len cells, ix] = (natOf ix).bind fun i => if i < len ∧ esz' = esz then some (.rop (cells.drop (i * esz)), h) else none := rfl
theorem px_indexStr {h s ix} : prim h .indexStr [.v (.string s), ix] = (natOf ix).bind fun i => (s.data.toList[i]?).map fun b => (byteAV b, h) := rfl
theorem px_indexAgg {h n esz agg cs ix} : prim h (.indexAgg n esz agg) [.agg cs, ix] = (natOf ix).bind fun i => if i < n ∧ (i + 1) * esz ≤ cs.length then (whole agg ((cs.drop (i * esz)).take esz)).map fun a => (a, h) else none := rfl
theorem px_extract {h i vs} : prim h (.extract i) [.tup vs] = (vs[i]?).map fun a => (a, h) := rfl
theorem px_append {h site frz esz bytes s x} : prim h (.append site frz esz bytes) [s, x] = (h.source x).bind fun q => (h.mayFreeze frz q.2).bind fun q2 => q2.2.append site esz bytes s q.1 q2.1 := rfl
theorem px_lenStr {h s} : prim h .lenStr [.v (.string s)] = some (.v (goInt s.size), h) := rfl
theorem px_lenSlice {h a} : prim h .lenSlice [a] = (lenOf a).map fun (n : Nat) => (.v (goInt n), h) := rfl
theorem px_lenArr {h n a} : prim h (.lenArr n) [a] = some (.v (goInt n), h) := rfl
theorem px_cap_own {h ℓ n off len esz c} : prim h .cap [.own ℓ n off len esz (some c)] = some (.v (goInt c), h) := rfl
theorem px_cap_nil {h} : prim h .cap [.v (.slice none 0 0)] = some (.v (goInt 0), h) := rfl
theorem px_min {h k a as} : prim h .min (.v (.int k a) :: as) = (mins k a as).map fun n => (.v (.int k n), h) := rfl
theorem px_max {h k a as} : prim h .max (.v (.int k a) :: as) = (maxs k a as).map fun n => (.v (.int k n), h) := rfl
theorem lenOf_nil : lenOf (.v (.slice none 0 0)) = some 0 := rfl
theorem lenOf_ro {a b c d} : lenOf (.ro a b c d) = some c := rfl
theorem lenOf_own {a b c d e f} : lenOf (.own a b c d e f) = some d := rfl
theorem natOf_int {k n} : natOf (.v (.int k n)) = if 0 ≤ n then some n.toNat else none := rfl
theorem natOf_nat {k} {n : Nat} : natOf (.v (.int k (n : Int))) = some n := by simp [natOf]
end Go.AM
namespace Go.AM
open Go.RowKit
def eszOK (esz : Nat) : AV → Prop
  | .own _ _ _ _ e _ => e = esz
  | .ro _ e _ _ => e = esz
  | .v (.slice none 0 0) => True
  | _ => False
def capOK (len : Nat) : AV → Prop
  | .own _ _ _ _ _ (some c) => len ≤ c
  | _ => True
structure View (h : Hp) (a : AV) (esz len : Nat) (cells : List AV) : Prop where
  hlen : lenOf a = some len
  hsees : h.sees a = some cells
  hclen : cells.length = len * esz
  hesz : eszOK esz a
  hcap : capOK len a
  hpos : 0 < esz
def elemPtr (a : AV) (esz i : Nat) : AV := match a with
  | .own ℓ n off _ _ _ => .ptr ℓ n (off + i * esz)
  | .ro _ _ _ cells => .rop (cells.drop (i * esz))
  | _ => .dead
def sub (a : AV) (esz i j : Nat) : AV := match a with
  | .own ℓ n off _ _ cap => .own ℓ n (off + i * esz) (j - i) esz (cap.map (· - i))
  | .ro nl _ _ cells => .ro nl esz (j - i) ((cells.drop (i * esz)).take ((j - i) * esz))
  | a => a
variable {h : Hp} {a : AV} {esz len : Nat} {cells : List AV}
theorem View.cases (v : View h a esz len cells) : (a = .v (.slice none 0 0) ∧ len = 0 ∧ cells = []) ∨ (∃ nl, a = .ro nl esz len cells) ∨
    ∃ ℓ n off cap B, a = .own ℓ n off len esz cap ∧ h.get ℓ = some B ∧ B.cells.length = n ∧ cells = (B.cells.drop off).take (len * esz) ∧ (len = 0 ∨ off + len * esz ≤ n) := by
  obtain ⟨h1, h2, h3, h4, h5, h6⟩ := v
  unfold lenOf at h1
  split at h1 <;> cases h1
  · left
    simp only [Hp.sees, Option.some.injEq] at h2
    exact ⟨rfl, rfl, h2.symm⟩
  · right; left
    simp only [Hp.sees, Option.some.injEq] at h2
    simp only [eszOK] at h4
    subst h4; subst h2
    exact ⟨_, rfl⟩
  · rename_i ℓ n off e c
    right; right
    simp only [Hp.sees] at h2
    simp only [eszOK] at h4
    split at h2
    · rename_i B hB
      split at h2 <;> cases h2
      rename_i hn
      refine ⟨ℓ, n, off, c, B, by rw [h4], hB, hn, by rw [h4], ?_⟩
      rw [List.length_take, List.length_drop, h4] at h3
      rcases Nat.eq_zero_or_pos (len * esz) with h0 | h0
      · rcases Nat.mul_eq_zero.1 h0 with h0 | h0
        · exact .inl h0
        · omega
      · right; omega
    · cases h2
theorem View.lenSlice (v : View h a esz len cells) : prim h .lenSlice [a] = some (.v (.int .i64 len), h) := by
  rw [px_lenSlice, v.hlen]; rfl
theorem View.index (v : View h a esz len cells) {k : IntKind} {i : Nat} (hi : i < len) : prim h (.indexAddr esz) [a, .v (.int k i)] = some (elemPtr a esz i, h) := by
  rcases v.cases with ⟨rfl, rfl, rfl⟩ | ⟨nl, rfl⟩ | ⟨ℓ, n, off, cap, B, rfl, hB, hn, hc, hl⟩
  · omega
  · rw [px_indexAddr_ro, natOf_nat]; simp [hi, elemPtr]
  · rw [px_indexAddr_own, natOf_nat]; simp [hi, elemPtr]
theorem View.load (v : View h a esz len cells) {agg : Bool} {i : Nat} (hi : i < len) : prim h (.load esz agg) [elemPtr a esz i] = (whole agg ((cells.drop (i * esz)).take esz)).map fun a => (a, h) := by
  have hm : (i + 1) * esz ≤ len * esz := Nat.mul_le_mul_right _ hi
  rw [Nat.add_mul, Nat.one_mul] at hm
  have hcl := v.hclen
  rcases v.cases with ⟨rfl, rfl, rfl⟩ | ⟨nl, rfl⟩ | ⟨ℓ, n, off, cap, B, rfl, hB, hn, hc, hl⟩
  · omega
  · simp only [elemPtr]
    rw [px_load_rop, if_pos (by rw [List.length_drop]; omega)]
  · simp only [elemPtr]
    rw [px_load_ptr, hB]
    simp only
    rw [if_pos ⟨hn, by omega⟩, hc, List.drop_take, List.drop_drop, List.take_take, Nat.min_eq_left (by omega)]
theorem View.source (v : View h a esz len cells) : h.source a = some (len, cells) := by
  have h1 := v.hlen
  have h2 := v.hsees
  rcases v.cases with ⟨rfl, rfl, rfl⟩ | ⟨nl, rfl⟩ | ⟨ℓ, n, off, cap, B, rfl, hB, hn, hc, hl⟩ <;> simp only [Hp.source, h1, h2]
theorem View.any {G L L' : List (Option Blk)} (v : View ⟨G, L⟩ a esz len cells) (ho : ∀ k n off e c, a ≠ .own (.l k) n off len e c) : View ⟨G, L'⟩ a esz len cells := by
  obtain ⟨h1, h2, h3, h4, h5, h6⟩ := v
  refine ⟨h1, ?_, h3, h4, h5, h6⟩
  cases a with
  | own ℓ n off l e c =>
    simp only [lenOf, Option.some.injEq] at h1
    subst h1
    cases ℓ with
    | l k => exact absurd rfl (ho k n off e c)
    | o p => exact h2
  | v x =>
    rw [← h2]
    simp only [Hp.sees]
    split <;> simp_all
  | _ => exact h2
theorem View.sub (v : View h a esz len cells) {i j : Nat} (hij : i ≤ j) (hj : j ≤ len) : View h (sub a esz i j) esz (j - i) ((cells.drop (i * esz)).take ((j - i) * esz)) := by
  have hm : i * esz + (j - i) * esz = j * esz := by rw [← Nat.add_mul]; congr 1; omega
  have hm2 : j * esz ≤ len * esz := Nat.mul_le_mul_right _ hj
  have hlen : ((cells.drop (i * esz)).take ((j - i) * esz)).length = (j - i) * esz := by
    rw [List.length_take, List.length_drop, v.hclen]; omega
  have hp := v.hpos
  have hcp := v.hcap
  rcases v.cases with ⟨rfl, rfl, rfl⟩ | ⟨nl, rfl⟩ | ⟨ℓ, n, off, cap, B, rfl, hB, hn, hc, hl⟩
  · obtain rfl : i = 0 := by omega
    obtain rfl : j = 0 := by omega
    exact ⟨rfl, by simp [AM.sub, Hp.sees], by simp, trivial, trivial, hp⟩
  · exact ⟨rfl, rfl, hlen, rfl, trivial, hp⟩
  · refine ⟨rfl, ?_, hlen, rfl, ?_, hp⟩
    · simp only [AM.sub, Hp.sees, hB, hn, if_true]
      rw [hc, List.drop_take, List.drop_drop, List.take_take, Nat.min_eq_left (by omega)]
    · cases cap with
      | none => trivial
      | some c => simp only [AM.sub, capOK, Option.map_some] at hcp ⊢; omega
theorem View.leCap (v : View h a esz len cells) {ℓ n off cap} (ha : a = .own ℓ n off len esz cap) {j : Nat} (hj : j ≤ len) : leCap len cap j = true := by
  have hcp := v.hcap
  subst ha
  cases cap with
  | none => simpa [AM.leCap] using hj
  | some c => simp only [capOK] at hcp; simp only [AM.leCap, decide_eq_true_eq]; omega
theorem View.slice (v : View h a esz len cells) {k k' : IntKind} {i j : Nat} (hij : i ≤ j) (hj : j ≤ len) :
    prim h (.slice esz true true false) [a, .v (.int k i), .v (.int k' j)] = some (AM.sub a esz i j, h) := by
  rcases v.cases with ⟨rfl, rfl, rfl⟩ | ⟨nl, rfl⟩ | ⟨ℓ, n, off, cap, B, rfl, hB, hn, hc, hl⟩
  · obtain rfl : i = 0 := by omega
    obtain rfl : j = 0 := by omega
    simp [px_slice_nil, bounds, natOf_int, AM.leCap, AM.sub]
  · simp [px_slice_ro, bounds, natOf_nat, AM.leCap, AM.sub, hij, hj]
  · have := v.leCap rfl hj
    simp [px_slice_own, bounds, natOf_nat, this, AM.sub, hij, hj]
end Go.AM
namespace Go.AM
end Go.AM
namespace Go.AM
open Go.RowKit
theorem ren_comp {ρ σ : Lab → Option Lab} {a : AV} : (a.ren ρ).ren σ = a.ren fun ℓ => (ρ ℓ).bind σ := by
  induction a using AV.rec (motive_2 := fun as => AV.ren.rens σ (AV.ren.rens ρ as) = AV.ren.rens (fun ℓ => (ρ ℓ).bind σ) as) with
  | v x => rfl
  | ptr ℓ n off => simp only [AV.ren]; cases h : ρ ℓ <;> simp [AV.ren]
  | own ℓ n off len esz cap => simp only [AV.ren]; cases h : ρ ℓ <;> simp [AV.ren]
  | ro => rfl
  | rop => rfl
  | fn f a b iha ihb => simp only [AV.ren, iha, ihb]
  | agg cs ih => simp only [AV.ren, ih]
  | tup cs ih => simp only [AV.ren, ih]
  | dead => rfl
  | nil => rfl
  | cons a as iha ihas => simp only [AV.ren.rens, iha, ihas]
theorem blk_ren_comp {ρ σ : Lab → Option Lab} {B : Blk} : (B.ren ρ).ren σ = B.ren fun ℓ => (ρ ℓ).bind σ := by
  by_cases hd : B.data = true
  · simp [Blk.ren, hd]
  · simp only [Blk.ren, hd, Bool.false_eq_true, if_false]
    congr 1
    have := ren_comp (ρ := ρ) (σ := σ) (a := .agg B.cells)
    simpa [AV.ren] using this
def refOK (g s : Nat) : Lab → Bool
  | .l k => k < s
  | .o p => p < g
def refsOK (h : Hp) : Bool := h.L.all fun B => match B with
  | some B => B.labs.all (refOK h.G.length h.L.length)
  | none => true
theorem up_down {g s : Nat} {sites : List Nat} {ℓ : Lab} (h : refOK g s ℓ = true) : (up g ℓ).bind (down g s sites) = some ℓ := by
  cases ℓ with
  | l k =>
    simp only [refOK, decide_eq_true_eq] at h
    simp only [up, Option.bind_some, down]
    rw [if_neg (by omega), if_pos (by omega)]
    congr 2
    omega
  | o p =>
    simp only [refOK, decide_eq_true_eq] at h
    simp only [up, Option.bind_some, down]
    rw [if_pos h]
theorem blkren_back {g s : Nat} {sites : List Nat} {B : Blk} (h : B.labs.all (refOK g s) = true) : (B.ren (up g)).ren (down g s sites) = B := by
  rw [blk_ren_comp]
  exact blk_ren_id fun ℓ hl => up_down (List.all_eq_true.1 h ℓ hl)
theorem back_pure {h : Hp} {r : AV} (hr : refsOK h = true) : h.back [] h.into r = some (r.ren (down h.G.length h.L.length []), h) := by
  have hlen : h.into.length = h.G.length + h.L.length := by simp [Hp.into]
  unfold Hp.back
  rw [if_pos (by omega)]
  rw [show padTo (h.G.length + h.L.length + [].length) h.into = h.into by simp [padTo, hlen]]
  unfold Hp.back0
  simp only [List.length_nil, Nat.add_zero, List.nodup_nil, List.all_nil, and_self, and_true]
  rw [if_pos hlen]
  congr 2
  have e1 : h.into.take h.G.length = h.G := by simp [Hp.into]
  have e2 : h.into.drop h.G.length = h.L.map (Option.map (Blk.ren (up h.G.length))) := by simp [Hp.into]
  rw [e1, e2]
  have e3 : ((h.L.map (Option.map (Blk.ren (up h.G.length)))).take h.L.length).map (Option.map (Blk.ren (down h.G.length h.L.length []))) = h.L := by
    rw [List.take_of_length_le (by simp), List.map_map]
    conv => rhs; rw [← List.map_id h.L]
    refine List.map_congr_left fun B hB => ?_
    cases B with
    | none => rfl
    | some B =>
      have := List.all_eq_true.1 hr _ hB
      simp only [Function.comp, Option.map_some, id_eq, Option.some.injEq]
      exact blkren_back this
  rw [e3]
  have e4 : ∀ L Bs, putAll L [] Bs = L := by intro L Bs; cases Bs <;> rfl
  rw [e4]
theorem WP_pure {prog : String → Option IFn} {k : List Kf} {s : St} {Q : Out → St → Prop} {f xs dst l} {x : Value}
    (hs : Ev prog (.call f (xs.map (AV.ren (up s.h.G.length))) s.h.into) (.ret (.v x) s.h.into)) (h1 : okBlks 0 s.h.L = true) (h2 : refsOK s.h = true) :
    WP prog (.call f []) xs dst l k s Q ↔ WO prog l k (s.put dst (.v x)) Q := by
  rw [WP_call hs, back_pure h2]
  simp only [h1, true_and, WR_some]
  exact Iff.rfl
theorem ren_lfs {ρ : Lab → Option Lab} {as : List AV} (h : AV.lf.lfs as = true) : AV.ren.rens ρ as = as := by
  have := ren_id (ρ := ρ) (a := .agg as) (by
    have : (AV.agg as).labs = [] := lf_of_labs_nil (by simpa [AV.lf] using h)
    rw [this]; intro ℓ hl; cases hl)
  simpa [AV.ren] using this
theorem View.into {h : Hp} {a : AV} {esz len : Nat} {cells : List AV} (v : View h a esz len cells) (hd : AV.lf.lfs cells = true) :
    ∀ L, View ⟨h.into, L⟩ (a.ren (up h.G.length)) esz len cells := by
  intro L
  have hcl := v.hclen
  have hp := v.hpos
  have hcp := v.hcap
  rcases v.cases with ⟨rfl, rfl, rfl⟩ | ⟨nl, rfl⟩ | ⟨ℓ, n, off, cap, B, rfl, hB, hn, hc, hl⟩
  · exact ⟨rfl, rfl, hcl, trivial, trivial, hp⟩
  · exact ⟨rfl, rfl, hcl, rfl, trivial, hp⟩
  · cases ℓ with
    | o p =>
      have hB' : h.G[p]? = some (some B) := get_o.1 (show (⟨h.G, h.L⟩ : Hp).get (.o p) = some B from hB)
      have hlt : p < h.G.length := by
        by_cases hp : p < h.G.length
        · exact hp
        · rw [List.getElem?_eq_none (by omega)] at hB'; cases hB'
      refine ⟨rfl, ?_, hcl, rfl, by cases cap <;> exact hcp, hp⟩
      have hg2 : (⟨h.into, L⟩ : Hp).get (.o p) = some B := by
        rw [get_o, into_o, if_pos hlt]; exact hB'
      simp only [AV.ren, up, Hp.sees, hg2, hn, if_true, hc]
    | l k =>
      have hB' : h.L[k]? = some (some B) := get_l.1 (show (⟨h.G, h.L⟩ : Hp).get (.l k) = some B from hB)
      refine ⟨rfl, ?_, hcl, rfl, by cases cap <;> exact hcp, hp⟩
      have hg2 : (⟨h.into, L⟩ : Hp).get (.o (h.G.length + k)) = some (B.ren (up h.G.length)) := by
        rw [get_o, into_o, if_neg (by omega), show h.G.length + k - h.G.length = k by omega, hB']; rfl
      simp only [AV.ren, up, Hp.sees, hg2, Blk.ren_length, hn, if_true, Option.some.injEq]
      by_cases hd2 : B.data = true
      · rw [show B.ren (up h.G.length) = B by simp [Blk.ren, hd2], hc]
      · have e : (B.ren (up h.G.length)).cells = AV.ren.rens (up h.G.length) B.cells := by simp [Blk.ren, hd2]
        rw [e, rens_eq_map, ← List.map_drop, ← List.map_take, ← hc, ← rens_eq_map, ren_lfs hd]
end Go.AM
namespace Go.AM
open Go.RowKit
def u32 (x : BitVec 32) : Value := .int .u32 (x.toNat : Int)
theorem ofInt_toNat32 (x : BitVec 32) : BitVec.ofInt 32 (x.toNat : Int) = x := by simp
theorem wrap_u32_toNat (x : BitVec 32) : IntKind.u32.wrap (x.toNat : Int) = x.toNat := by
  rw [IntKind.wrap_u32]; have := x.isLt; omega
theorem vBin_xor_u32 {x y : BitVec 32} : vBin .xor (u32 x) (u32 y) = some (u32 (x ^^^ y)) := by
  show some (Value.int .u32 (IntKind.u32.wrap ((BitVec.ofInt 32 (x.toNat : Int) ^^^ BitVec.ofInt 32 (y.toNat : Int)).toNat : Int))) = _
  rw [ofInt_toNat32, ofInt_toNat32, wrap_u32_toNat]; rfl
theorem vBin_and_u32 {x y : BitVec 32} : vBin .and (u32 x) (u32 y) = some (u32 (x &&& y)) := by
  show some (Value.int .u32 (IntKind.u32.wrap ((BitVec.ofInt 32 (x.toNat : Int) &&& BitVec.ofInt 32 (y.toNat : Int)).toNat : Int))) = _
  rw [ofInt_toNat32, ofInt_toNat32, wrap_u32_toNat]; rfl
theorem vUn_xor_u32 {x : BitVec 32} : vUn .xor (u32 x) = some (u32 (~~~ x)) := by
  show some (Value.int .u32 (IntKind.u32.wrap ((BitVec.ofInt 32 (4294967295 : Int) ^^^ BitVec.ofInt 32 (x.toNat : Int)).toNat : Int))) = _
  rw [ofInt_toNat32, show BitVec.ofInt 32 (4294967295 : Int) = BitVec.allOnes 32 by decide, BitVec.allOnes_xor, wrap_u32_toNat]; rfl
theorem vBin_shr_u32 {x : BitVec 32} {n : Nat} {k : IntKind} : vBin .shr (u32 x) (.int k (n : Int)) = some (u32 (x >>> n)) := by
  simp only [u32, vBin]
  rw [if_neg (by omega)]
  congr 2
  rw [Int.toNat_natCast, BitVec.toNat_ushiftRight, Nat.shiftRight_eq_div_pow]
  have h2 : ∀ m : Nat, (x.toNat : Int).fdiv (2 ^ m) = ((x.toNat / 2 ^ m : Nat) : Int) := by
    intro m
    rw [Int.fdiv_eq_ediv_of_nonneg _ (Int.le_of_lt (Int.pow_pos (by omega)))]; simp
  rw [h2]
  congr 1
  simp only [IntKind.bits]
  by_cases hn : n ≤ 32
  · rw [Nat.min_eq_left hn]
  · rw [Nat.min_eq_right (by omega)]
    have := x.isLt
    have h3 : 2 ^ 32 ≤ 2 ^ n := Nat.pow_le_pow_right (by omega) (by omega)
    rw [Nat.div_eq_of_lt this, Nat.div_eq_of_lt (by omega)]
theorem vBin_eql_u32 {x y : BitVec 32} : vBin .eql (u32 x) (u32 y) = some (.bool (x == y)) := by
  simp only [u32, vBin, ne_eq, not_true_eq_false, if_false, Option.some.injEq, Value.bool.injEq]
  rw [Bool.eq_iff_iff]
  simp only [beq_iff_eq]
  constructor
  · intro h; exact BitVec.eq_of_toNat_eq (by omega)
  · rintro rfl; rfl
theorem wrap_i64_of {n : Int} (h : -9223372036854775808 ≤ n) (h' : n ≤ 9223372036854775807) : IntKind.i64.wrap n = n := by
  rw [IntKind.wrap_i64]; omega
theorem vBin_add_i64 {a b : Int} (h : -9223372036854775808 ≤ a + b) (h' : a + b ≤ 9223372036854775807) : vBin .add (.int .i64 a) (.int .i64 b) = some (.int .i64 (a + b)) := by
  simp only [vBin, ne_eq, not_true_eq_false, if_false, wrap_i64_of h h']
theorem vBin_sub_i64 {a b : Int} (h : -9223372036854775808 ≤ a - b) (h' : a - b ≤ 9223372036854775807) : vBin .sub (.int .i64 a) (.int .i64 b) = some (.int .i64 (a - b)) := by
  simp only [vBin, ne_eq, not_true_eq_false, if_false, wrap_i64_of h h']
theorem vBin_mul_i64 {a b : Int} (h : -9223372036854775808 ≤ a * b) (h' : a * b ≤ 9223372036854775807) : vBin .mul (.int .i64 a) (.int .i64 b) = some (.int .i64 (a * b)) := by
  simp only [vBin, ne_eq, not_true_eq_false, if_false, wrap_i64_of h h']
theorem vBin_lss {k a b} : vBin .lss (.int k a) (.int k b) = some (.bool (decide (a < b))) := by simp [vBin]
theorem vBin_leq {k a b} : vBin .leq (.int k a) (.int k b) = some (.bool (decide (a ≤ b))) := by simp [vBin]
theorem vBin_gtr {k a b} : vBin .gtr (.int k a) (.int k b) = some (.bool (decide (a > b))) := by simp [vBin]
theorem vBin_geq {k a b} : vBin .geq (.int k a) (.int k b) = some (.bool (decide (a ≥ b))) := by simp [vBin]
theorem vBin_eql {k a b} : vBin .eql (.int k a) (.int k b) = some (.bool (a == b)) := by simp [vBin]
theorem vBin_neq {k a b} : vBin .neq (.int k a) (.int k b) = some (.bool (a != b)) := by simp [vBin]
end Go.AM
namespace Go.AM
def fin (rs : List RV) (s : St) : Option (AV × List (Option Blk)) := (resVals s rs).bind fun vs => s.h.leave (packA vs)
theorem finish_fin {nt ns rs B} {s : St} : finish ⟨nt, ns, rs, B⟩ s = fin rs s := by
  simp only [finish, fin]
  congr 1
theorem call_of_fin {prog : String → Option IFn} {f args G nt ns rs B r G2} (hf : prog f = some ⟨nt, ns, rs, B⟩)
    (h : WC prog B [] ⟨args ++ List.replicate (nt - args.length) .dead, ⟨G, List.replicate ns none⟩⟩ fun o s => (o = .normal ∨ o = .ret) ∧ fin rs s = some (r, G2)) :
    Ev prog (.call f args G) (.ret r G2) := by
  obtain ⟨o, s', he, ho, hr⟩ := h
  exact .call (r := (r, G2)) hf he ho (by rw [finish_fin]; exact hr)
theorem leave_v {h : Hp} {x : Value} : h.leave (.v x) = some (.v x, h.G) := by
  simp [Hp.leave, AV.labs, collect, outBlks, AV.ren]
theorem fin_tmp {t s} : fin [.tmp t] s = s.h.leave (s.env.getD t .dead) := rfl
end Go.AM
namespace Go.AM
theorem noRef_nil {a : AV} : noRef [] a = true := by
  unfold noRef
  rw [List.all_eq_true]
  intro ℓ _
  cases ℓ <;> rfl
theorem blkNoRef_nil {B : Option Blk} : blkNoRef [] B = true := by
  cases B with
  | none => rfl
  | some B => unfold blkNoRef; rw [List.all_eq_true]; intro ℓ _; cases ℓ <;> rfl
theorem clear_nil {s : St} {clr : List Nat} : clear s clr [] = some ⟨clr.foldl (fun e t => e.set t .dead) s.env, s.h⟩ := by
  unfold clear
  exact if_pos ⟨List.all_eq_true.2 fun a _ => noRef_nil, List.all_eq_true.2 fun B _ => blkNoRef_nil⟩
end Go.AM
namespace Go.AM
theorem const_int {k n} : constAV (.int k n) = .v (.int k n) := rfl
theorem const_bool {b} : constAV (.bool b) = .v (.bool b) := rfl
theorem const_string {s} : constAV (.string s) = .v (.string s) := rfl
theorem const_slice : constAV (.slice none 0 0) = .v (.slice none 0 0) := rfl
theorem const_ptr : constAV (.pointer none) = .v (.pointer none) := rfl
theorem const_func : constAV .nilFunc = .v .nilFunc := rfl
theorem const_agg {cs} : constAV (.agg cs) = .agg (cs.toList.map .v) := rfl
theorem const_u32 {x} : constAV (u32 x) = .v (u32 x) := rfl
theorem vBin_shr_u32_1 {x : BitVec 32} {k : IntKind} : vBin .shr (u32 x) (.int k 1) = some (u32 (x >>> 1)) := vBin_shr_u32 (n := 1)
end Go.AM
namespace Go.AM
open Go.RowKit
variable {fid : String → Option FuncId}
theorem view_nil {h esz} (he : 0 < esz) : View h (.v (.slice none 0 0)) esz 0 [] := ⟨rfl, rfl, by simp, trivial, trivial, he⟩
theorem view_ro {h nl esz len cells} (he : 0 < esz) (hl : cells.length = len * esz) : View h (.ro nl esz len cells) esz len cells := ⟨rfl, rfl, hl, rfl, trivial, he⟩
end Go.AM
namespace Go.AM
open Go.RowKit
variable {fid : String → Option FuncId}
end Go.AM
namespace Go.AM
open Go.RowKit
def dBlk (cells : List AV) (opn virt : Bool) : Blk := { cells, opn, wr := true, data := true, virt }
theorem dBlk_cells {c o v} : (dBlk c o v).cells = c := rfl
theorem newBlk_data {cells : List AV} (h : AV.lf.lfs cells = true) : newBlk cells = dBlk cells false false := by simp [newBlk, dBlk, h]
theorem virtBlk_eq : virtBlk = dBlk [] true true := rfl
theorem bytes_lfs {bs : List UInt8} : AV.lf.lfs (bs.map byteAV) = true := by
  rw [lfs_iff]; intro x hx; obtain ⟨b, _, rfl⟩ := List.mem_map.1 hx; rfl
theorem vals_lfs {vs : List Value} : AV.lf.lfs (vs.map AV.v) = true := by
  rw [lfs_iff]; intro x hx; obtain ⟨b, _, rfl⟩ := List.mem_map.1 hx; rfl
variable {prog : String → Option IFn} {k : List Kf} {s : St} {Q : Out → St → Prop}
theorem WC_count {clr fre a} (E : Nat → St) (n : Nat) (h0 : clear s clr fre = some (E 0))
    (hs : ∀ i, i < n → WC prog a [] (E i) fun o s' => if o = .normal then clear s' clr fre = some (E (i + 1)) else WK prog k o s' Q)
    (he : WC prog a [] (E n) fun o s' => o ≠ .normal ∧ WK prog k o s' Q) : WC prog (.loop clr fre a) k s Q := by
  refine WC_loop (Inv := fun m st => ∃ i, i ≤ n ∧ m = n - i ∧ st = E i) n ⟨_, h0, 0, Nat.zero_le _, rfl, rfl⟩ ?_
  rintro m st ⟨i, hi, rfl, rfl⟩
  by_cases hlt : i < n
  · obtain ⟨o, s', he, h⟩ := hs i hlt
    refine ⟨o, s', he, ?_⟩
    simp only [WK] at h ⊢
    split
    · rename_i ho
      rw [if_pos ho] at h
      exact ⟨_, n - (i + 1), h, by omega, i + 1, by omega, rfl, rfl⟩
    · rename_i ho
      rwa [if_neg ho] at h
  · obtain rfl : i = n := by omega
    obtain ⟨o, s', he, h⟩ := he
    refine ⟨o, s', he, ?_⟩
    simp only [WK] at h ⊢
    rw [if_neg h.1]
    exact h.2
theorem WC_countP {clr fre a} (P : Nat → Prop) (E : Nat → St) (n : Nat) (h0 : clear s clr fre = some (E 0)) (p0 : P 0)
    (hs : ∀ i, i < n → P i → WC prog a [] (E i) fun o s' => if o = .normal then clear s' clr fre = some (E (i + 1)) ∧ P (i + 1) else WK prog k o s' Q)
    (he : P n → WC prog a [] (E n) fun o s' => o ≠ .normal ∧ WK prog k o s' Q) : WC prog (.loop clr fre a) k s Q := by
  refine WC_loop (Inv := fun m st => ∃ i, i ≤ n ∧ P i ∧ m = n - i ∧ st = E i) n ⟨_, h0, 0, Nat.zero_le _, p0, rfl, rfl⟩ ?_
  rintro m st ⟨i, hi, hp, rfl, rfl⟩
  by_cases hlt : i < n
  · obtain ⟨o, s', he, h⟩ := hs i hlt hp
    refine ⟨o, s', he, ?_⟩
    simp only [WK] at h ⊢
    split
    · rename_i ho
      rw [if_pos ho] at h
      exact ⟨_, n - (i + 1), h.1, by omega, i + 1, by omega, h.2, rfl, rfl⟩
    · rename_i ho
      rwa [if_neg ho] at h
  · obtain rfl : i = n := by omega
    obtain ⟨o, s', he, h⟩ := he hp
    refine ⟨o, s', he, ?_⟩
    simp only [WK] at h ⊢
    rw [if_neg h.1]
    exact h.2
def WDG (prog : String → Option IFn) (g : Option Bool) (i : IOp) (l : List IOp) (k : List Kf) (s : St) (Q : Out → St → Prop) : Prop :=
  (g = some false ∧ WD prog l k (s.put i.dst (.v undef)) Q) ∨
  (g = some true ∧ ∃ a h', (∀ X, okX s.h.G.length X → Ev prog (.op i.p (i.xs.map (evalO s.env)) (s.h.over i.u X)) (.val a (h'.over i.u X))) ∧
    okAt s.h.G.length (i.u ++ i.turns) s.h.L = true ∧ (i.loud = true ∨ (Quiet i.turns s.h h' ∧ okAt s.h.G.length i.turns h'.L = true)) ∧
    (∀ k ∈ i.u, h'.L[k]? = s.h.L[k]?) ∧ WD prog l k (({ s with h := h' } : St).put i.dst a) Q)
def WDP (prog : String → Option IFn) (p : Prim) (xs : List AV) (u m : List Nat) (loud : Bool) (dst : Option Nat) (l : List IOp) (k : List Kf) (s : St) (Q : Out → St → Prop) : Prop :=
  ∃ a h', (∀ X, okX s.h.G.length X → Ev prog (.op p xs (s.h.over u X)) (.val a (h'.over u X))) ∧
    okAt s.h.G.length (u ++ (p.sites ++ m)) s.h.L = true ∧ (loud = true ∨ (Quiet (p.sites ++ m) s.h h' ∧ okAt s.h.G.length (p.sites ++ m) h'.L = true)) ∧
    (∀ k ∈ u, h'.L[k]? = s.h.L[k]?) ∧ WD prog l k (({ s with h := h' } : St).put dst a) Q
def WDR (prog : String → Option IFn) (r : Option (AV × Hp)) (dst : Option Nat) (l : List IOp) (k : List Kf) (s : St) (Q : Out → St → Prop) : Prop :=
  ∃ a, r = some (a, s.h) ∧ WD prog l k (s.put dst a) Q
theorem WD_nil : WD prog [] k s Q ↔ WK prog k .normal s Q :=
  ⟨fun ⟨s', he, h⟩ => by cases he; exact h, fun h => ⟨_, .drawNil, h⟩⟩
theorem WD_cons {i l} : WD prog (i :: l) k s Q ↔ WDG prog (s.guard i.guard) i l k s Q := by
  constructor
  · rintro ⟨s', he, h⟩
    cases he with
    | drawSkip hg h1 => exact .inl ⟨hg, _, h1, h⟩
    | drawCons hg ho hd hq hu h1 => exact .inr ⟨hg, _, _, ho, hd, hq, hu, _, h1, h⟩
  · rintro (⟨hg, s', h1, h⟩ | ⟨hg, a, h', ho, hd, hq, hu, s', h1, h⟩)
    · exact ⟨_, .drawSkip hg h1, h⟩
    · exact ⟨_, .drawCons hg ho hd hq hu h1, h⟩
theorem WDG_false {i l} : WDG prog (some false) i l k s Q ↔ WD prog l k (s.put i.dst (.v undef)) Q := by simp [WDG]
theorem WDG_true {i l} : WDG prog (some true) i l k s Q ↔ WDP prog i.p (i.xs.map (evalO s.env)) i.u i.m i.loud i.dst l k s Q := by simp [WDG, WDP, IOp.turns]
theorem over_nil {h : Hp} {X} : h.over [] X = h := rfl
theorem okX_none {g} : okX g fun _ => none := fun k B h => by cases h
theorem ev_op_prim {p : Prim} (hp : ∀ f sites, p ≠ .call f sites) (hp2 : ∀ sites, p ≠ .callV sites) {xs h a h'} (hp3 : ∀ f sites, p ≠ .callIn f sites := by simp) :
    Ev prog (.op p xs h) (.val a h') ↔ prim h p xs = some (a, h') := by
  constructor
  · intro he
    rcases ev_call_inv he with h1 | ⟨f, ss, rfl⟩ | ⟨ss, rfl⟩ | ⟨f, ss, rfl⟩
    · exact h1
    · exact absurd rfl (hp _ _)
    · exact absurd rfl (hp2 _)
    · exact absurd rfl (hp3 _ _)
  · exact .prim
theorem WDP_quiet {p : Prim} (hp : ∀ f sites, p ≠ .call f sites) (hp2 : ∀ sites, p ≠ .callV sites) (hs : p.sites = []) {xs ld dst l} {a : AV} (hr : prim s.h p xs = some (a, s.h)) (hp3 : ∀ f sites, p ≠ .callIn f sites := by simp) :
    WDP prog p xs [] [] ld dst l k s Q ↔ WD prog l k (s.put dst a) Q := by
  constructor
  · rintro ⟨b, h', ho, _, _, _, h⟩
    have := (ev_op_prim hp hp2 hp3).1 (ho _ okX_none)
    rw [over_nil, over_nil, hr] at this
    cases this
    exact h
  · intro h
    refine ⟨a, s.h, fun X _ => (ev_op_prim hp hp2 hp3).2 hr, ?_, .inr ⟨?_, ?_⟩, by simp, h⟩ <;> simp [hs, okAt, Quiet, Hp.over, AM.over]
theorem WDP_free {p : Prim} (hf : p.free = true) {xs ld dst l} : WDP prog p xs [] [] ld dst l k s Q ↔ WDR prog (prim s.h p xs) dst l k s Q := by
  have h1 : ∀ f sites, p ≠ .call f sites := by intro f ss e; subst e; cases hf
  have h2 : ∀ sites, p ≠ .callV sites := by intro ss e; subst e; cases hf
  have h3 : p.sites = [] := by cases p <;> first | rfl | cases hf
  have h4 : ∀ f sites, p ≠ .callIn f sites := by intro f ss e; subst e; cases hf
  constructor
  · rintro ⟨b, h', ho, _, _, _, h⟩
    have := (ev_op_prim h1 h2 h4).1 (ho _ okX_none)
    rw [over_nil, over_nil] at this
    obtain ⟨rfl, _⟩ := free_prim hf this
    exact ⟨b, this, h⟩
  · rintro ⟨a, hr, h⟩
    exact (WDP_quiet h1 h2 h3 hr h4).2 h
theorem WDP_id { ld dst l} {xs : List AV} : WDP prog (.id ) xs [] [] ld dst l k s Q ↔ WDR prog (prim s.h (.id ) xs) dst l k s Q := WDP_free rfl
theorem WDP_pick { ld dst l} {xs : List AV} : WDP prog (.pick ) xs [] [] ld dst l k s Q ↔ WDR prog (prim s.h (.pick ) xs) dst l k s Q := WDP_free rfl
theorem WDP_build {z ps ld dst l} {xs : List AV} : WDP prog (.build z ps) xs [] [] ld dst l k s Q ↔ WDR prog (prim s.h (.build z ps) xs) dst l k s Q := WDP_free rfl
theorem WDP_bin {op ld dst l} {xs : List AV} : WDP prog (.bin op) xs [] [] ld dst l k s Q ↔ WDR prog (prim s.h (.bin op) xs) dst l k s Q := WDP_free rfl
theorem WDP_un {op ld dst l} {xs : List AV} : WDP prog (.un op) xs [] [] ld dst l k s Q ↔ WDR prog (prim s.h (.un op) xs) dst l k s Q := WDP_free rfl
theorem WDP_convInt {k2 ld dst l} {xs : List AV} : WDP prog (.convInt k2) xs [] [] ld dst l k s Q ↔ WDR prog (prim s.h (.convInt k2) xs) dst l k s Q := WDP_free rfl
theorem WDP_strStr { ld dst l} {xs : List AV} : WDP prog (.strStr ) xs [] [] ld dst l k s Q ↔ WDR prog (prim s.h (.strStr ) xs) dst l k s Q := WDP_free rfl
theorem WDP_makeFunc {f n ld dst l} {xs : List AV} : WDP prog (.makeFunc f n) xs [] [] ld dst l k s Q ↔ WDR prog (prim s.h (.makeFunc f n) xs) dst l k s Q := WDP_free rfl
theorem WDP_sliceStr {lo hi ld dst l} {xs : List AV} : WDP prog (.sliceStr lo hi) xs [] [] ld dst l k s Q ↔ WDR prog (prim s.h (.sliceStr lo hi) xs) dst l k s Q := WDP_free rfl
theorem WDP_eq {neg ls ld dst l} {xs : List AV} : WDP prog (.eq neg ls) xs [] [] ld dst l k s Q ↔ WDR prog (prim s.h (.eq neg ls) xs) dst l k s Q := WDP_free rfl
theorem WDP_eqBool {neg ld dst l} {xs : List AV} : WDP prog (.eqBool neg) xs [] [] ld dst l k s Q ↔ WDR prog (prim s.h (.eqBool neg) xs) dst l k s Q := WDP_free rfl
theorem WDP_field {o sz agg ld dst l} {xs : List AV} : WDP prog (.field o sz agg) xs [] [] ld dst l k s Q ↔ WDR prog (prim s.h (.field o sz agg) xs) dst l k s Q := WDP_free rfl
theorem WDP_indexStr { ld dst l} {xs : List AV} : WDP prog (.indexStr ) xs [] [] ld dst l k s Q ↔ WDR prog (prim s.h (.indexStr ) xs) dst l k s Q := WDP_free rfl
theorem WDP_indexAgg {n esz agg ld dst l} {xs : List AV} : WDP prog (.indexAgg n esz agg) xs [] [] ld dst l k s Q ↔ WDR prog (prim s.h (.indexAgg n esz agg) xs) dst l k s Q := WDP_free rfl
theorem WDP_extract {i ld dst l} {xs : List AV} : WDP prog (.extract i) xs [] [] ld dst l k s Q ↔ WDR prog (prim s.h (.extract i) xs) dst l k s Q := WDP_free rfl
theorem WDP_lenStr { ld dst l} {xs : List AV} : WDP prog (.lenStr ) xs [] [] ld dst l k s Q ↔ WDR prog (prim s.h (.lenStr ) xs) dst l k s Q := WDP_free rfl
theorem WDP_lenSlice { ld dst l} {xs : List AV} : WDP prog (.lenSlice ) xs [] [] ld dst l k s Q ↔ WDR prog (prim s.h (.lenSlice ) xs) dst l k s Q := WDP_free rfl
theorem WDP_lenArr {n ld dst l} {xs : List AV} : WDP prog (.lenArr n) xs [] [] ld dst l k s Q ↔ WDR prog (prim s.h (.lenArr n) xs) dst l k s Q := WDP_free rfl
theorem WDP_cap { ld dst l} {xs : List AV} : WDP prog (.cap ) xs [] [] ld dst l k s Q ↔ WDR prog (prim s.h (.cap ) xs) dst l k s Q := WDP_free rfl
theorem WDP_min { ld dst l} {xs : List AV} : WDP prog (.min ) xs [] [] ld dst l k s Q ↔ WDR prog (prim s.h (.min ) xs) dst l k s Q := WDP_free rfl
theorem WDP_max { ld dst l} {xs : List AV} : WDP prog (.max ) xs [] [] ld dst l k s Q ↔ WDR prog (prim s.h (.max ) xs) dst l k s Q := WDP_free rfl
theorem WDP_nilCheck { ld dst l} {xs : List AV} : WDP prog (.nilCheck ) xs [] [] ld dst l k s Q ↔ WDR prog (prim s.h (.nilCheck ) xs) dst l k s Q := WDP_free rfl
theorem WDP_slice {esz lo hi mx ld dst l} {xs : List AV} : WDP prog (.slice esz lo hi mx) xs [] [] ld dst l k s Q ↔ WDR prog (prim s.h (.slice esz lo hi mx) xs) dst l k s Q := WDP_free rfl
theorem WDP_sliceArr {n esz lo hi mx ld dst l} {xs : List AV} : WDP prog (.sliceArr n esz lo hi mx) xs [] [] ld dst l k s Q ↔ WDR prog (prim s.h (.sliceArr n esz lo hi mx) xs) dst l k s Q := WDP_free rfl
theorem WDP_fieldAddr {off ld dst l} {xs : List AV} : WDP prog (.fieldAddr off) xs [] [] ld dst l k s Q ↔ WDR prog (prim s.h (.fieldAddr off) xs) dst l k s Q := WDP_free rfl
theorem WDP_indexAddr {esz ld dst l} {xs : List AV} : WDP prog (.indexAddr esz) xs [] [] ld dst l k s Q ↔ WDR prog (prim s.h (.indexAddr esz) xs) dst l k s Q := WDP_free rfl
theorem WDP_indexArr {n esz ld dst l} {xs : List AV} : WDP prog (.indexArr n esz) xs [] [] ld dst l k s Q ↔ WDR prog (prim s.h (.indexArr n esz) xs) dst l k s Q := WDP_free rfl
theorem load_same {h h' : Hp} {sz agg xs} {a : AV} (hp : prim h (.load sz agg) xs = some (a, h')) : h' = h := by
  simp only [prim] at hp
  split at hp
  · split at hp
    · split at hp
      · cases hw : whole agg (List.take sz (List.drop _ _)) <;> rw [hw] at hp <;> cases hp; rfl
      · cases hp
    · cases hp
  · split at hp
    · cases hw : whole agg (List.take sz _) <;> rw [hw] at hp <;> cases hp; rfl
    · cases hp
  · cases hp
theorem WDP_load {sz agg xs ld dst l} : WDP prog (.load sz agg) xs [] [] ld dst l k s Q ↔ WDR prog (prim s.h (.load sz agg) xs) dst l k s Q := by
  constructor
  · rintro ⟨b, h', ho, _, _, _, h⟩
    have := (ev_op_prim (by simp) (by simp)).1 (ho _ okX_none)
    rw [over_nil, over_nil] at this
    obtain rfl := load_same this
    exact ⟨b, this, h⟩
  · rintro ⟨a, hr, h⟩
    exact (WDP_quiet (by simp) (by simp) rfl hr).2 h
theorem WDR_some {a : AV} {h : Hp} {e : List AV} {dst l} : WDR prog (some (a, h)) dst l k ⟨e, h⟩ Q ↔ WD prog l k ((⟨e, h⟩ : St).put dst a) Q := by simp [WDR]
theorem WDP_any {p : Prim} (hs : p.sites = []) {xs u ld dst l} {a : AV} (hr : ∀ X, okX s.h.G.length X → prim (s.h.over u X) p xs = some (a, s.h.over u X))
    (hd : okAt s.h.G.length u s.h.L = true) (h : WD prog l k (s.put dst a) Q) : WDP prog p xs u [] ld dst l k s Q := by
  refine ⟨a, s.h, fun X hX => .prim (hr X hX), ?_, .inr ⟨?_, ?_⟩, fun _ _ => rfl, h⟩ <;> simp [hs, okAt, Quiet, Hp.over, AM.over]
  simpa [okAt] using hd
theorem okBlks_iff : ∀ {L : List (Option Blk)} {n : Nat}, okBlks n L = true ↔ ∀ (k : Nat) (B : Blk), L[k]? = some (some B) → B.labs.all (intoLt (n + k)) = true
  | [], n => by simp [okBlks]
  | some B :: Bs, n => by
    simp only [okBlks, Bool.and_eq_true]
    rw [okBlks_iff]
    constructor
    · rintro ⟨h1, h2⟩ k C hk
      cases k with
      | zero => cases hk; exact h1
      | succ k => have := h2 k C hk; rwa [show n + 1 + k = n + (k + 1) by omega] at this
    · intro h
      refine ⟨h 0 B rfl, fun k C hk => ?_⟩
      have := h (k + 1) C hk
      rwa [show n + (k + 1) = n + 1 + k by omega] at this
  | none :: Bs, n => by
    simp only [okBlks]
    rw [okBlks_iff]
    constructor
    · rintro h2 k C hk
      cases k with
      | zero => cases hk
      | succ k => have := h2 k C hk; rwa [show n + 1 + k = n + (k + 1) by omega] at this
    · intro h k C hk
      have := h (k + 1) C hk
      rwa [show n + (k + 1) = n + 1 + k by omega] at this
theorem all_imp {α : Type} {l : List α} {p q : α → Bool} (h : l.all p = true) (hi : ∀ a, p a = true → q a = true) : l.all q = true :=
  List.all_eq_true.2 fun a ha => hi a (List.all_eq_true.1 h a ha)
theorem okBlks_over {h : Hp} {u : List Nat} {X : Nat → Option Blk} {g} (h1 : okBlks 0 h.L = true) (hX : okX g X) : okBlks 0 (h.over u X).L = true := by
  rw [okBlks_iff] at h1 ⊢
  intro k B hk
  simp only [Hp.over, over_get] at hk
  split at hk
  · rw [Option.some.injEq] at hk
    refine all_imp (hX k B hk) fun ℓ hl => ?_
    cases ℓ with
    | l j => simp only [refLt, decide_eq_true_eq] at hl; simp only [intoLt, decide_eq_true_eq]; omega
    | o p => rfl
  · exact h1 k B hk
theorem refsOK_iff {h : Hp} : refsOK h = true ↔ ∀ (k : Nat) (B : Blk), h.L[k]? = some (some B) → B.labs.all (refOK h.G.length h.L.length) = true := by
  unfold refsOK
  rw [List.all_eq_true]
  constructor
  · intro h1 k B hk
    exact h1 _ (List.mem_of_getElem? hk)
  · intro h1 B hB
    cases B with
    | none => rfl
    | some B => obtain ⟨k, hk⟩ := List.getElem?_of_mem hB; exact h1 k B hk
theorem back_into0 {h h' : Hp} {sites : List Nat} {Bs : List (Option Blk)} {r : AV} (hG : h'.G.length = h.G.length) (hL : h'.L.length = h.L.length) (hr : refsOK h' = true)
    (hl : Bs.length = sites.length) (hn : sites.Nodup) (hf : sites.all (free h.L) = true) (hf' : sites.all (free h'.L) = true) :
    h.back0 sites (h'.into ++ Bs) r = some (r.ren (down h.G.length h.L.length sites),
      ⟨h'.G, putAll h'.L sites (Bs.map (Option.map (Blk.ren (down h.G.length h.L.length sites))))⟩) := by
  have hlen : h'.into.length = h.G.length + h.L.length := by simp [Hp.into, hG, hL]
  unfold Hp.back0
  have hfr : sites.all (fun k => free (h'.into ++ Bs) (h.G.length + k)) = true := by
    rw [List.all_eq_true] at hf' ⊢
    intro k hk
    have hk1 := hf' k hk
    unfold free at hk1 ⊢
    have hlt : k < h'.L.length := by
      by_cases hp : k < h'.L.length
      · exact hp
      · rw [List.getElem?_eq_none (by omega)] at hk1; simp at hk1
    rw [List.getElem?_append_left (by rw [hlen]; omega)]
    have : h'.into[h.G.length + k]? = (h'.L[k]?).map (Option.map (Blk.ren (up h'.G.length))) := by
      unfold Hp.into
      rw [List.getElem?_append_right (by omega), List.getElem?_map]
      congr 2; omega
    rw [this]
    revert hk1
    rw [List.getElem?_eq_getElem hlt]
    simp only [Option.map_some]
    cases h'.L[k] <;> simp
  simp only
  rw [if_pos ⟨by rw [List.length_append, hlen, hl], hn, hf, hfr⟩]
  congr 2
  have e1 : (h'.into ++ Bs).take h.G.length = h'.G := by
    rw [List.take_append_of_le_length (by rw [hlen]; omega)]; simp [Hp.into, ← hG]
  have e2 : ((h'.into ++ Bs).drop h.G.length).take h.L.length = h'.L.map (Option.map (Blk.ren (up h'.G.length))) := by
    rw [List.drop_append_of_le_length (by rw [hlen]; omega), List.take_append_of_le_length (by rw [List.length_drop, hlen]; omega)]
    simp only [Hp.into, ← hG, ← hL, List.drop_left]
    exact List.take_of_length_le (by simp)
  have e3 : (h'.into ++ Bs).drop (h.G.length + h.L.length) = Bs := by
    rw [← hlen]; simp
  rw [e1, e2, e3]
  have e4 : (h'.L.map (Option.map (Blk.ren (up h'.G.length)))).map (Option.map (Blk.ren (down h.G.length h.L.length sites))) = h'.L := by
    rw [List.map_map]
    conv => rhs; rw [← List.map_id h'.L]
    refine List.map_congr_left fun B hB => ?_
    cases B with
    | none => rfl
    | some B =>
      have := List.all_eq_true.1 hr _ hB
      simp only [Function.comp, Option.map_some, id_eq, Option.some.injEq]
      rw [hG] at this ⊢
      rw [hL] at this
      exact blkren_back this
  rw [e4]
theorem back_into {h h' : Hp} {sites : List Nat} {Bs : List (Option Blk)} {r : AV} (hG : h'.G.length = h.G.length) (hL : h'.L.length = h.L.length) (hr : refsOK h' = true)
    (hl : Bs.length ≤ sites.length) (hn : sites.Nodup) (hf : sites.all (free h.L) = true) (hf' : sites.all (free h'.L) = true) :
    h.back sites (h'.into ++ Bs) r = some (r.ren (down h.G.length h.L.length sites),
      ⟨h'.G, putAll h'.L sites ((padTo sites.length Bs).map (Option.map (Blk.ren (down h.G.length h.L.length sites))))⟩) := by
  have hlen : h'.into.length = h.G.length + h.L.length := by simp [Hp.into, hG, hL]
  unfold Hp.back
  rw [if_pos (by rw [List.length_append]; omega)]
  have e : padTo (h.G.length + h.L.length + sites.length) (h'.into ++ Bs) = h'.into ++ padTo sites.length Bs := by
    unfold padTo
    rw [List.append_assoc, List.length_append, hlen, Nat.add_sub_add_left]
  rw [e]
  exact back_into0 hG hL hr (by simp [padTo]; omega) hn hf hf'
theorem View.over {h : Hp} {a : AV} {esz len cells} (v : View h a esz len cells) {u X} (ho : ∀ j ∈ u, ∀ n off e c, a ≠ .own (.l j) n off len e c) : View (h.over u X) a esz len cells := by
  obtain ⟨h1, h2, h3, h4, h5, h6⟩ := v
  refine ⟨h1, ?_, h3, h4, h5, h6⟩
  cases a with
  | own ℓ n off l e c =>
    simp only [lenOf, Option.some.injEq] at h1
    subst h1
    cases ℓ with
    | l j =>
      simp only [Hp.sees] at h2 ⊢
      have : (h.over u X).get (.l j) = h.get (.l j) := by
        simp only [Hp.get, Hp.over, over_get]
        rw [if_neg fun hc => ho j hc.1 n off e c rfl]
      rw [this]; exact h2
    | o p => exact h2
  | v x =>
    rw [← h2]
    simp only [Hp.sees]
    split <;> simp_all
  | _ => exact h2
def umod (c : Int) (n : Nat) : Nat := (c % 18446744073709551616).toNat % n
theorem umod_lt {c : Int} {n : Nat} (h : 0 < n) : umod c n < n := Nat.mod_lt _ h
theorem vRem_u64 {c z : Int} (n : Nat) (hz : z = n) (h0 : 0 < n) (h1 : n < 9223372036854775808) :
    vBin .rem (.int .u64 (IntKind.u64.wrap c)) (.int .u64 (IntKind.u64.wrap z)) = some (.int .u64 (umod c n : Nat)) := by
  subst hz
  have e : IntKind.u64.wrap (n : Int) = n := by rw [IntKind.wrap_u64]; omega
  have e2 : IntKind.u64.wrap c = (((c % 18446744073709551616).toNat : Nat) : Int) := by rw [IntKind.wrap_u64]; omega
  rw [e, e2]
  simp only [vBin, ne_eq, not_true_eq_false, if_false]
  rw [if_neg (by omega)]
  congr 2
theorem wrap_i64_nat {n : Nat} (h : n < 9223372036854775808) : IntKind.i64.wrap (n : Int) = n := wrap_i64_of (by omega) (by omega)
def u8 (b : UInt8) : Value := .int .u8 (b.toNat : Int)
theorem ofInt_u8 (b : UInt8) : BitVec.ofInt 8 (b.toNat : Int) = b.toBitVec := by
  apply BitVec.eq_of_toNat_eq
  rw [BitVec.toNat_ofInt]
  have := b.toNat_lt
  show _ = b.toNat
  omega
theorem wrap_u8_toNat (b : UInt8) : IntKind.u8.wrap (b.toNat : Int) = b.toNat := by
  rw [IntKind.wrap_u8]; have := b.toNat_lt; omega
theorem vBin_xor_u8 {a b : UInt8} : vBin .xor (u8 a) (u8 b) = some (u8 (a ^^^ b)) := by
  show some (Value.int .u8 (IntKind.u8.wrap ((BitVec.ofInt 8 (a.toNat : Int) ^^^ BitVec.ofInt 8 (b.toNat : Int)).toNat : Int))) = _
  rw [ofInt_u8, ofInt_u8, show (a.toBitVec ^^^ b.toBitVec).toNat = (a ^^^ b).toNat from rfl, wrap_u8_toNat]; rfl
theorem vBin_and_u8 {a b : UInt8} : vBin .and (u8 a) (u8 b) = some (u8 (a &&& b)) := by
  show some (Value.int .u8 (IntKind.u8.wrap ((BitVec.ofInt 8 (a.toNat : Int) &&& BitVec.ofInt 8 (b.toNat : Int)).toNat : Int))) = _
  rw [ofInt_u8, ofInt_u8, show (a.toBitVec &&& b.toBitVec).toNat = (a &&& b).toNat from rfl, wrap_u8_toNat]; rfl
theorem vBin_or_u8 {a b : UInt8} : vBin .or (u8 a) (u8 b) = some (u8 (a ||| b)) := by
  show some (Value.int .u8 (IntKind.u8.wrap ((BitVec.ofInt 8 (a.toNat : Int) ||| BitVec.ofInt 8 (b.toNat : Int)).toNat : Int))) = _
  rw [ofInt_u8, ofInt_u8, show (a.toBitVec ||| b.toBitVec).toNat = (a ||| b).toNat from rfl, wrap_u8_toNat]; rfl
theorem vBin_eql_u8 {a b : UInt8} : vBin .eql (u8 a) (u8 b) = some (.bool (a == b)) := by
  simp only [u8, vBin, ne_eq, not_true_eq_false, if_false, Option.some.injEq, Value.bool.injEq]
  rw [Bool.eq_iff_iff]
  simp only [beq_iff_eq]
  constructor
  · intro h; exact UInt8.toNat_inj.1 (by omega)
  · rintro rfl; rfl
theorem lay_one {cs : List AV} {off : Nat} {x : AV} (h : off < cs.length) : lay cs off [x] = cs.set off x := by
  unfold lay
  rw [List.set_eq_take_append_cons_drop, if_pos h]; simp
theorem own_view1 {G L} {j len : Nat} {cells : List AV} {o v : Bool} {cap} (hL : L[j]? = some (some (dBlk cells o v))) (hl : cells.length = len) (hc : ∀ c, cap = some c → len ≤ c) :
    View ⟨G, L⟩ (.own (.l j) len 0 len 1 cap) 1 len cells := by
  refine ⟨rfl, ?_, by omega, rfl, ?_, by omega⟩
  · simp only [Hp.sees, Hp.get, hL, Option.join_some, dBlk_cells, hl, if_true, List.drop_zero]
    rw [List.take_of_length_le (by omega)]
  · cases cap with
    | none => trivial
    | some c => exact hc c rfl
theorem append_own {G L} {site j esz bytes len k : Nat} {x : AV} {cells new : List AV} {v : Bool} (hL : L[j]? = some (some (dBlk cells true v))) (hl : cells.length = len * esz) (hv : View ⟨G, L⟩ x esz k new) (hd : AV.lf.lfs new = true)
    (h0 : 0 < k) (hr : (len + k) * bytes ≤ room) :
    prim ⟨G, L⟩ (.append site false esz bytes) [.own (.l j) (len * esz) 0 len esz none, x] = some (.own (.l j) ((len + k) * esz) 0 (len + k) esz none, ⟨G, L.set j (some (dBlk (cells ++ new) true false))⟩) := by
  simp only [prim, hv.source, Option.bind_some, Hp.mayFreeze, Bool.false_eq_true, if_false, Hp.append, hv.hclen, if_true, Hp.get, hL, Option.join_some, dBlk_cells]
  have hp := hv.hpos
  have hm : len * esz < (len + k) * esz := Nat.mul_lt_mul_of_pos_right (by omega) hp
  refine (if_pos ⟨hl, trivial, hr, rfl⟩).trans ?_
  rw [if_neg (by omega), if_neg (by simp [dBlk]), if_neg (by omega)]
  refine (if_pos ⟨trivial, rfl⟩).trans ?_
  rw [List.take_of_length_le (by omega)]
  simp only [dBlk, hd, Bool.and_true, Hp.put]
theorem append_one {G L} {site j bytes len m k : Nat} {x : AV} {cells : List AV} {v o2 v2 : Bool} (hL : L[j]? = some (some (dBlk cells true v))) (hl : cells.length = len) (hm : L[m]? = some (some (dBlk [x] o2 v2))) (hd : x.lf = true)
    (hr : (len + 1) * bytes ≤ room) :
    prim ⟨G, L⟩ (.append site false 1 bytes) [.own (.l j) len 0 len 1 none, .own (.l m) 1 0 1 1 (some 1)] = some (.own (.l j) (len + 1) 0 (len + 1) 1 none, ⟨G, L.set j (some (dBlk (cells ++ [x]) true false))⟩) := by
  have hv : View ⟨G, L⟩ (.own (.l m) 1 0 1 1 (some 1)) 1 1 [x] := own_view1 hm rfl (by simp)
  have := append_own (site := site) (bytes := bytes) hL (by rw [hl, Nat.mul_one]) hv (by simp [AV.lf.lfs, hd]) (by omega) hr
  rwa [Nat.mul_one, Nat.mul_one] at this
theorem fills_row {z : AV} : ∀ (xs : List AV) (k : Nat) (cells : List AV), (∀ x ∈ xs, x.cellsOf = some [x]) → cells.length = k + xs.length →
    fills ((List.range' k xs.length).map fun i => (i, 1)) cells xs = some (cells.take k ++ xs)
  | [], k, cells, _, hl => by
    rw [List.take_of_length_le (by simp at hl; omega)]; simp [fills]
  | x :: xs, k, cells, hx, hl => by
    simp only [List.length_cons] at hl
    simp only [List.length_cons, List.range'_succ, List.map_cons, fills, hx x (by simp), List.length_nil]
    rw [if_pos ⟨trivial, by omega⟩, lay_one (by omega), fills_row (z := z) xs (k + 1) _ (fun y hy => hx y (by simp [hy])) (by rw [List.length_set]; omega)]
    congr 1
    rw [List.take_add_one, List.getElem?_set_self (by omega), List.take_set_of_le (by omega)]
    simp
theorem build1 {G L} {site n : Nat} {z : Value} {places : List (Nat × Nat)} {xs : List AV} (hL : L[site]? = some none) (hn : xs.length = n) (hp : places = (List.range' 0 n).map fun i => (i, 1))
    (hx : ∀ x ∈ xs, x.cellsOf = some [x]) (hd : AV.lf.lfs xs = true) :
    prim ⟨G, L⟩ (.buildSlice site false 1 n [z] places) xs = some (.own (.l site) n 0 n 1 (some n), ⟨G, L.set site (some (dBlk xs false false))⟩) := by
  subst hn hp
  rw [px_buildSlice]
  simp only [Hp.mayFreeze, Bool.false_eq_true, if_false, Option.bind_some, List.map_cons, List.map_nil]
  have e : (List.replicate xs.length [AV.v z]).flatten.length = 0 + xs.length := by simp
  rw [fills_row (z := .v z) xs 0 _ hx e]
  simp only [List.take_zero, List.nil_append, Option.bind_some]
  refine (if_pos (by omega)).trans ?_
  rw [newBlk_data hd]
  simp only [Hp.new, hL, Option.map_some, Nat.mul_one]
theorem cells_bytes {bs : List UInt8} : ∀ x ∈ bs.map byteAV, x.cellsOf = some [x] := by
  intro x hx; obtain ⟨b, _, rfl⟩ := List.mem_map.1 hx; rfl
theorem WR_eq {r : Option (AV × Hp)} {a : AV} {h' : Hp} {dst l} (hr : r = some (a, h')) : WR prog r dst l k s Q ↔ WO prog l k (({ s with h := h' } : St).put dst a) Q := by
  subst hr; exact WR_some
theorem vUn_not {b : Bool} : vUn .not (.bool b) = some (.bool !b) := rfl
theorem const_u8 {b : UInt8} : constAV (u8 b) = .v (u8 b) := rfl
theorem wrap_u8_nat {n : Nat} : Value.int .u8 (IntKind.u8.wrap (n : Int)) = u8 (UInt8.ofNat n) := by
  rw [u8, UInt8.toNat_ofNat', IntKind.wrap_u8]; rfl
theorem undef_tuple : undef = .tuple #[] := rfl
theorem WS : type_of% (
    And.intro @WK_nil (And.intro @WK_seq_normal (And.intro @WK_seq_ret (And.intro @WK_seq_exit (And.intro @WK_block_normal (And.intro @WK_block_ret (And.intro
    @WK_block_exit (And.intro @WC_skip (And.intro @WC_ret (And.intro @WC_exit (And.intro @WC_ops (And.intro @WC_seq (And.intro @WC_block (And.intro @WC_cond
    (And.intro @WCond_bool (And.intro @WO_nil (And.intro @WO_cons (And.intro @WG_false (And.intro @WG_true (And.intro @WP_prim (And.intro @WR_some (And.intro
    @const_int (And.intro @const_bool (And.intro @const_string (And.intro @const_slice (And.intro @const_ptr (And.intro @const_func (And.intro @const_agg
    (And.intro @const_u32 (And.intro @List.map_cons.{0,0} (And.intro @List.map_nil.{0,0} (And.intro @List.getD_cons_zero.{0} (And.intro @List.getD_cons_succ.{0}
    (And.intro @List.set_cons_zero.{0} (And.intro @List.set_cons_succ.{0} (And.intro @Option.map_some.{0,0} (And.intro @Option.bind_some.{0,0} (And.intro
    @ne_eq.{1} (And.intro @not_false_eq_true (And.intro @implies_true.{1} (And.intro @beq_self_eq_true.{0} (And.intro @BEq.rfl.{0} (And.intro @if_true.{1}
    (And.intro @if_false.{1} (And.intro @Bool.false_eq_true (And.intro @not_true_eq_false (And.intro @Option.some.injEq.{0} (And.intro @Bool.not_true (And.intro
    @Bool.not_false (And.intro @beq_true (And.intro @beq_false (And.intro @Bool.true_and (And.intro @Bool.and_true (And.intro @Bool.false_and (And.intro
    @Bool.and_false (And.intro @true_and (And.intro @List.getElem?_cons_zero.{0} (And.intro @List.getElem?_cons_succ.{0} (And.intro @List.length_cons.{0}
    (And.intro @List.length_nil.{0} (And.intro @px_id (And.intro @px_pick (And.intro @px_nilv (And.intro @px_load_rop (And.intro @px_nilCheck_ptr (And.intro
    @px_nilCheck_rop (And.intro @px_nilCheck_fn (And.intro @px_bin (And.intro @px_eq (And.intro @px_eqBool (And.intro @px_eqNil (And.intro @px_un (And.intro
    @px_convInt (And.intro @px_bytesStr (And.intro @px_bytesBytes (And.intro @px_strStr (And.intro @px_makeFunc (And.intro @px_sliceStr (And.intro
    @px_fieldAddr_ptr (And.intro @px_fieldAddr_rop (And.intro @px_field (And.intro @px_indexStr (And.intro @px_indexAgg (And.intro @px_extract (And.intro
    @px_lenStr (And.intro @px_lenSlice (And.intro @px_lenArr (And.intro @px_cap_own (And.intro @px_cap_nil (And.intro @px_min (And.intro @px_max (And.intro
    @lenOf_nil (And.intro @lenOf_ro (And.intro @lenOf_own (And.intro @natOf_nat (And.intro @vBin_xor_u32 (And.intro @vBin_and_u32 (And.intro @vUn_xor_u32
    (And.intro @vBin_shr_u32 (And.intro @vBin_shr_u32_1 (And.intro @vBin_eql_u32 (And.intro @vBin_lss (And.intro @vBin_leq (And.intro @vBin_gtr (And.intro
    @vBin_geq (And.intro @vBin_eql (And.intro @vBin_neq (And.intro @Int.cast_ofNat_Int (And.intro @Int.lt_irrefl (And.intro @vBin_xor_u8 (And.intro @vBin_and_u8
    (And.intro @vBin_or_u8 (And.intro @vBin_eql_u8 (And.intro @vUn_not (And.intro @undef_tuple (And.intro @const_u8 (And.intro @wrap_u8_nat (And.intro
    @Bool.bne_false (And.intro @Bool.bne_true (And.intro @WC_draw (And.intro @WD_nil (And.intro @WD_cons (And.intro @WDG_false (And.intro @WDG_true (And.intro
    @WDP_id (And.intro @WDP_pick (And.intro @WDP_build (And.intro @WDP_bin (And.intro @WDP_un (And.intro @WDP_convInt (And.intro @WDP_strStr (And.intro
    @WDP_makeFunc (And.intro @WDP_sliceStr (And.intro @WDP_eq (And.intro @WDP_eqBool (And.intro @WDP_field (And.intro @WDP_indexStr (And.intro @WDP_indexAgg
    (And.intro @WDP_extract (And.intro @WDP_lenStr (And.intro @WDP_lenSlice (And.intro @WDP_lenArr (And.intro @WDP_cap (And.intro @WDP_min (And.intro @WDP_max
    (And.intro @WDP_nilCheck (And.intro @WDP_slice (And.intro @WDP_sliceArr (And.intro @WDP_fieldAddr (And.intro @WDP_indexAddr (And.intro @WDP_indexArr
    (And.intro @WDP_load
    (And.intro @iP_eq (And.intro @iN_eq (And.intro @iG_eq (And.intro @kI_eq @WDR_some)))))))))))))))))))))))))))))))))))))))))))))))))))))))))))))))))))))))))))))))))))))))))))))))))))))))))))))))))))))))))))))))))))))))))))))))))))))))))))) :=
    And.intro @WK_nil (And.intro @WK_seq_normal (And.intro @WK_seq_ret (And.intro @WK_seq_exit (And.intro @WK_block_normal (And.intro @WK_block_ret (And.intro
    @WK_block_exit (And.intro @WC_skip (And.intro @WC_ret (And.intro @WC_exit (And.intro @WC_ops (And.intro @WC_seq (And.intro @WC_block (And.intro @WC_cond
    (And.intro @WCond_bool (And.intro @WO_nil (And.intro @WO_cons (And.intro @WG_false (And.intro @WG_true (And.intro @WP_prim (And.intro @WR_some (And.intro
    @const_int (And.intro @const_bool (And.intro @const_string (And.intro @const_slice (And.intro @const_ptr (And.intro @const_func (And.intro @const_agg
    (And.intro @const_u32 (And.intro @List.map_cons.{0,0} (And.intro @List.map_nil.{0,0} (And.intro @List.getD_cons_zero.{0} (And.intro @List.getD_cons_succ.{0}
    (And.intro @List.set_cons_zero.{0} (And.intro @List.set_cons_succ.{0} (And.intro @Option.map_some.{0,0} (And.intro @Option.bind_some.{0,0} (And.intro
    @ne_eq.{1} (And.intro @not_false_eq_true (And.intro @implies_true.{1} (And.intro @beq_self_eq_true.{0} (And.intro @BEq.rfl.{0} (And.intro @if_true.{1}
    (And.intro @if_false.{1} (And.intro @Bool.false_eq_true (And.intro @not_true_eq_false (And.intro @Option.some.injEq.{0} (And.intro @Bool.not_true (And.intro
    @Bool.not_false (And.intro @beq_true (And.intro @beq_false (And.intro @Bool.true_and (And.intro @Bool.and_true (And.intro @Bool.false_and (And.intro
    @Bool.and_false (And.intro @true_and (And.intro @List.getElem?_cons_zero.{0} (And.intro @List.getElem?_cons_succ.{0} (And.intro @List.length_cons.{0}
    (And.intro @List.length_nil.{0} (And.intro @px_id (And.intro @px_pick (And.intro @px_nilv (And.intro @px_load_rop (And.intro @px_nilCheck_ptr (And.intro
    @px_nilCheck_rop (And.intro @px_nilCheck_fn (And.intro @px_bin (And.intro @px_eq (And.intro @px_eqBool (And.intro @px_eqNil (And.intro @px_un (And.intro
    @px_convInt (And.intro @px_bytesStr (And.intro @px_bytesBytes (And.intro @px_strStr (And.intro @px_makeFunc (And.intro @px_sliceStr (And.intro
    @px_fieldAddr_ptr (And.intro @px_fieldAddr_rop (And.intro @px_field (And.intro @px_indexStr (And.intro @px_indexAgg (And.intro @px_extract (And.intro
    @px_lenStr (And.intro @px_lenSlice (And.intro @px_lenArr (And.intro @px_cap_own (And.intro @px_cap_nil (And.intro @px_min (And.intro @px_max (And.intro
    @lenOf_nil (And.intro @lenOf_ro (And.intro @lenOf_own (And.intro @natOf_nat (And.intro @vBin_xor_u32 (And.intro @vBin_and_u32 (And.intro @vUn_xor_u32
    (And.intro @vBin_shr_u32 (And.intro @vBin_shr_u32_1 (And.intro @vBin_eql_u32 (And.intro @vBin_lss (And.intro @vBin_leq (And.intro @vBin_gtr (And.intro
    @vBin_geq (And.intro @vBin_eql (And.intro @vBin_neq (And.intro @Int.cast_ofNat_Int (And.intro @Int.lt_irrefl (And.intro @vBin_xor_u8 (And.intro @vBin_and_u8
    (And.intro @vBin_or_u8 (And.intro @vBin_eql_u8 (And.intro @vUn_not (And.intro @undef_tuple (And.intro @const_u8 (And.intro @wrap_u8_nat (And.intro
    @Bool.bne_false (And.intro @Bool.bne_true (And.intro @WC_draw (And.intro @WD_nil (And.intro @WD_cons (And.intro @WDG_false (And.intro @WDG_true (And.intro
    @WDP_id (And.intro @WDP_pick (And.intro @WDP_build (And.intro @WDP_bin (And.intro @WDP_un (And.intro @WDP_convInt (And.intro @WDP_strStr (And.intro
    @WDP_makeFunc (And.intro @WDP_sliceStr (And.intro @WDP_eq (And.intro @WDP_eqBool (And.intro @WDP_field (And.intro @WDP_indexStr (And.intro @WDP_indexAgg
    (And.intro @WDP_extract (And.intro @WDP_lenStr (And.intro @WDP_lenSlice (And.intro @WDP_lenArr (And.intro @WDP_cap (And.intro @WDP_min (And.intro @WDP_max
    (And.intro @WDP_nilCheck (And.intro @WDP_slice (And.intro @WDP_sliceArr (And.intro @WDP_fieldAddr (And.intro @WDP_indexAddr (And.intro @WDP_indexArr
    (And.intro @WDP_load
    (And.intro @iP_eq (And.intro @iN_eq (And.intro @iG_eq (And.intro @kI_eq @WDR_some)))))))))))))))))))))))))))))))))))))))))))))))))))))))))))))))))))))))))))))))))))))))))))))))))))))))))))))))))))))))))))))))))))))))))))))))))))))))))))
end Go.AM
namespace Go.AM
open Go.RowKit
def sBlk (cells : List AV) (d : Bool) : Blk := { cells, opn := false, wr := true, data := d, virt := false }
theorem newBlk_s {cells : List AV} : newBlk cells = sBlk cells (AV.lf.lfs cells) := rfl
theorem view_nil' {h esz} (he : 0 < esz) : View h (.v (.slice none 0 0)) esz 0 [] := ⟨rfl, rfl, by simp, trivial, trivial, he⟩
def goodL (g : Nat) : Nat → List (Option Blk) → Prop
  | _, [] => True
  | k, some B :: Bs => B.labs.all (refLt g k) = true ∧ goodL g (k + 1) Bs
  | k, none :: Bs => goodL g (k + 1) Bs
def Good (h : Hp) : Prop := goodL h.G.length 0 h.L
theorem goodL_iff : ∀ {L : List (Option Blk)} {g n : Nat}, goodL g n L ↔ ∀ (k : Nat) (B : Blk), L[k]? = some (some B) → B.labs.all (refLt g (n + k)) = true
  | [], g, n => by simp [goodL]
  | some B :: Bs, g, n => by
    simp only [goodL]
    rw [goodL_iff]
    constructor
    · rintro ⟨h1, h2⟩ k C hk
      cases k with
      | zero => cases hk; exact h1
      | succ k => have := h2 k C hk; rwa [show n + 1 + k = n + (k + 1) by omega] at this
    · intro h
      refine ⟨h 0 B rfl, fun k C hk => ?_⟩
      have := h (k + 1) C hk
      rwa [show n + (k + 1) = n + 1 + k by omega] at this
  | none :: Bs, g, n => by
    simp only [goodL]
    rw [goodL_iff]
    constructor
    · rintro h2 k C hk
      cases k with
      | zero => cases hk
      | succ k => have := h2 k C hk; rwa [show n + 1 + k = n + (k + 1) by omega] at this
    · intro h k C hk
      have := h (k + 1) C hk
      rwa [show n + (k + 1) = n + 1 + k by omega] at this
theorem Good.at {h : Hp} (hg : Good h) {k : Nat} {B : Blk} (hk : h.L[k]? = some (some B)) : B.labs.all (refLt h.G.length k) = true := by
  have := goodL_iff.1 hg k B hk; rwa [Nat.zero_add] at this
theorem Good.okBlks {h : Hp} (hg : Good h) : okBlks 0 h.L = true := by
  rw [okBlks_iff]
  intro k B hk
  refine all_imp (hg.at hk) fun ℓ hl => ?_
  cases ℓ with
  | l j => simpa [refLt, intoLt] using hl
  | o p => rfl
theorem lt_of_get {α : Type} {L : List α} {k : Nat} {x : α} (h : L[k]? = some x) : k < L.length := by
  by_cases hp : k < L.length
  · exact hp
  · rw [List.getElem?_eq_none (by omega)] at h; cases h
theorem Good.refsOK {h : Hp} (hg : Good h) : refsOK h = true := by
  rw [refsOK_iff]
  intro k B hk
  have hlt := lt_of_get hk
  refine all_imp (hg.at hk) fun ℓ hl => ?_
  cases ℓ with
  | l j => simp only [refLt, decide_eq_true_eq] at hl; simp only [refOK, decide_eq_true_eq]; omega
  | o p => exact hl
theorem Good.okAt {h : Hp} (hg : Good h) {u : List Nat} : okAt h.G.length u h.L = true := by
  unfold AM.okAt
  rw [List.all_eq_true]
  intro k _
  cases hk : h.L[k]? with
  | none => rfl
  | some B =>
    cases B with
    | none => rfl
    | some B => exact hg.at hk
theorem Good.over {h : Hp} (hg : Good h) {u X} (hX : okX h.G.length X) : Good (h.over u X) := by
  rw [Good, goodL_iff]
  intro k B hk
  rw [Nat.zero_add]
  simp only [Hp.over, over_get] at hk
  split at hk
  · rw [Option.some.injEq] at hk
    exact hX k B hk
  · exact hg.at hk
theorem sBlk_good {g k : Nat} {cells : List AV} {d : Bool} (h : (AV.labs.labss cells).all (refLt g k) = true) : (sBlk cells d).labs.all (refLt g k) = true := by
  cases d
  · exact h
  · rfl
theorem dBlk_good {g k : Nat} {cells : List AV} {o v : Bool} : (dBlk cells o v).labs.all (refLt g k) = true := rfl
def Outer (g : Nat) (a : AV) : Prop := a.labs.all (refLt g 0) = true
theorem Outer.lt {g k : Nat} {a : AV} (h : Outer g a) : a.labs.all (refLt g k) = true := by
  refine all_imp h fun ℓ hl => ?_
  cases ℓ with
  | l j => simp [refLt] at hl
  | o p => exact hl
theorem View.out {G : List (Option Blk)} {a : AV} {esz len cells} (v : View ⟨G, []⟩ a esz len cells) : Outer G.length a := by
  rcases v.cases with ⟨rfl, _⟩ | ⟨nl, rfl⟩ | ⟨ℓ, n, off, cap, B, rfl, hB, _⟩
  · rfl
  · rfl
  · cases ℓ with
    | l j => simp [Hp.get] at hB
    | o p =>
      simp only [Hp.get] at hB
      have : p < G.length := by
        by_cases hp : p < G.length
        · exact hp
        · rw [List.getElem?_eq_none (by omega)] at hB; cases hB
      simp [Outer, AV.labs, refLt, this]
def loadB (B : Option Blk) (sz : Nat) (agg : Bool) (n off : Nat) (h : Hp) : Option (AV × Hp) := match B with
  | some B => if B.cells.length = n ∧ off + sz ≤ n then (whole agg ((B.cells.drop off).take sz)).map fun a => (a, h) else none
  | none => none
theorem px_load_l {G L sz agg j n off} : prim ⟨G, L⟩ (.load sz agg) [.ptr (.l j) n off] = loadB (L[j]?).join sz agg n off ⟨G, L⟩ := by
  rw [px_load_ptr]; rfl
theorem px_load_o {G L sz agg p n off} : prim ⟨G, L⟩ (.load sz agg) [.ptr (.o p) n off] = loadB (G[p]?).join sz agg n off ⟨G, L⟩ := by
  rw [px_load_ptr]; rfl
theorem loadB_s {cells d sz agg n off h} : loadB (some (sBlk cells d)) sz agg n off h = if cells.length = n ∧ off + sz ≤ n then (whole agg ((cells.drop off).take sz)).map fun a => (a, h) else none := rfl
theorem store_s {G L} {j n off sz : Nat} {x : AV} {xs cells : List AV} {d : Bool} (hL : L[j]? = some (some (sBlk cells d))) (hx : x.cellsOf = some xs) (hn : cells.length = n) (hs : xs.length = sz) (ho : off + sz ≤ n) :
    prim ⟨G, L⟩ (.store sz false) [.ptr (.l j) n off, x] = some (.v undef, ⟨G, L.set j (some (sBlk (lay cells off xs) (d && AV.lf.lfs xs)))⟩) := by
  rw [px_store, hx]
  simp only [Option.bind_some, Hp.mayFreeze, Hp.get, hL, Option.join_some, Bool.false_eq_true, if_false]
  exact if_pos ⟨hn, rfl, hs, ho, by cases j <;> rfl⟩
theorem alloc_s {G L} {site : Nat} {z0 : Value} {zs : List Value} (hL : L[site]? = some none) :
    prim ⟨G, L⟩ (.alloc site (z0 :: zs) []) [] = some (.ptr (.l site) (zs.length + 1) 0, ⟨G, L.set site (some (sBlk (.v z0 :: zs.map .v) true))⟩) := by
  have hd : AV.lf.lfs (.v z0 :: zs.map AV.v) = true := vals_lfs (vs := z0 :: zs)
  have hlt := lt_of_get hL
  rw [px_alloc]
  simp only [Hp.new, hL, Option.bind_some, kidsIn, Option.map_some, List.map_cons, newBlk_s, hd, Hp.put, List.set_set, List.length_cons, List.length_map]
theorem box_s {G L} {site : Nat} {x : AV} {xs : List AV} (hL : L[site]? = some none) :
    prim ⟨G, L⟩ (.box site) [.agg (x :: xs)] = some (.ptr (.l site) (xs.length + 1) 0, ⟨G, L.set site (some (sBlk (x :: xs) (AV.lf.lfs (x :: xs))))⟩) := by
  rw [px_box]
  simp only [AV.cellsOf, Hp.new, hL, Option.bind_some, Option.map_some, newBlk_s, List.length_cons]
theorem WP_p {f xs dst l} {prog : String → Option IFn} {k : List Kf} {s : St} {Q : Out → St → Prop} {x : Value}
    (hs : Ev prog (.call f (xs.map (AV.ren (up s.h.G.length))) s.h.into) (.ret (.v x) s.h.into)) (hg : Good s.h) :
    WP prog (.call f []) xs dst l k s Q ↔ WO prog l k (s.put dst (.v x)) Q := WP_pure hs hg.okBlks hg.refsOK
theorem into_len {h : Hp} : h.into.length = h.G.length + h.L.length := by simp [Hp.into]
theorem WDP_r {f xs u ld dst l} {prog : String → Option IFn} {k : List Kf} {s : St} {Q : Out → St → Prop} {r : AV} (hs : ∀ X, okX s.h.G.length X → Ev prog (.call f (xs.map (AV.ren (up s.h.G.length))) (s.h.over u X).into) (.ret r (s.h.over u X).into))
    (hr : r.lf = true) (hg : Good s.h) (h : WD prog l k (s.put dst r) Q) : WDP prog (.call f []) xs u [] ld dst l k s Q := by
  refine ⟨r, s.h, fun X hX => .opCall (hg.over hX).okBlks (hs X hX) ?_, ?_, .inr ⟨?_, ?_⟩, fun _ _ => rfl, h⟩
  · rw [back_pure (hg.over hX).refsOK]
    have : r.ren (down (s.h.over u X).G.length (s.h.over u X).L.length []) = r := ren_id fun ℓ hl => by rw [lf_of_labs_nil hr] at hl; cases hl
    rw [this]
  · simpa [okAt, Prim.sites] using hg.okAt (u := u)
  · simp [Prim.sites, Quiet, Hp.over, AM.over]
  · simp [Prim.sites, okAt]
theorem goodL_opt {g k : Nat} {B : Option Blk} {Bs} (h1 : ∀ b, B = some b → b.labs.all (refLt g k) = true) (h2 : goodL g (k + 1) Bs) : goodL g k (B :: Bs) := by
  cases B with
  | none => exact h2
  | some b => exact ⟨h1 b rfl, h2⟩
theorem leave_own {h : Hp} {j n off len esz : Nat} {cap} {b : Blk} (C : AV → AV) (hC : ∀ ρ a, (C a).ren ρ = C (a.ren ρ)) (hCl : ∀ a, (C a).labs = a.labs) (hL : h.L[j]? = some (some b)) (hb : b.labs = []) :
    h.leave (C (.own (.l j) n off len esz cap)) = some (C (.own (.o h.G.length) n off len esz cap), h.G ++ [some b]) := by
  have hcol : collect h 40 [.l j] [] = [j] := by
    simp only [collect, List.not_mem_nil, if_false, Hp.get, hL, Option.join_some, hb, List.append_nil, List.nil_append]
  have hr : b.ren (keepMap h.G.length [j]) = b := blk_ren_id fun ℓ hℓ => by rw [hb] at hℓ; cases hℓ
  unfold Hp.leave
  simp only [hCl, AV.labs, hcol, List.reverse_singleton, List.map_cons, List.map_nil, hL, Option.join_some, Option.map_some, hr, outBlks, hb, List.all_nil, Bool.and_self, List.nodup_cons, List.not_mem_nil, not_false_eq_true, List.nodup_nil, and_self, if_true, hC, AV.ren]
  congr 3
  simp [keepMap, List.idxOf?]
theorem leave_own1 {h : Hp} {j n off len esz : Nat} {cap} {b : Blk} (hL : h.L[j]? = some (some b)) (hb : b.labs = []) :
    h.leave (.own (.l j) n off len esz cap) = some (.own (.o h.G.length) n off len esz cap, h.G ++ [some b]) := leave_own (C := fun a => a) (fun _ _ => rfl) (fun _ => rfl) hL hb
theorem Good.set {h : Hp} (hg : Good h) {j : Nat} {b : Blk} (hb : b.labs = []) : Good ⟨h.G, h.L.set j (some b)⟩ := by
  rw [Good, goodL_iff]
  intro k B hk
  rw [Nat.zero_add]
  simp only [List.getElem?_set] at hk
  split at hk
  · split at hk
    · cases hk; rw [hb]; rfl
    · cases hk
  · exact hg.at hk
theorem flatten_len' {α : Type} {c : Nat} : ∀ {es : List (List α)}, (∀ x ∈ es, x.length = c) → es.flatten.length = es.length * c
  | [], _ => by simp
  | e :: es, h => by
    rw [List.flatten_cons, List.length_append, flatten_len' fun x hx => h x (by simp [hx]), h e (by simp), List.length_cons, Nat.add_mul, Nat.one_mul, Nat.add_comm]
theorem flatten_chunk' {α : Type} {c : Nat} : ∀ {es : List (List α)}, (∀ x ∈ es, x.length = c) → ∀ {i : Nat} {e}, es[i]? = some e → (es.flatten.drop (i * c)).take c = e
  | [], _, i, e, h => by simp at h
  | d :: es, h, i, e, hi => by
    have hd := h d (by simp)
    cases i with
    | zero =>
      simp at hi; subst hi
      rw [Nat.zero_mul, List.drop_zero, List.flatten_cons, ← hd, List.take_left]
    | succ i =>
      rw [List.flatten_cons, show (i + 1) * c = d.length + i * c by rw [hd, Nat.add_mul, Nat.one_mul, Nat.add_comm], List.drop_append]
      rw [List.drop_of_length_le (by omega), List.nil_append, Nat.add_sub_cancel_left]
      exact flatten_chunk' (fun x hx => h x (by simp [hx])) (by simpa using hi)
theorem View.cellsOf {h a esz len cells} (v : View h a esz len cells) : a.cellsOf = some [a] := by
  rcases v.cases with ⟨rfl, _⟩ | ⟨nl, rfl⟩ | ⟨ℓ, n, off, cap, B, rfl, _⟩ <;> rfl
theorem over_getl {h : Hp} {u : List Nat} {X} {j : Nat} (hj : j ∉ u) : (h.over u X).get (.l j) = h.get (.l j) := by
  simp only [Hp.get, Hp.over, over_get]
  rw [if_neg fun hc => hj hc.1]
theorem WDP_loadU {prog : String → Option IFn} {k : List Kf} {s : St} {Q : Out → St → Prop} {sz agg j n off u ld dst l} (hj : j ∉ u) (hg : Good s.h) :
    WDP prog (.load sz agg) [.ptr (.l j) n off] u [] ld dst l k s Q ↔ WDR prog (prim s.h (.load sz agg) [.ptr (.l j) n off]) dst l k s Q := by
  have key : ∀ X, prim (s.h.over u X) (.load sz agg) [.ptr (.l j) n off] = (prim s.h (.load sz agg) [.ptr (.l j) n off]).map fun q => (q.1, s.h.over u X) := by
    intro X
    rw [px_load_ptr, px_load_ptr, over_getl hj]
    split
    · split
      · rw [Option.map_map]; rfl
      · rfl
    · rfl
  constructor
  · rintro ⟨b, h', ho, _, hq, hu, h⟩
    have h1 := (ev_op_prim (by simp) (by simp)).1 (ho _ okX_none)
    rw [key] at h1
    cases hp : prim s.h (.load sz agg) [.ptr (.l j) n off] with
    | none => rw [hp] at h1; cases h1
    | some q =>
      rw [hp] at h1
      simp only [Option.map_some, Option.some.injEq, Prod.mk.injEq] at h1
      obtain ⟨e1, e2⟩ := h1
      have := load_same hp
      refine ⟨b, by rw [← e1, ← this], ?_⟩
      have e3 : h' = s.h := by
        refine Hp.over_ext ?_ fun i => ?_
        · have := congrArg Hp.G e2; exact this.symm
        · by_cases hi : i ∈ u
          · exact hu i hi
          · have := congrArg (fun h : Hp => h.L[i]?) e2
            simp only [Hp.over, over_get] at this
            rw [if_neg fun hc => hi hc.1, if_neg fun hc => hi hc.1] at this
            exact this.symm
      rw [e3] at h
      exact h
  · rintro ⟨a, hr, h⟩
    refine WDP_any rfl (fun X _ => by rw [key, hr]; rfl) hg.okAt h
theorem call_ex {prog : String → Option IFn} {f args G nt ns rs B} {P : AV → List (Option Blk) → Prop} (hf : prog f = some ⟨nt, ns, rs, B⟩)
    (h : WC prog B [] ⟨args ++ List.replicate (nt - args.length) .dead, ⟨G, List.replicate ns none⟩⟩ fun o s => (o = .normal ∨ o = .ret) ∧ ∃ r G2, fin rs s = some (r, G2) ∧ P r G2) :
    ∃ r G2, Ev prog (.call f args G) (.ret r G2) ∧ P r G2 := by
  obtain ⟨o, s', he, ho, r, G2, hr, hp⟩ := h
  exact ⟨r, G2, .call (r := (r, G2)) hf he ho (by rw [finish_fin]; exact hr), hp⟩
theorem WR_same {prog : String → Option IFn} {k : List Kf} {s : St} {Q : Out → St → Prop} {r : Option (AV × Hp)} (a : AV) {dst l} (hr : r = some (a, s.h)) : WR prog r dst l k s Q ↔ WO prog l k (s.put dst a) Q := by
  subst hr; rw [WR_some]
end Go.AM
namespace Go.AM
open Go.RowKit
def str (bs : List UInt8) : Value := .string ⟨bs.toArray⟩
theorem str_of (s : ByteArray) : Value.string s = str s.data.toList := by
  obtain ⟨⟨l⟩⟩ := s; rfl
theorem str_toList (bs : List UInt8) : (⟨bs.toArray⟩ : ByteArray).toList = bs := by rw [ByteArray.toList_eq]
theorem vBin_eql_str {a b : List UInt8} : vBin .eql (str a) (str b) = some (.bool (decide (a = b))) := by
  simp only [str, vBin, str_toList, Option.some.injEq, Value.bool.injEq]
  rw [Bool.eq_iff_iff]; simp
theorem vBin_geq_str {a b : List UInt8} : vBin .geq (str a) (str b) = some (.bool !(Op.bytesLess a b)) := by simp only [str, vBin, str_toList]
theorem str_size {bs : List UInt8} : (⟨bs.toArray⟩ : ByteArray).size = bs.length := by simp [ByteArray.size]
theorem lenStr_str {h} {bs : List UInt8} : prim h .lenStr [.v (str bs)] = some (.v (.int .i64 bs.length), h) := by
  simp only [str, prim, str_size, goInt]
theorem indexStr_str {h} {bs : List UInt8} {k : IntKind} {i : Nat} (hi : i < bs.length) : prim h .indexStr [.v (str bs), .v (.int k (i : Int))] = some (byteAV (bs.getD i 0), h) := by
  simp only [str, px_indexStr, natOf_nat, Option.bind_some]
  rw [List.getElem?_eq_getElem hi, List.getD_eq_getElem?_getD, List.getElem?_eq_getElem hi]; rfl
theorem bytesOf_bytes : ∀ (bs : List UInt8), bytesOf (bs.map byteAV) = some bs
  | [] => rfl
  | b :: bs => by
    rw [List.map_cons, bytesOf, bytesOf_bytes bs]
    simp [byteOf, byteAV]
theorem View.bytesStr {h a} {bs : List UInt8} (v : View h a 1 bs.length (bs.map byteAV)) : prim h .bytesStr [a] = some (.v (str bs), h) := by
  rw [px_bytesStr, v.hsees]
  simp only [Option.bind_some, List.length_map, v.hlen, if_true, bytesOf_bytes, Option.map_some, str]
end Go.AM
namespace Go.AM
open Go.RowKit
inductive Ty where
  | int (k : IntKind)
  | bool
  | str
  | slice (e : Ty)
  | arr (n : Nat) (e : Ty)
  | fnil
  | fcons (t r : Ty)
def Ty.size : Ty → Nat
  | .int _ | .bool | .str | .slice _ => 1
  | .arr n e => n * e.size
  | .fnil => 0
  | .fcons t r => t.size + r.size
def Ty.chk (P : Program) : Ty → Bool → TypeId → List Field → Nat → Bool
  | .int k, false, t, _, _ => (match P.underlying t with | some (.int k') => decide (k = k') | _ => false) && P.cellsOf t == 1
  | .bool, false, t, _, _ => (match P.underlying t with | some .bool => true | _ => false) && P.cellsOf t == 1
  | .str, false, t, _, _ => (match P.underlying t with | some .string => true | _ => false) && P.cellsOf t == 1
  | .slice e, false, t, _, _ => (match P.underlying t with | some (.slice u) => e.chk P false u [] 0 && decide (0 < e.size) | _ => false) && P.cellsOf t == 1
  | .arr n e, false, t, _, _ => (match P.underlying t with | some (.array m u) => n == m && e.chk P false u [] 0 | _ => false) && P.cellsOf t == n * e.size
  | .fnil, false, t, _, _ => (match P.underlying t with | some (.struct fs) => fs.toList.isEmpty | _ => false) && P.cellsOf t == 0
  | .fcons a r, false, t, _, _ => (match P.underlying t with
      | some (.struct fs) => (match fs.toList with | f :: l => f.offset == 0 && a.chk P false f.type [] 0 && r.chk P true 0 l a.size | _ => false)
      | _ => false) && P.cellsOf t == a.size + r.size
  | .fnil, true, _, fs, _ => fs.isEmpty
  | .fcons a r, true, _, fs, off => (match fs with | f :: l => f.offset == off && a.chk P false f.type [] 0 && r.chk P true 0 l (off + a.size) | _ => false)
  | _, true, _, _, _ => false
def Ty.Is : Ty → List AV → Prop
  | .int k, cs => ∃ n, (Lit.int k n).wf = true ∧ cs = [.v (.int k n)]
  | .bool, cs => ∃ b, cs = [.v (.bool b)]
  | .str, cs => ∃ s : ByteArray, s.size ≤ maxLen ∧ cs = [.v (.string s)]
  | .slice e, cs => cs = [.v (.slice none 0 0)] ∨ ∃ es : List (List AV), cs = [.ro false e.size es.length es.flatten] ∧ (∀ x ∈ es, e.Is x) ∧ es.length ≤ maxLen
  | .arr n e, cs => ∃ es : List (List AV), es.length = n ∧ cs = es.flatten ∧ ∀ x ∈ es, e.Is x
  | .fnil, cs => cs = []
  | .fcons a r, cs => ∃ x y, cs = x ++ y ∧ a.Is x ∧ r.Is y
theorem flatten_len {α : Type} {c : Nat} : ∀ {es : List (List α)}, (∀ x ∈ es, x.length = c) → es.flatten.length = es.length * c
  | [], _ => by simp
  | e :: es, h => by
    rw [List.flatten_cons, List.length_append, flatten_len fun x hx => h x (by simp [hx]), h e (by simp), List.length_cons, Nat.add_mul, Nat.one_mul, Nat.add_comm]
theorem flatten_chunk {α : Type} {c : Nat} : ∀ {es : List (List α)}, (∀ x ∈ es, x.length = c) → ∀ {i : Nat} {e}, es[i]? = some e → (es.flatten.drop (i * c)).take c = e
  | [], _, i, e, h => by simp at h
  | d :: es, h, i, e, hi => by
    have hd := h d (by simp)
    cases i with
    | zero =>
      simp at hi; subst hi
      rw [Nat.zero_mul, List.drop_zero, List.flatten_cons, ← hd, List.take_left]
    | succ i =>
      rw [List.flatten_cons, show (i + 1) * c = d.length + i * c by rw [hd, Nat.add_mul, Nat.one_mul, Nat.add_comm], List.drop_append]
      rw [List.drop_of_length_le (by omega), List.nil_append, Nat.add_sub_cancel_left]
      exact flatten_chunk (fun x hx => h x (by simp [hx])) (by simpa using hi)
theorem flatten_at {α : Type} {c : Nat} {es : List (List α)} (h : ∀ x ∈ es, x.length = c) {i j : Nat} {e} (hi : es[i]? = some e) (hj : j < c) : es.flatten[i * c + j]? = e[j]? := by
  have := flatten_chunk h hi
  rw [← this, List.getElem?_take, if_pos hj, List.getElem?_drop]
theorem Ty.Is.len : ∀ {T : Ty} {cs : List AV}, T.Is cs → cs.length = T.size
  | .int k, cs, ⟨n, _, h⟩ => by rw [h]; rfl
  | .bool, cs, ⟨b, h⟩ => by rw [h]; rfl
  | .str, cs, ⟨s, _, h⟩ => by rw [h]; rfl
  | .slice e, cs, h => by rcases h with rfl | ⟨es, rfl, _, _⟩ <;> rfl
  | .arr n e, cs, ⟨es, h1, h2, h3⟩ => by rw [h2, flatten_len (fun x hx => (h3 x hx).len), h1]; rfl
  | .fnil, cs, h => by rw [show cs = [] from h]; rfl
  | .fcons a r, cs, ⟨x, y, h, hx, hy⟩ => by rw [h, List.length_append, hx.len, hy.len]; rfl
theorem lfs_flatten {es : List (List AV)} (h : ∀ x ∈ es, AV.lf.lfs x = true) : AV.lf.lfs es.flatten = true := by
  rw [lfs_iff]
  intro a ha
  obtain ⟨x, hx, hax⟩ := List.mem_flatten.1 ha
  exact lfs_iff.1 (h x hx) a hax
theorem Ty.Is.lf : ∀ {T : Ty} {cs : List AV}, T.Is cs → AV.lf.lfs cs = true
  | .int k, cs, ⟨n, _, h⟩ => by rw [h]; rfl
  | .bool, cs, ⟨b, h⟩ => by rw [h]; rfl
  | .str, cs, ⟨s, _, h⟩ => by rw [h]; rfl
  | .slice e, cs, h => by
    rcases h with rfl | ⟨es, rfl, h, _⟩
    · rfl
    · rfl
  | .arr n e, cs, ⟨es, h1, h2, h3⟩ => by rw [h2]; exact lfs_flatten fun x hx => (h3 x hx).lf
  | .fnil, cs, h => by rw [show cs = [] from h]; rfl
  | .fcons a r, cs, ⟨x, y, h, hx, hy⟩ => by rw [h, lfs_append, hx.lf, hy.lf]; rfl
theorem choose_list {α : Type} {n : Nat} {p : Nat → α → Prop} (h : ∀ i, i < n → ∃ y, p i y) : ∃ l : List α, l.length = n ∧ ∀ i y, l[i]? = some y → p i y := by
  induction n with
  | zero => exact ⟨[], rfl, by simp⟩
  | succ n ih =>
    obtain ⟨l, hl, hp⟩ := ih fun i hi => h i (by omega)
    obtain ⟨y, hy⟩ := h n (by omega)
    refine ⟨l ++ [y], by simp [hl], fun i z hz => ?_⟩
    by_cases hi : i < n
    · rw [List.getElem?_append_left (by omega)] at hz; exact hp i z hz
    · rw [List.getElem?_append_right (by omega)] at hz
      have : i - l.length = 0 := by
        by_cases h0 : i - l.length = 0
        · exact h0
        · rw [List.getElem?_eq_none (by simp; omega)] at hz; cases hz
      rw [this] at hz
      simp at hz; subst hz
      rwa [show i = n by omega]
variable {fid : String → Option FuncId} {H : Type} {enc : TypeId × Value → H} {P : Program} {w : World}
abbrev NoW : Nat → Prop := fun _ => False
abbrev NoM : Lab → Option LInfo := fun _ => none
def ReadAs (fid : String → Option FuncId) (w : World) (T : Ty) (cs : List Value) : Prop :=
  ∃ as, T.Is as ∧ Reps fid w NoW NoM cs as ∧ ∀ c ∈ cs, c.oneCell' = true
theorem reps_one {x : Value} {a : AV} (h : Rep fid w NoW NoM x a) : Reps fid w NoW NoM [x] [a] := Reps.nil.cons h
theorem read_ty : ∀ (T : Ty),
    (∀ {t : TypeId} {fuel : Nat} {cs : List Value} {x}, T.chk P false t [] 0 = true → DataW.trod enc P w 0 (fun _ => true) true fuel t cs = some x → ReadAs fid w T cs) ∧
    (∀ {fs : List Field} {off n : Nat} {cs : List Value}, T.chk P true 0 fs off = true → cs.length = off + T.size →
      (∀ (i : Nat) f, fs[i]? = some f → ∃ x, DataW.trod enc P w 0 (fun _ => true) true n f.type ((cs.drop f.offset).take (P.cellsOf f.type)) = some x) → ReadAs fid w T (cs.drop off))
  | .int k => by
    refine ⟨fun {t fuel cs x} hc h => ?_, fun {fs off n cs} hc => by cases hc⟩
    simp only [Ty.chk, Bool.and_eq_true] at hc
    obtain ⟨hc, _⟩ := hc
    split at hc <;> simp at hc
    rename_i hu
    subst hc
    obtain ⟨n, rfl, _, hw⟩ := DataW.trod_int hu h
    exact ⟨_, ⟨n, hw, rfl⟩, reps_one (.v _), by simp [Value.oneCell']⟩
  | .bool => by
    refine ⟨fun {t fuel cs x} hc h => ?_, fun {fs off n cs} hc => by cases hc⟩
    simp only [Ty.chk, Bool.and_eq_true] at hc
    obtain ⟨hc, _⟩ := hc
    split at hc <;> simp at hc
    rename_i hu
    obtain ⟨b, rfl, _⟩ := DataW.trod_bool hu h
    exact ⟨_, ⟨b, rfl⟩, reps_one (.v _), by simp [Value.oneCell']⟩
  | .str => by
    refine ⟨fun {t fuel cs x} hc h => ?_, fun {fs off n cs} hc => by cases hc⟩
    simp only [Ty.chk, Bool.and_eq_true] at hc
    obtain ⟨hc, _⟩ := hc
    split at hc <;> simp at hc
    rename_i hu
    obtain ⟨s, rfl, _, hs⟩ := DataW.trod_string hu h
    exact ⟨_, ⟨s, hs, rfl⟩, reps_one (.v _), by simp [Value.oneCell']⟩
  | .slice e => by
    refine ⟨fun {t fuel cs x} hc h => ?_, fun {fs off n cs} hc => by cases hc⟩
    simp only [Ty.chk, Bool.and_eq_true] at hc
    obtain ⟨hc, _⟩ := hc
    split at hc <;> simp at hc
    rename_i u hu
    obtain ⟨hc, hpos⟩ := hc
    have hsz : P.cellsOf u = e.size := by
      cases e <;> simp only [Ty.chk, Bool.and_eq_true, beq_iff_eq] at hc <;> exact hc.2
    rcases DataW.trod_slice hu h with ⟨rfl, _⟩ | ⟨a, len, cap, elems, rest, n, _, rfl, _, _, hl, hm, hlen, hel, _, _⟩
    · exact ⟨[.v (.slice none 0 0)], .inl rfl, reps_one (.v _), by simp [Value.oneCell']⟩
    rw [hsz] at hel
    obtain ⟨es, hes, hp⟩ := choose_list (n := len) (p := fun i as => ∃ cs, w.cells? 0 (a.add (i * e.size)) e.size = some cs ∧ e.Is as ∧ Reps fid w NoW NoM cs as ∧ ∀ c ∈ cs, c.oneCell' = true) fun i hi => by
      have := hel i hi
      rw [List.getElem?_eq_getElem (by omega)] at this
      obtain ⟨cs, h1, h2⟩ := Option.bind_eq_some_iff.1 this
      obtain ⟨as, h3, h4, h5⟩ := (read_ty e).1 hc h2
      exact ⟨as, cs, h1, h3, h4, h5⟩
    have hIs : ∀ x ∈ es, e.Is x := fun x hx => by obtain ⟨i, hi⟩ := List.getElem?_of_mem hx; obtain ⟨_, _, h, _⟩ := hp i x hi; exact h
    have hln : ∀ x ∈ es, x.length = e.size := fun x hx => (hIs x hx).len
    have hfl := flatten_len hln
    refine ⟨[.ro false e.size es.length es.flatten], .inr ⟨es, rfl, hIs, by omega⟩, reps_one ?_, by simp [Value.oneCell']⟩
    rw [← hes]
    rw [← hes] at hl hel
    have cell : ∀ i, i < es.flatten.length → ∃ c b, w.cell? ((a.add (i / e.size * e.size)).add (i % e.size)) = some c ∧ es.flatten[i]? = some b ∧ Rep fid w NoW NoM c b ∧ c.oneCell' = true := by
      intro i hi
      rw [hfl] at hi
      have hd : i / e.size < es.length := Nat.div_lt_of_lt_mul (by rwa [Nat.mul_comm])
      have hmod : i % e.size < e.size := Nat.mod_lt _ hpos
      have hget := List.getElem?_eq_getElem hd
      obtain ⟨cs, h1, h2, h3, h4⟩ := hp _ _ hget
      obtain ⟨_, h5, h6⟩ := World.cells?_some h1
      have h7 := h6 _ hmod
      have hcl : i % e.size < cs.length := by omega
      rw [List.getElem?_eq_getElem hcl] at h7
      have h8 := flatten_at hln hget hmod
      rw [Nat.mul_comm, Nat.div_add_mod] at h8
      have hbl : i % e.size < (es[i / e.size]).length := by rw [h2.len]; exact hmod
      rw [List.getElem?_eq_getElem hbl] at h8
      exact ⟨_, _, h7, h8, h3.2 _ _ _ (List.getElem?_eq_getElem hcl) (List.getElem?_eq_getElem hbl), h4 _ (List.getElem_mem _)⟩
    have spot : 0 < es.flatten.length → a.spot = none := fun h0 => by
      obtain ⟨c, b, h1, _⟩ := cell 0 h0
      have := World.cell?_spot h1
      cases hs : a.spot with
      | none => rfl
      | some s => simp [Addr.add, hs] at this
    refine .ro (fun i => (w.cell? ⟨a.block, a.off + i, none⟩).getD undef) hfl (lfs_flatten fun x hx => (hIs x hx).lf) ⟨fun h => (by cases h), fun _ => ⟨a, cap, rfl, hl, ?_⟩⟩ fun i av hi => ?_
    · by_cases h0 : es.flatten.length = 0
      · exact .inl h0
      · right
        have hsp := spot (by omega)
        refine ⟨hsp, fun h => h, fun i hi => ?_⟩
        obtain ⟨c, b, h1, _, _, h4⟩ := cell i hi
        obtain ⟨bk, off, sp⟩ := a
        simp only at hsp
        subst hsp
        rw [add_off, add_off, Nat.add_assoc, Nat.mul_comm, Nat.div_add_mod] at h1
        simp only [h1, Option.getD_some]
        exact ⟨trivial, h4⟩
    · have hi' : i < es.flatten.length := by
        by_cases h : i < es.flatten.length
        · exact h
        · rw [List.getElem?_eq_none (by omega)] at hi; cases hi
      have hsp := spot (by omega)
      obtain ⟨c, b, h1, h2, h3, _⟩ := cell i hi'
      rw [hi] at h2
      cases h2
      obtain ⟨bk, off, sp⟩ := a
      simp only at hsp
      subst hsp
      rw [add_off, add_off, Nat.add_assoc, Nat.mul_comm, Nat.div_add_mod] at h1
      simp only [h1, Option.getD_some]
      exact h3
  | .arr m e => by
    refine ⟨fun {t fuel cs x} hc h => ?_, fun {fs off n cs} hc => by cases hc⟩
    simp only [Ty.chk, Bool.and_eq_true] at hc
    obtain ⟨hc, hct⟩ := hc
    split at hc <;> simp at hc
    rename_i m' u hu
    obtain ⟨rfl, hc⟩ := hc
    simp only [beq_iff_eq] at hct
    have hsz : P.cellsOf u = e.size := by
      cases e <;> simp only [Ty.chk, Bool.and_eq_true, beq_iff_eq] at hc <;> exact hc.2
    obtain ⟨xs, n, _, _, hl, hxs, hi⟩ := DataW.trod_array hu h
    rw [hct] at hl
    rw [hsz] at hi
    obtain ⟨es, hes, hp⟩ := choose_list (n := m) (p := fun i as => e.Is as ∧ Reps fid w NoW NoM ((cs.drop (i * e.size)).take e.size) as ∧ ∀ c ∈ (cs.drop (i * e.size)).take e.size, c.oneCell' = true) fun i him => by
      have := hi i him
      rw [List.getElem?_eq_getElem (by omega)] at this
      exact (read_ty e).1 hc this
    have hIs : ∀ x ∈ es, e.Is x := fun x hx => by obtain ⟨i, hi⟩ := List.getElem?_of_mem hx; exact (hp i x hi).1
    have hln : ∀ x ∈ es, x.length = e.size := fun x hx => (hIs x hx).len
    have hfl := flatten_len hln
    have cell : ∀ (i : Nat) (c : Value), cs[i]? = some c → ∃ b, es.flatten[i]? = some b ∧ Rep fid w NoW NoM c b ∧ c.oneCell' = true := by
      intro i c hi
      have hi' : i < cs.length := by
        by_cases h : i < cs.length
        · exact h
        · rw [List.getElem?_eq_none (by omega)] at hi; cases hi
      rw [hl] at hi'
      have hpos : 0 < e.size := by
        rcases Nat.eq_zero_or_pos e.size with h | h
        · rw [h] at hi'; omega
        · exact h
      have hd : i / e.size < es.length := Nat.div_lt_of_lt_mul (by rw [hes, Nat.mul_comm]; exact hi')
      have hmod : i % e.size < e.size := Nat.mod_lt _ hpos
      have hget := List.getElem?_eq_getElem hd
      obtain ⟨h2, h3, h4⟩ := hp _ _ hget
      have hcs : ((cs.drop (i / e.size * e.size)).take e.size)[i % e.size]? = some c := by
        rw [List.getElem?_take, if_pos hmod, List.getElem?_drop, Nat.mul_comm, Nat.div_add_mod, hi]
      have h8 := flatten_at hln hget hmod
      rw [Nat.mul_comm, Nat.div_add_mod] at h8
      have hbl : i % e.size < (es[i / e.size]).length := by rw [h2.len]; exact hmod
      rw [List.getElem?_eq_getElem hbl] at h8
      exact ⟨_, h8, h3.2 _ _ _ hcs (List.getElem?_eq_getElem hbl), h4 _ (List.mem_of_getElem? hcs)⟩
    refine ⟨es.flatten, ⟨es, hes, rfl, hIs⟩, ⟨by rw [hl, hfl, hes], fun i x a hx ha => ?_⟩, fun c hcm => ?_⟩
    · obtain ⟨b, hb, hr, _⟩ := cell i x hx
      rw [ha] at hb; cases hb; exact hr
    · obtain ⟨i, hi⟩ := List.getElem?_of_mem hcm
      obtain ⟨_, _, _, h⟩ := cell i c hi
      exact h
  | .fnil => by
    refine ⟨fun {t fuel cs x} hc h => ?_, fun {fs off n cs} hc hl _ => ?_⟩
    · simp only [Ty.chk, Bool.and_eq_true] at hc
      obtain ⟨hc, hct⟩ := hc
      split at hc <;> simp at hc
      rename_i fs hu
      simp only [beq_iff_eq] at hct
      obtain ⟨xs, n, _, _, hl, _⟩ := DataW.trod_struct hu h
      rw [hct] at hl
      rw [List.eq_nil_of_length_eq_zero hl]
      exact ⟨[], rfl, Reps.nil, by simp⟩
    · rw [List.drop_of_length_le (by simp only [Ty.size] at hl; omega)]
      exact ⟨[], rfl, Reps.nil, by simp⟩
  | .fcons a r => by
    have step : ∀ {f : Field} {l : List Field} {off n : Nat} {cs : List Value}, f.offset = off → a.chk P false f.type [] 0 = true → r.chk P true 0 l (off + a.size) = true → cs.length = off + (a.size + r.size) →
        (∀ (i : Nat) g, (f :: l)[i]? = some g → ∃ x, DataW.trod enc P w 0 (fun _ => true) true n g.type ((cs.drop g.offset).take (P.cellsOf g.type)) = some x) → ReadAs fid w (.fcons a r) (cs.drop off) := by
      intro f l off n cs h1 h2 h3 hl hall
      have hsz : P.cellsOf f.type = a.size := by
        cases a <;> simp only [Ty.chk, Bool.and_eq_true, beq_iff_eq] at h2 <;> exact h2.2
      obtain ⟨x, hx⟩ := hall 0 f rfl
      rw [h1, hsz] at hx
      obtain ⟨as, ha1, ha2, ha3⟩ := (read_ty a).1 h2 hx
      obtain ⟨bs, hb1, hb2, hb3⟩ := (read_ty r).2 h3 (by omega) fun i g hg => hall (i + 1) g (by simpa using hg)
      have e : cs.drop off = (cs.drop off).take a.size ++ cs.drop (off + a.size) := by
        rw [← List.drop_drop, List.take_append_drop]
      refine ⟨as ++ bs, ⟨as, bs, rfl, ha1, hb1⟩, ?_, fun c hc => ?_⟩
      · rw [e]; exact ha2.append hb2
      · rw [e, List.mem_append] at hc
        exact hc.elim (ha3 c) (hb3 c)
    refine ⟨fun {t fuel cs x} hc h => ?_, fun {fs off n cs} hc hl hall => ?_⟩
    · simp only [Ty.chk, Bool.and_eq_true] at hc
      obtain ⟨hc, hct⟩ := hc
      split at hc <;> try (simp at hc; done)
      rename_i fs hu
      split at hc <;> simp only [Bool.and_eq_true, beq_iff_eq, Bool.false_eq_true] at hc hct
      rename_i f l hfs
      obtain ⟨xs, n, _, _, hl, hxs, hi⟩ := DataW.trod_struct hu h
      rw [hct] at hl
      have := step hc.1.1 hc.1.2 (by rw [Nat.zero_add]; exact hc.2) (by rw [hl]; simp [Ty.size]) (fun i g hg => by
        have hg' : fs[i]? = some g := by rw [← Array.getElem?_toList, hfs]; exact hg
        have h2 := hi i g hg'
        have hlt : i < fs.size := by
          by_cases hh : i < fs.size
          · exact hh
          · rw [Array.getElem?_eq_none (by omega)] at hg'; cases hg'
        rw [List.getElem?_eq_getElem (by omega)] at h2
        exact ⟨_, h2⟩) (off := 0)
      simpa using this
    · simp only [Ty.chk] at hc
      split at hc <;> simp only [Bool.and_eq_true, beq_iff_eq, Bool.false_eq_true] at hc
      exact step hc.1.1 hc.1.2 hc.2 (by rw [hl]; rfl) hall
def Ty.arg : Ty → List AV → AV
  | .arr _ _, as | .fnil, as | .fcons _ _, as => .agg as
  | _, a :: _ => a
  | _, [] => .dead
theorem read_arg {b0 : Nat} {T : Ty} {t : TypeId} {v : Value} {d ps} (hc : T.chk P false t [] 0 = true) (hval : Value.okWide P w .any b0 t v)
    (hd : DataW.Trod enc P w 0 (fun _ => true) true t v d ps) : ∃ as, T.Is as ∧ Rep fid w NoW NoM v (T.arg as) := by
  obtain ⟨fuel, hf⟩ := hd
  obtain ⟨as, h1, h2, h3⟩ := (read_ty (fid := fid) T).1 hc hf
  refine ⟨as, h1, ?_⟩
  have agg : ∀ u, P.underlying t = some u → (∃ fs, u = .struct fs) ∨ (∃ n e, u = .array n e) → Rep fid w NoW NoM v (.agg as) := by
    intro u hu hs
    have : ∃ cs, v = .agg cs := by
      rcases hs with ⟨fs, rfl⟩ | ⟨n, e, rfl⟩ <;> simp only [Value.okWide, hu] at hval <;> obtain ⟨cs, h, _⟩ := hval <;> exact ⟨cs, h⟩
    obtain ⟨cs, rfl⟩ := this
    have := Rep.agg (fid := fid) h2.1 h3 h2.2
    simpa [Value.cells] using this
  have one : ∀ u, P.underlying t = some u → (∀ fs, u ≠ .struct fs) → (∀ n e, u ≠ .array n e) → ∀ a, as = [a] → Rep fid w NoW NoM v a := by
    intro u hu hn1 hn2 a ha
    subst ha
    have hlen := h2.1
    have hv : v.cells.toList = [v] := by
      cases v with
      | agg cs =>
        exfalso
        simp only [Value.okWide, hu] at hval
        have : Cell.okWide P w .any b0 t (.agg cs) := by
          cases u <;> first | exact hval | exact absurd rfl (hn1 _) | exact absurd rfl (hn2 _ _)
        simp only [Cell.okWide, hu] at this
        cases u <;> simp_all [Cell.ok]
      | _ => rfl
    rw [hv] at h2
    exact h2.head
  cases T with
  | arr n e =>
    simp only [Ty.chk, Bool.and_eq_true] at hc
    obtain ⟨hc, _⟩ := hc
    split at hc <;> simp at hc
    rename_i hu
    exact agg _ hu (.inr ⟨_, _, rfl⟩)
  | fnil =>
    simp only [Ty.chk, Bool.and_eq_true] at hc
    obtain ⟨hc, _⟩ := hc
    split at hc <;> simp at hc
    rename_i hu
    exact agg _ hu (.inl ⟨_, rfl⟩)
  | fcons a r =>
    simp only [Ty.chk, Bool.and_eq_true] at hc
    obtain ⟨hc, _⟩ := hc
    split at hc <;> try (simp at hc; done)
    rename_i hu
    exact agg _ hu (.inl ⟨_, rfl⟩)
  | int k =>
    simp only [Ty.chk, Bool.and_eq_true] at hc
    obtain ⟨hc, _⟩ := hc
    split at hc <;> simp at hc
    rename_i hu
    obtain ⟨n, _, rfl⟩ := h1
    exact one _ hu (by simp) (by simp) _ rfl
  | bool =>
    simp only [Ty.chk, Bool.and_eq_true] at hc
    obtain ⟨hc, _⟩ := hc
    split at hc <;> simp at hc
    rename_i hu
    obtain ⟨n, rfl⟩ := h1
    exact one _ hu (by simp) (by simp) _ rfl
  | str =>
    simp only [Ty.chk, Bool.and_eq_true] at hc
    obtain ⟨hc, _⟩ := hc
    split at hc <;> simp at hc
    rename_i hu
    obtain ⟨n, _, rfl⟩ := h1
    exact one _ hu (by simp) (by simp) _ rfl
  | slice e =>
    simp only [Ty.chk, Bool.and_eq_true] at hc
    obtain ⟨hc, _⟩ := hc
    split at hc <;> simp at hc
    rename_i hu
    rcases h1 with rfl | ⟨es, rfl, _⟩ <;> exact one _ hu (by simp) (by simp) _ rfl
def IsAll : List Ty → List AV → Prop
  | [], [] => True
  | T :: Ts, a :: as => (∃ cs, T.Is cs ∧ a = T.arg cs) ∧ IsAll Ts as
  | _, _ => False
def chkAll (P : Program) : List Ty → List TypeId → Bool
  | [], [] => true
  | T :: Ts, t :: ts => T.chk P false t [] 0 && chkAll P Ts ts
  | _, _ => false
theorem read_all {b0 : Nat} : ∀ {Ts : List Ty} {ts : List TypeId} {vs : List Value} {ds : List (DataW H)} {ps : List MemPlace}, chkAll P Ts ts = true →
    (∀ (j : Nat) t v, ts[j]? = some t → vs[j]? = some v → Value.okWide P w .any b0 t v) → DataW.TrodAll enc P w 0 (fun _ => true) true ts vs ds ps → ∃ as, IsAll Ts as ∧ Reps fid w NoW NoM vs as
  | [], [], vs, ds, ps, _, _, h => by
    cases vs <;> cases ds <;> simp [DataW.TrodAll] at h
    exact ⟨[], trivial, Reps.nil⟩
  | T :: Ts, t :: ts, vs, ds, ps, hc, hval, h => by
    cases vs with
    | nil => simp [DataW.TrodAll] at h
    | cons v vs =>
      cases ds with
      | nil => simp [DataW.TrodAll] at h
      | cons d ds =>
        obtain ⟨p, q, h1, h2, _⟩ := h
        simp only [chkAll, Bool.and_eq_true] at hc
        obtain ⟨as, ha, hr⟩ := read_arg (fid := fid) hc.1 (hval 0 t v rfl rfl) h1
        obtain ⟨bs, hb, hs⟩ := read_all hc.2 (fun j t' v' h h' => hval (j + 1) t' v' (by simpa using h) (by simpa using h')) h2
        exact ⟨_ :: bs, ⟨⟨as, ha, rfl⟩, hb⟩, hs.cons hr⟩
  | [], _ :: _, _, _, _, hc, _, _ => by cases hc
  | _ :: _, [], _, _, _, hc, _, _ => by cases hc
theorem below_all {W W' : World} (hl : laidOutB P = true) (hb : Below W.heap.size W W') : ∀ {ts : List TypeId} {vs : List Value} {ds : List (DataW H)} {ps : List MemPlace},
    (ts.all fun t => P.readableRec t && decide (t < P.types.size)) = true → DataW.TrodAll enc P W 0 (fun _ => true) true ts vs ds ps →
    DataW.TrodAll enc P W' 0 (fun b => decide (b < W.heap.size)) true ts vs ds ps
  | [], vs, ds, ps, _, h => by
    cases vs <;> cases ds <;> simp [DataW.TrodAll] at h ⊢
    exact h
  | t :: ts, vs, ds, ps, hc, h => by
    cases vs with
    | nil => simp [DataW.TrodAll] at h
    | cons v vs =>
      cases ds with
      | nil => simp [DataW.TrodAll] at h
      | cons d ds =>
        obtain ⟨p, q, h1, h2, e⟩ := h
        simp only [List.all_cons, Bool.and_eq_true, decide_eq_true_eq] at hc
        have lt : ∀ x ∈ p, x.block < W.heap.size := by obtain ⟨m, hm⟩ := h1; exact DataW.trod_lt m _ _ _ hm
        exact ⟨p, q, Below.trod hl hc.1.1 hc.1.2 h1 hb lt, below_all hl hb hc.2 h2, e⟩
theorem trodAll_len : ∀ {ts : List TypeId} {vs : List Value} {ds : List (DataW H)} {ps : List MemPlace} {sp}, DataW.TrodAll enc P w 0 sp true ts vs ds ps → ds.length = ts.length
  | [], vs, ds, ps, sp, h => by cases vs <;> cases ds <;> simp [DataW.TrodAll] at h ⊢
  | t :: ts, vs, ds, ps, sp, h => by
    cases vs with
    | nil => simp [DataW.TrodAll] at h
    | cons v vs =>
      cases ds with
      | nil => simp [DataW.TrodAll] at h
      | cons d ds =>
        obtain ⟨p, q, h1, h2, e⟩ := h
        simp [trodAll_len h2]
def I64 (n : Int) : Prop := -9223372036854775808 ≤ n ∧ n ≤ 9223372036854775807
def intAV (n : Int) : AV := .v (.int .i64 n)
theorem wf_i64 {n : Int} (h : (Lit.int .i64 n).wf = true) : I64 n := by
  have h : (decide ((-9223372036854775808 : Int) ≤ n) && decide (n ≤ 9223372036854775807)) = true := h
  simpa [I64] using h
theorem is_i64 {cs : List AV} (h : (Ty.int .i64).Is cs) : ∃ n, cs = [intAV n] ∧ I64 n := by
  obtain ⟨n, hn, rfl⟩ := h; exact ⟨n, rfl, wf_i64 hn⟩
end Go.AM
namespace Go.AM
variable {prog : String → Option IFn}
theorem Good.setO {h : Hp} (hg : Good h) {j : Nat} {b : Option Blk} (hb : ∀ B, b = some B → B.labs = []) : Good ⟨h.G, h.L.set j b⟩ := by
  rw [Good, goodL_iff]
  intro k B hk
  rw [Nat.zero_add]
  simp only [List.getElem?_set] at hk
  split at hk
  · split at hk
    · simp only [Option.some.injEq] at hk; rw [hb B hk]; rfl
    · cases hk
  · exact hg.at hk
end Go.AM
