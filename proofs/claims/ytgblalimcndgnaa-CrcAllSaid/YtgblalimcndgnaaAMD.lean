import Derived.Test.YtgblalimcndgnaaAMC
import Derived.Laws.BitsLemmas
import Derived.Laws.BitsAllLaws
set_option linter.unusedVariables false
set_option linter.unusedSimpArgs false
/- Runs of the abstract machine have one answer. -/
namespace Go.AM
open Go.RowKit

variable {prog : String → Option IFn}

theorem ev_call_inv {p : Prim} {xs : List AV} {h h' : Hp} {a : AV} (he : Ev prog (.op p xs h) (.val a h')) : prim h p xs = some (a, h') ∨
    (∃ f sites, p = .call f sites) ∨ (∃ sites, p = .callV sites) := by
  cases he with
  | prim hp => exact .inl hp
  | opCall => exact .inr (.inl ⟨_, _, rfl⟩)
  | opCallV => exact .inr (.inr ⟨_, rfl⟩)

theorem prim_call {h : Hp} {f sites xs} : prim h (.call f sites) xs = none := rfl
theorem prim_callV {h : Hp} {sites xs} : prim h (.callV sites) xs = none := rfl

theorem ev_op_call {f : String} {sites : List Nat} {xs : List AV} {h h' : Hp} {a : AV} (he : Ev prog (.op (.call f sites) xs h) (.val a h')) :
    okBlks 0 h.L = true ∧ ∃ r G2, Ev prog (.call f (xs.map (AV.ren (up h.G.length))) h.into) (.ret r G2) ∧ h.back sites G2 r = some (a, h') := by
  cases he with
  | prim hp => rw [prim_call] at hp; cases hp
  | opCall hi hc hb => exact ⟨hi, _, _, hc, hb⟩

theorem hp_eta (h : Hp) : (⟨h.G, h.L⟩ : Hp) = h := rfl

theorem det_draw {i : IOp} {s : St} {a a2 : AV} {h' h2 : Hp}
    (hd : okAt (i.u ++ i.turns) s.h.L = true) (hu : ∀ k ∈ i.u, h'.L[k]? = s.h.L[k]?) (hu2 : ∀ k ∈ i.u, h2.L[k]? = s.h.L[k]?)
    (ih : ∀ X, okX X → ∀ r', Ev prog (.op i.p (i.xs.map (evalO s.env)) (s.h.over i.u X)) r' → Res.val a (h'.over i.u X) = r')
    (ho2 : ∀ X, okX X → Ev prog (.op i.p (i.xs.map (evalO s.env)) (s.h.over i.u X)) (.val a2 (h2.over i.u X))) : a = a2 ∧ h' = h2 := by
  have hX : okX fun k => if k ∈ i.u then (s.h.L[k]?).join else none := fun k B hB => by
    replace hB : (if k ∈ i.u then _ else none) = some B := hB
    split at hB
    · rename_i hk
      have := List.all_eq_true.1 hd k (by simp [hk])
      rw [hB] at this
      exact this
    · cases hB
  have e := ih _ hX _ (ho2 _ hX)
  simp only [Res.val.injEq] at e
  obtain ⟨e1, e2⟩ := e
  refine ⟨e1, ?_⟩
  have k1 : h'.over i.u (fun k => if k ∈ i.u then (s.h.L[k]?).join else none) = h' := by
    refine Hp.over_ext rfl fun k => ?_
    simp only [Hp.over, over_get]
    split
    · rename_i hk; rw [if_pos hk.1, ← hu k hk.1, List.getElem?_eq_getElem hk.2]; rfl
    · rfl
  have k2 : h2.over i.u (fun k => if k ∈ i.u then (s.h.L[k]?).join else none) = h2 := by
    refine Hp.over_ext rfl fun k => ?_
    simp only [Hp.over, over_get]
    split
    · rename_i hk; rw [if_pos hk.1, ← hu2 k hk.1, List.getElem?_eq_getElem hk.2]; rfl
    · rfl
  rw [k1, k2] at e2
  exact e2

theorem ev_det {t : Task} {r : Res} (h : Ev prog t r) : ∀ {r'}, Ev prog t r' → r = r' := by
  induction h with
  | call hf hb ho hr ih =>
    intro r' h'
    cases h' with
    | call hf' hb' ho' hr' =>
      rw [hf] at hf'; cases hf'
      have := ih hb'
      simp only [Res.out.injEq] at this
      obtain ⟨rfl, rfl⟩ := this
      rw [hr] at hr'; cases hr'; rfl
  | skip => intro r' h'; cases h'; rfl
  | ops h ih => intro r' h'; cases h' with | ops h2 => have := ih h2; simp only [Res.env.injEq] at this; rw [this]
  | draw h ih => intro r' h'; cases h' with | draw h2 => have := ih h2; simp only [Res.env.injEq] at this; rw [this]
  | seq h h' ih ih' =>
    intro r' h2
    cases h2 with
    | seq k k' => have := ih k; simp only [Res.out.injEq, true_and] at this; subst this; exact ih' k'
    | seqOut k ho => have := ih k; simp only [Res.out.injEq] at this; exact absurd this.1.symm ho
  | seqOut h ho ih =>
    intro r' h2
    cases h2 with
    | seq k k' => have := ih k; simp only [Res.out.injEq] at this; exact absurd this.1 ho
    | seqOut k ho => exact ih k
  | cond hc h ih =>
    intro r' h2
    cases h2 with
    | cond hc' k => rw [hc] at hc'; cases hc'; exact ih k
  | block h ih =>
    intro r' h2
    cases h2 with
    | block k => have := ih k; simp only [Res.out.injEq] at this; obtain ⟨rfl, rfl⟩ := this; rfl
  | loop hc h h' ih ih' =>
    intro r' h2
    cases h2 with
    | loop hc2 k k' => rw [hc] at hc2; cases hc2; have := ih k; simp only [Res.out.injEq, true_and] at this; subst this; exact ih' k'
    | loopOut hc2 k ho => rw [hc] at hc2; cases hc2; have := ih k; simp only [Res.out.injEq] at this; exact absurd this.1.symm ho
  | loopOut hc h ho ih =>
    intro r' h2
    cases h2 with
    | loop hc2 k k' => rw [hc] at hc2; cases hc2; have := ih k; simp only [Res.out.injEq] at this; exact absurd this.1 ho
    | loopOut hc2 k ho => rw [hc] at hc2; cases hc2; exact ih k
  | exit => intro r' h'; cases h'; rfl
  | ret => intro r' h'; cases h'; rfl
  | prim hp =>
    intro r' h'
    cases h' with
    | prim hp' => rw [hp] at hp'; cases hp'; rfl
    | opCall => rw [prim_call] at hp; cases hp
    | opCallV => rw [prim_callV] at hp; cases hp
  | opCall hi hc hb ih =>
    intro r' h'
    cases h' with
    | prim hp' => rw [prim_call] at hp'; cases hp'
    | opCall hi' hc' hb' =>
      have := ih hc'
      simp only [Res.ret.injEq] at this
      obtain ⟨rfl, rfl⟩ := this
      rw [hb] at hb'; cases hb'; rfl
  | opCallV hi hc hb ih =>
    intro r' h'
    cases h' with
    | prim hp' => rw [prim_callV] at hp'; cases hp'
    | opCallV hi' hc' hb' =>
      have := ih hc'
      simp only [Res.ret.injEq] at this
      obtain ⟨rfl, rfl⟩ := this
      rw [hb] at hb'; cases hb'; rfl
  | opsNil => intro r' h'; cases h'; rfl
  | opsSkip hg h ih =>
    intro r' h'
    cases h' with
    | opsSkip hg' k => exact ih k
    | opsCons hg' _ _ => rw [hg] at hg'; cases hg'
  | opsCons hg ho h iho ih =>
    intro r' h'
    cases h' with
    | opsSkip hg' k => rw [hg] at hg'; cases hg'
    | opsCons hg' ho' k =>
      have := iho ho'
      simp only [Res.val.injEq] at this
      obtain ⟨rfl, rfl⟩ := this
      exact ih k
  | drawNil => intro r' h'; cases h'; rfl
  | drawSkip hg h ih =>
    intro r' h'
    cases h' with
    | drawSkip hg' k => exact ih k
    | drawCons hg' _ _ _ _ _ => rw [hg] at hg'; cases hg'
  | drawCons hg ho hd hq hu h iho ih =>
    intro r' h'
    cases h' with
    | drawSkip hg' k => rw [hg] at hg'; cases hg'
    | drawCons hg' ho' hd' hq' hu' k =>
      obtain ⟨rfl, rfl⟩ := det_draw hd hu hu' (fun X hX r' h => iho X hX h) ho'
      exact ih k

end Go.AM

/- Walking a run of the abstract machine by rewriting. -/
namespace Go.AM
open Go.RowKit

inductive Kf where
  | seq (b : ICode)
  | block (id : Nat)
  | post (o : Out → Out)

section
variable (prog : String → Option IFn)

def WK : List Kf → Out → St → (Out → St → Prop) → Prop
  | [], o, s, Q => Q o s
  | .seq b :: k, o, s, Q => if o = .normal then ∃ o' s', Ev prog (.code b s) (.out o' s') ∧ WK k o' s' Q else WK k o s Q
  | .block id :: k, o, s, Q => WK k (if o = .exit id then .normal else o) s Q
  | .post f :: k, o, s, Q => WK k (f o) s Q

def WC (c : ICode) (k : List Kf) (s : St) (Q : Out → St → Prop) : Prop := ∃ o s', Ev prog (.code c s) (.out o s') ∧ WK prog k o s' Q
def WO (l : List IOp) (k : List Kf) (s : St) (Q : Out → St → Prop) : Prop := ∃ s', Ev prog (.ops l s) (.env s') ∧ WK prog k .normal s' Q
def WD (l : List IOp) (k : List Kf) (s : St) (Q : Out → St → Prop) : Prop := ∃ s', Ev prog (.draw l s) (.env s') ∧ WK prog k .normal s' Q
def WCond (a : AV) (x y : ICode) (k : List Kf) (s : St) (Q : Out → St → Prop) : Prop := ∃ t, a = .v (.bool t) ∧ WC prog (if t then x else y) k s Q
def WG (g : Option Bool) (i : IOp) (l : List IOp) (k : List Kf) (s : St) (Q : Out → St → Prop) : Prop :=
  (g = some false ∧ WO prog l k (s.put i.dst (.v undef)) Q) ∨
  (g = some true ∧ ∃ a h', Ev prog (.op i.p (i.xs.map (evalO s.env)) s.h) (.val a h') ∧ WO prog l k (({ s with h := h' } : St).put i.dst a) Q)
def WP (p : Prim) (xs : List AV) (dst : Option Nat) (l : List IOp) (k : List Kf) (s : St) (Q : Out → St → Prop) : Prop :=
  ∃ a h', Ev prog (.op p xs s.h) (.val a h') ∧ WO prog l k (({ s with h := h' } : St).put dst a) Q
def WR (r : Option (AV × Hp)) (dst : Option Nat) (l : List IOp) (k : List Kf) (s : St) (Q : Out → St → Prop) : Prop :=
  ∃ a h', r = some (a, h') ∧ WO prog l k (({ s with h := h' } : St).put dst a) Q
end

variable {prog : String → Option IFn} {k : List Kf} {s : St} {Q : Out → St → Prop}

theorem WK_nil {o} : WK prog [] o s Q ↔ Q o s := Iff.rfl
theorem WK_seq_normal {b} : WK prog (.seq b :: k) .normal s Q ↔ WC prog b k s Q := by simp [WK, WC]
theorem WK_seq_ret {b} : WK prog (.seq b :: k) .ret s Q ↔ WK prog k .ret s Q := by simp [WK]
theorem WK_seq_exit {b id} : WK prog (.seq b :: k) (.exit id) s Q ↔ WK prog k (.exit id) s Q := by simp [WK]
theorem WK_block_normal {id} : WK prog (.block id :: k) .normal s Q ↔ WK prog k .normal s Q := by simp [WK]
theorem WK_block_ret {id} : WK prog (.block id :: k) .ret s Q ↔ WK prog k .ret s Q := by simp [WK]
theorem WK_block_exit {id j} : WK prog (.block id :: k) (.exit j) s Q ↔ WK prog k (if j = id then .normal else .exit j) s Q := by
  simp only [WK, Out.exit.injEq]

theorem WC_skip : WC prog .skip k s Q ↔ WK prog k .normal s Q :=
  ⟨fun ⟨o, s', he, h⟩ => by cases he; exact h, fun h => ⟨_, _, .skip, h⟩⟩
theorem WC_ret : WC prog .ret k s Q ↔ WK prog k .ret s Q :=
  ⟨fun ⟨o, s', he, h⟩ => by cases he; exact h, fun h => ⟨_, _, .ret, h⟩⟩
theorem WC_exit {id} : WC prog (.exit id) k s Q ↔ WK prog k (.exit id) s Q :=
  ⟨fun ⟨o, s', he, h⟩ => by cases he; exact h, fun h => ⟨_, _, .exit, h⟩⟩
theorem WC_ops {l} : WC prog (.ops l) k s Q ↔ WO prog l k s Q :=
  ⟨fun ⟨o, s', he, h⟩ => by cases he with | ops h2 => exact ⟨_, h2, h⟩, fun ⟨s', h2, h⟩ => ⟨_, _, .ops h2, h⟩⟩
theorem WC_draw {l} : WC prog (.draw l) k s Q ↔ WD prog l k s Q :=
  ⟨fun ⟨o, s', he, h⟩ => by cases he with | draw h2 => exact ⟨_, h2, h⟩, fun ⟨s', h2, h⟩ => ⟨_, _, .draw h2, h⟩⟩
theorem WC_seq {a b} : WC prog (.seq a b) k s Q ↔ WC prog a (.seq b :: k) s Q := by
  constructor
  · rintro ⟨o, s', he, h⟩
    cases he with
    | seq h1 h2 => exact ⟨_, _, h1, by simp only [WK, if_true]; exact ⟨_, _, h2, h⟩⟩
    | seqOut h1 ho => exact ⟨_, _, h1, by simp only [WK, if_neg ho]; exact h⟩
  · rintro ⟨o, s', he, h⟩
    by_cases ho : o = .normal
    · subst ho
      simp only [WK, if_true] at h
      obtain ⟨o', s2, h2, h⟩ := h
      exact ⟨_, _, .seq he h2, h⟩
    · simp only [WK, if_neg ho] at h
      exact ⟨_, _, .seqOut he ho, h⟩
theorem WC_block {id a} : WC prog (.block id a) k s Q ↔ WC prog a (.block id :: k) s Q := by
  constructor
  · rintro ⟨o, s', he, h⟩
    cases he with | block h1 => exact ⟨_, _, h1, h⟩
  · rintro ⟨o, s', he, h⟩
    exact ⟨_, _, .block he, h⟩
theorem WC_cond {c x y} : WC prog (.cond c x y) k s Q ↔ WCond prog (evalO s.env c) x y k s Q := by
  constructor
  · rintro ⟨o, s', he, h⟩
    cases he with | cond hc h1 => exact ⟨_, hc, _, _, h1, h⟩
  · rintro ⟨t, hc, o, s', he, h⟩
    exact ⟨_, _, .cond hc he, h⟩
theorem WCond_bool {t x y} : WCond prog (.v (.bool t)) x y k s Q ↔ WC prog (if t then x else y) k s Q := by simp [WCond]

theorem WO_nil : WO prog [] k s Q ↔ WK prog k .normal s Q :=
  ⟨fun ⟨s', he, h⟩ => by cases he; exact h, fun h => ⟨_, .opsNil, h⟩⟩
theorem WO_cons {i l} : WO prog (i :: l) k s Q ↔ WG prog (s.guard i.guard) i l k s Q := by
  constructor
  · rintro ⟨s', he, h⟩
    cases he with
    | opsSkip hg h1 => exact .inl ⟨hg, _, h1, h⟩
    | opsCons hg ho h1 => exact .inr ⟨hg, _, _, ho, _, h1, h⟩
  · rintro (⟨hg, s', h1, h⟩ | ⟨hg, a, h', ho, s', h1, h⟩)
    · exact ⟨_, .opsSkip hg h1, h⟩
    · exact ⟨_, .opsCons hg ho h1, h⟩
theorem WG_false {i l} : WG prog (some false) i l k s Q ↔ WO prog l k (s.put i.dst (.v undef)) Q := by simp [WG]
theorem WG_true {i l} : WG prog (some true) i l k s Q ↔ WP prog i.p (i.xs.map (evalO s.env)) i.dst l k s Q := by simp [WG, WP]

theorem WP_prim {p xs dst l} (hp : ∀ f sites, p ≠ .call f sites) (hp2 : ∀ sites, p ≠ .callV sites) : WP prog p xs dst l k s Q ↔ WR prog (prim s.h p xs) dst l k s Q := by
  constructor
  · rintro ⟨a, h', he, h⟩
    rcases ev_call_inv he with h1 | ⟨f, ss, rfl⟩ | ⟨ss, rfl⟩
    · exact ⟨a, h', h1, h⟩
    · exact absurd rfl (hp _ _)
    · exact absurd rfl (hp2 _)
  · rintro ⟨a, h', he, h⟩
    exact ⟨a, h', .prim he, h⟩
theorem WR_some {a h' dst l} : WR prog (some (a, h')) dst l k s Q ↔ WO prog l k (({ s with h := h' } : St).put dst a) Q := by
  constructor
  · rintro ⟨a2, h2, e, h⟩; cases e; exact h
  · intro h; exact ⟨_, _, rfl, h⟩

theorem WP_call {f sites xs dst l r G2} (hs : Ev prog (.call f (xs.map (AV.ren (up s.h.G.length))) s.h.into) (.ret r G2)) :
    WP prog (.call f sites) xs dst l k s Q ↔ okBlks 0 s.h.L = true ∧ WR prog (s.h.back sites G2 r) dst l k s Q := by
  constructor
  · rintro ⟨a, h', he, h⟩
    obtain ⟨hi, r2, G3, hc, hb⟩ := ev_op_call he
    have := ev_det hs hc
    simp only [Res.ret.injEq] at this
    obtain ⟨rfl, rfl⟩ := this
    exact ⟨hi, _, _, hb, h⟩
  · rintro ⟨hi, a, h', hb, h⟩
    exact ⟨a, h', .opCall hi hs hb, h⟩

theorem call_of_W {f args G F r} (hf : prog f = some F) (h : WC prog F.body [] (enter F args G) fun o s => (o = .normal ∨ o = .ret) ∧ finish F s = some r) :
    Ev prog (.call f args G) (.ret r.1 r.2) := by
  obtain ⟨o, s', he, ho, hr⟩ := h
  exact .call hf he ho hr

/-! ### Loops -/

/-- One round leads to the next with less, or out. -/
theorem WC_loop {clr fre a} (Inv : Nat → St → Prop) (n : Nat) (h0 : ∃ s1, clear s clr fre = some s1 ∧ Inv n s1)
    (hstep : ∀ n s, Inv n s → WC prog a [] s fun o s' => if o = .normal then ∃ s1 m, clear s' clr fre = some s1 ∧ m < n ∧ Inv m s1 else WK prog k o s' Q) :
    WC prog (.loop clr fre a) k s Q := by
  induction n using Nat.strongRecOn generalizing s with
  | ind n ih =>
    obtain ⟨s1, hc, hI⟩ := h0
    obtain ⟨o, s2, he, h⟩ := hstep n s1 hI
    by_cases ho : o = .normal
    · subst ho
      simp only [WK, if_true] at h
      obtain ⟨s3, m, hc2, hm, hI2⟩ := h
      obtain ⟨o', s4, he2, h2⟩ := ih m hm ⟨s3, hc2, hI2⟩
      exact ⟨_, _, .loop hc he he2, h2⟩
    · simp only [WK, if_neg ho] at h
      exact ⟨_, _, .loopOut hc he ho, h⟩

end Go.AM

/- Operations, one by one, for rewriting; slices seen from a call. -/
namespace Go.AM
open Go.RowKit

theorem px_id {h a} : prim h .id [a] = some (a, h) := rfl
theorem px_pick {h c a b} : prim h .pick [.v (.bool c), a, b] = some (if c then a else b, h) := rfl
theorem px_nilv {h s esz} : prim h (.nilv s esz) [.v (.slice none 0 0)] = (h.new s virtBlk).map fun h' => (.own (.l s) 0 0 0 esz none, h') := rfl
theorem px_alloc {h s z ks} : prim h (.alloc s z ks) [] = (h.new s (newBlk (z.map .v))).bind fun h1 => (kidsIn h1 s (z.map .v) ks).map fun q => (.ptr (.l s) q.1.length 0, q.2.put (.l s) (some (newBlk q.1))) := rfl
theorem px_box {h s a} : prim h (.box s) [a] = a.cellsOf.bind fun cs => (h.new s (newBlk cs)).map fun h' => (.ptr (.l s) cs.length 0, h') := rfl
theorem px_build {h z ps as} : prim h (.build z ps) as = (fills ps (z.map .v) as).map fun cs => (.agg cs, h) := rfl
theorem px_buildSlice {h s frz esz len z ps as} : prim h (.buildSlice s frz esz len z ps) as = (h.mayFreeze frz as).bind fun q =>
    (fills ps ((List.replicate len (z.map AV.v)).flatten) q.1).bind fun cs =>
      if cs.length = len * esz then (q.2.new s (newBlk cs)).map fun h' => (.own (.l s) (len * esz) 0 len esz (some len), h') else none := rfl
theorem px_load_ptr {h sz agg ℓ n off} : prim h (.load sz agg) [.ptr ℓ n off] = match h.get ℓ with
      | some B => if B.cells.length = n ∧ off + sz ≤ n then (whole agg ((B.cells.drop off).take sz)).map fun a => (a, h) else none
      | none => none := rfl
theorem px_load_rop {h sz agg cells} : prim h (.load sz agg) [.rop cells] = if sz ≤ cells.length then (whole agg (cells.take sz)).map fun a => (a, h) else none := rfl
theorem px_store {h sz frz ℓ n off x} : prim h (.store sz frz) [.ptr ℓ n off, x] = x.cellsOf.bind fun cs0 => (h.mayFreeze frz cs0).bind fun q => match q.2.get ℓ with
        | some B => if B.cells.length = n ∧ B.wr ∧ q.1.length = sz ∧ off + sz ≤ n ∧ okPut ℓ q.1 then
            some (.v undef, q.2.put ℓ (some { B with cells := lay B.cells off q.1, data := B.data && AV.lf.lfs q.1 })) else none
        | none => none := rfl
theorem px_nilCheck_ptr {h ℓ n off} : prim h .nilCheck [.ptr ℓ n off] = some (.ptr ℓ n off, h) := rfl
theorem px_nilCheck_rop {h cs} : prim h .nilCheck [.rop cs] = some (.rop cs, h) := rfl
theorem px_nilCheck_fn {h f a b} : prim h .nilCheck [.fn f a b] = some (.fn f a b, h) := rfl
theorem px_bin {h op x y} : prim h (.bin op) [.v x, .v y] = (vBin op x y).map fun z => (.v z, h) := rfl
theorem px_eq {h neg ls as bs} : prim h (.eq neg ls) [.agg as, .agg bs] = (cellsEq ls as bs).map fun z => (.v (.bool (z != neg)), h) := rfl
theorem px_eqBool {h neg a b} : prim h (.eqBool neg) [.v (.bool a), .v (.bool b)] = some (.v (.bool ((a == b) != neg)), h) := rfl
theorem px_eqNil {h neg k a b} : prim h (.eqNil neg k) [a, b] = if isNilV k b then (h.isNil k a).map fun z => (.v (.bool (z != neg)), h)
        else if isNilV k a then (h.isNil k b).map fun z => (.v (.bool (z != neg)), h) else none := rfl
theorem px_un {h op x} : prim h (.un op) [.v x] = (vUn op x).map fun z => (.v z, h) := rfl
theorem px_convInt {h k k' n} : prim h (.convInt k) [.v (.int k' n)] = some (.v (.int k (k.wrap n)), h) := rfl
theorem px_strBytes {h site s} : prim h (.strBytes site) [.v (.string s)] =
      (h.new site { cells := s.data.toList.map byteAV, opn := true, wr := true, data := true, virt := false }).map fun h' => (.own (.l site) s.size 0 s.size 1 none, h') := rfl
theorem px_bytesStr {h a} : prim h .bytesStr [a] = (h.sees a).bind fun cs => if lenOf a = some cs.length then (bytesOf cs).map fun bs => (.v (.string ⟨bs.toArray⟩), h) else none := rfl
theorem px_bytesBytes {h ℓ n off len esz cap} : prim h .bytesBytes [.own ℓ n off len esz cap] = match h.get ℓ with
      | some B => if B.cells.length = n ∧ B.virt = false ∧ 0 < len ∧ B.wr then some (.own ℓ n off len esz cap, h) else none
      | none => none := rfl
theorem px_strStr {h s} : prim h .strStr [.v (.string s)] = some (.v (.string s), h) := rfl
theorem px_makeFunc {h f k as} : prim h (.makeFunc f k) as = if k ≤ as.length then some (.fn f (as.take k) (as.drop k), h) else none := rfl
theorem px_makeSlice {h site esz bytes z a b} : prim h (.makeSlice site esz bytes z) [a, b] = (natOf a).bind fun len => (natOf b).bind fun cap =>
        if len ≤ cap ∧ cap ≤ room ∧ cap * bytes ≤ room ∧ z.length = esz then
          (h.new site (newBlk ((List.replicate cap (z.map AV.v)).flatten))).map fun h' => (.own (.l site) (cap * esz) 0 len esz (some cap), h')
        else none := rfl
theorem px_sliceStr {h lo hi s xs} : prim h (.sliceStr lo hi) (.v (.string s) :: xs) = (bounds s.size none lo hi false xs).bind fun q =>
        if q.1 ≤ q.2.1 then some (.v (.string (s.extract q.1 q.2.1)), h) else none := rfl
theorem px_slice_own {h esz lo hi mx ℓ n off len esz' cap xs} : prim h (.slice esz lo hi mx) (.own ℓ n off len esz' cap :: xs) =
      if esz' = esz then (bounds len cap lo hi mx xs).bind fun q => if q.1 ≤ q.2.1 then some (.own ℓ n (off + q.1 * esz) (q.2.1 - q.1) esz q.2.2, h) else none else none := rfl
theorem px_slice_ro {h esz lo hi mx nl esz' len cells xs} : prim h (.slice esz lo hi mx) (.ro nl esz' len cells :: xs) =
      if esz' = esz then (bounds len none lo hi mx xs).bind fun q => if q.1 ≤ q.2.1 ∧ mx = false then some (.ro nl esz (q.2.1 - q.1) ((cells.drop (q.1 * esz)).take ((q.2.1 - q.1) * esz)), h) else none else none := rfl
theorem px_slice_nil {h esz lo hi mx xs} : prim h (.slice esz lo hi mx) (.v (.slice none 0 0) :: xs) = (bounds 0 (some 0) lo hi mx xs).bind fun q =>
        if q.1 ≤ q.2.1 then some (.v (.slice none 0 0), h) else none := rfl
theorem px_sliceArr {h n esz lo hi mx ℓ m off xs} : prim h (.sliceArr n esz lo hi mx) (.ptr ℓ m off :: xs) = (bounds n (some n) lo hi mx xs).bind fun q =>
        if q.1 ≤ q.2.1 ∧ off + n * esz ≤ m then some (.own ℓ m (off + q.1 * esz) (q.2.1 - q.1) esz q.2.2, h) else none := rfl
theorem px_fieldAddr_ptr {h off' ℓ n off} : prim h (.fieldAddr off') [.ptr ℓ n off] = some (.ptr ℓ n (off + off'), h) := rfl
theorem px_fieldAddr_rop {h off' cs} : prim h (.fieldAddr off') [.rop cs] = some (.rop (cs.drop off'), h) := rfl
theorem px_field {h off sz agg cs} : prim h (.field off sz agg) [.agg cs] = if off + sz ≤ cs.length then (whole agg ((cs.drop off).take sz)).map fun a => (a, h) else none := rfl
theorem px_indexAddr_own {h esz ℓ n off len esz' cap ix} : prim h (.indexAddr esz) [.own ℓ n off len esz' cap, ix] = (natOf ix).bind fun i => if i < len ∧ esz' = esz then some (.ptr ℓ n (off + i * esz), h) else none := rfl
theorem px_indexAddr_ro {h esz nl esz' len cells ix} : prim h (.indexAddr esz) [.ro nl esz' len cells, ix] = (natOf ix).bind fun i => if i < len ∧ esz' = esz then some (.rop (cells.drop (i * esz)), h) else none := rfl
theorem px_indexArr {h n esz ℓ m off ix} : prim h (.indexArr n esz) [.ptr ℓ m off, ix] = (natOf ix).bind fun i => if i < n then some (.ptr ℓ m (off + i * esz), h) else none := rfl
theorem px_indexStr {h s ix} : prim h .indexStr [.v (.string s), ix] = (natOf ix).bind fun i => (s.data.toList[i]?).map fun b => (byteAV b, h) := rfl
theorem px_indexAgg {h n esz agg cs ix} : prim h (.indexAgg n esz agg) [.agg cs, ix] = (natOf ix).bind fun i => if i < n ∧ (i + 1) * esz ≤ cs.length then (whole agg ((cs.drop (i * esz)).take esz)).map fun a => (a, h) else none := rfl
theorem px_extract {h i vs} : prim h (.extract i) [.tup vs] = (vs[i]?).map fun a => (a, h) := rfl
theorem px_append {h site frz esz bytes s x} : prim h (.append site frz esz bytes) [s, x] = (h.source x).bind fun q => (h.mayFreeze frz q.2).bind fun q2 => q2.2.append site esz bytes s q.1 q2.1 := rfl
theorem px_copy {h esz d x} : prim h (.copy esz) [d, x] = (lenOf d).bind fun m => (h.source x).bind fun q =>
        if q.2.length = q.1 * esz then (h.copyInto esz d q.2 (Nat.min q.1 m)).map fun h' => (.v (goInt (Nat.min q.1 m)), h') else none := rfl
theorem px_lenStr {h s} : prim h .lenStr [.v (.string s)] = some (.v (goInt s.size), h) := rfl
theorem px_lenSlice {h a} : prim h .lenSlice [a] = (lenOf a).map fun (n : Nat) => (.v (goInt n), h) := rfl
theorem px_lenArr {h n a} : prim h (.lenArr n) [a] = some (.v (goInt n), h) := rfl
theorem px_cap_own {h ℓ n off len esz c} : prim h .cap [.own ℓ n off len esz (some c)] = some (.v (goInt c), h) := rfl
theorem px_cap_nil {h} : prim h .cap [.v (.slice none 0 0)] = some (.v (goInt 0), h) := rfl
theorem px_min {h k a as} : prim h .min (.v (.int k a) :: as) = (mins k a as).map fun n => (.v (.int k n), h) := rfl
theorem px_max {h k a as} : prim h .max (.v (.int k a) :: as) = (maxs k a as).map fun n => (.v (.int k n), h) := rfl
theorem lenOf_nil : lenOf (.v (.slice none 0 0)) = some 0 := rfl
theorem lenOf_ro {a b c d} : lenOf (.ro a b c d) = some c := rfl
theorem lenOf_own {a b c d e f} : lenOf (.own a b c d e f) = some d := rfl
theorem natOf_int {k n} : natOf (.v (.int k n)) = if 0 ≤ n then some n.toNat else none := rfl
theorem natOf_nat {k} {n : Nat} : natOf (.v (.int k (n : Int))) = some n := by simp [natOf]

end Go.AM

/- Slices as a call sees them; calls that turn nothing. -/
namespace Go.AM
open Go.RowKit

def eszOK (esz : Nat) : AV → Prop
  | .own _ _ _ _ e _ => e = esz
  | .ro _ e _ _ => e = esz
  | .v (.slice none 0 0) => True
  | _ => False

def capOK (len : Nat) : AV → Prop
  | .own _ _ _ _ _ (some c) => len ≤ c
  | _ => True

structure View (h : Hp) (a : AV) (esz len : Nat) (cells : List AV) : Prop where
  hlen : lenOf a = some len
  hsees : h.sees a = some cells
  hclen : cells.length = len * esz
  hesz : eszOK esz a
  hcap : capOK len a
  hpos : 0 < esz

def elemPtr (a : AV) (esz i : Nat) : AV := match a with
  | .own ℓ n off _ _ _ => .ptr ℓ n (off + i * esz)
  | .ro _ _ _ cells => .rop (cells.drop (i * esz))
  | _ => .dead

def sub (a : AV) (esz i j : Nat) : AV := match a with
  | .own ℓ n off _ _ cap => .own ℓ n (off + i * esz) (j - i) esz (cap.map (· - i))
  | .ro nl _ _ cells => .ro nl esz (j - i) ((cells.drop (i * esz)).take ((j - i) * esz))
  | a => a

variable {h : Hp} {a : AV} {esz len : Nat} {cells : List AV}

theorem View.cases (v : View h a esz len cells) : (a = .v (.slice none 0 0) ∧ len = 0 ∧ cells = []) ∨ (∃ nl, a = .ro nl esz len cells) ∨
    ∃ ℓ n off cap B, a = .own ℓ n off len esz cap ∧ h.get ℓ = some B ∧ B.cells.length = n ∧ cells = (B.cells.drop off).take (len * esz) ∧ (len = 0 ∨ off + len * esz ≤ n) := by
  obtain ⟨h1, h2, h3, h4, h5, h6⟩ := v
  unfold lenOf at h1
  split at h1 <;> cases h1
  · left
    simp only [Hp.sees, Option.some.injEq] at h2
    exact ⟨rfl, rfl, h2.symm⟩
  · right; left
    simp only [Hp.sees, Option.some.injEq] at h2
    simp only [eszOK] at h4
    subst h4; subst h2
    exact ⟨_, rfl⟩
  · rename_i ℓ n off e c
    right; right
    simp only [Hp.sees] at h2
    simp only [eszOK] at h4
    split at h2
    · rename_i B hB
      split at h2 <;> cases h2
      rename_i hn
      refine ⟨ℓ, n, off, c, B, by rw [h4], hB, hn, by rw [h4], ?_⟩
      rw [List.length_take, List.length_drop, h4] at h3
      rcases Nat.eq_zero_or_pos (len * esz) with h0 | h0
      · rcases Nat.mul_eq_zero.1 h0 with h0 | h0
        · exact .inl h0
        · omega
      · right; omega
    · cases h2

theorem View.lenSlice (v : View h a esz len cells) : prim h .lenSlice [a] = some (.v (.int .i64 len), h) := by
  rw [px_lenSlice, v.hlen]; rfl

theorem View.index (v : View h a esz len cells) {k : IntKind} {i : Nat} (hi : i < len) : prim h (.indexAddr esz) [a, .v (.int k i)] = some (elemPtr a esz i, h) := by
  rcases v.cases with ⟨rfl, rfl, rfl⟩ | ⟨nl, rfl⟩ | ⟨ℓ, n, off, cap, B, rfl, hB, hn, hc, hl⟩
  · omega
  · rw [px_indexAddr_ro, natOf_nat]; simp [hi, elemPtr]
  · rw [px_indexAddr_own, natOf_nat]; simp [hi, elemPtr]

theorem View.load (v : View h a esz len cells) {agg : Bool} {i : Nat} (hi : i < len) : prim h (.load esz agg) [elemPtr a esz i] = (whole agg ((cells.drop (i * esz)).take esz)).map fun a => (a, h) := by
  have hm : (i + 1) * esz ≤ len * esz := Nat.mul_le_mul_right _ hi
  rw [Nat.add_mul, Nat.one_mul] at hm
  have hcl := v.hclen
  rcases v.cases with ⟨rfl, rfl, rfl⟩ | ⟨nl, rfl⟩ | ⟨ℓ, n, off, cap, B, rfl, hB, hn, hc, hl⟩
  · omega
  · simp only [elemPtr]
    rw [px_load_rop, if_pos (by rw [List.length_drop]; omega)]
  · simp only [elemPtr]
    rw [px_load_ptr, hB]
    simp only
    rw [if_pos ⟨hn, by omega⟩, hc, List.drop_take, List.drop_drop, List.take_take, Nat.min_eq_left (by omega)]

theorem View.source (v : View h a esz len cells) : h.source a = some (len, cells) := by
  have h1 := v.hlen
  have h2 := v.hsees
  rcases v.cases with ⟨rfl, rfl, rfl⟩ | ⟨nl, rfl⟩ | ⟨ℓ, n, off, cap, B, rfl, hB, hn, hc, hl⟩ <;> simp only [Hp.source, h1, h2]

theorem View.any {G L L' : List (Option Blk)} (v : View ⟨G, L⟩ a esz len cells) (ho : ∀ k n off e c, a ≠ .own (.l k) n off len e c) : View ⟨G, L'⟩ a esz len cells := by
  obtain ⟨h1, h2, h3, h4, h5, h6⟩ := v
  refine ⟨h1, ?_, h3, h4, h5, h6⟩
  cases a with
  | own ℓ n off l e c =>
    simp only [lenOf, Option.some.injEq] at h1
    subst h1
    cases ℓ with
    | l k => exact absurd rfl (ho k n off e c)
    | o p => exact h2
  | v x =>
    rw [← h2]
    simp only [Hp.sees]
    split <;> simp_all
  | _ => exact h2

/-! ### Slicing -/

theorem View.sub (v : View h a esz len cells) {i j : Nat} (hij : i ≤ j) (hj : j ≤ len) : View h (sub a esz i j) esz (j - i) ((cells.drop (i * esz)).take ((j - i) * esz)) := by
  have hm : i * esz + (j - i) * esz = j * esz := by rw [← Nat.add_mul]; congr 1; omega
  have hm2 : j * esz ≤ len * esz := Nat.mul_le_mul_right _ hj
  have hlen : ((cells.drop (i * esz)).take ((j - i) * esz)).length = (j - i) * esz := by
    rw [List.length_take, List.length_drop, v.hclen]; omega
  have hp := v.hpos
  have hcp := v.hcap
  rcases v.cases with ⟨rfl, rfl, rfl⟩ | ⟨nl, rfl⟩ | ⟨ℓ, n, off, cap, B, rfl, hB, hn, hc, hl⟩
  · obtain rfl : i = 0 := by omega
    obtain rfl : j = 0 := by omega
    exact ⟨rfl, by simp [AM.sub, Hp.sees], by simp, trivial, trivial, hp⟩
  · exact ⟨rfl, rfl, hlen, rfl, trivial, hp⟩
  · refine ⟨rfl, ?_, hlen, rfl, ?_, hp⟩
    · simp only [AM.sub, Hp.sees, hB, hn, if_true]
      rw [hc, List.drop_take, List.drop_drop, List.take_take, Nat.min_eq_left (by omega)]
    · cases cap with
      | none => trivial
      | some c => simp only [AM.sub, capOK, Option.map_some] at hcp ⊢; omega

theorem View.leCap (v : View h a esz len cells) {ℓ n off cap} (ha : a = .own ℓ n off len esz cap) {j : Nat} (hj : j ≤ len) : leCap len cap j = true := by
  have hcp := v.hcap
  subst ha
  cases cap with
  | none => simpa [AM.leCap] using hj
  | some c => simp only [capOK] at hcp; simp only [AM.leCap, decide_eq_true_eq]; omega

theorem View.slice (v : View h a esz len cells) {k k' : IntKind} {i j : Nat} (hij : i ≤ j) (hj : j ≤ len) :
    prim h (.slice esz true true false) [a, .v (.int k i), .v (.int k' j)] = some (AM.sub a esz i j, h) := by
  rcases v.cases with ⟨rfl, rfl, rfl⟩ | ⟨nl, rfl⟩ | ⟨ℓ, n, off, cap, B, rfl, hB, hn, hc, hl⟩
  · obtain rfl : i = 0 := by omega
    obtain rfl : j = 0 := by omega
    simp [px_slice_nil, bounds, natOf_int, AM.leCap, AM.sub]
  · simp [px_slice_ro, bounds, natOf_nat, AM.leCap, AM.sub, hij, hj]
  · have := v.leCap rfl hj
    simp [px_slice_own, bounds, natOf_nat, this, AM.sub, hij, hj]

theorem View.sliceLo (v : View h a esz len cells) {k : IntKind} {i : Nat} (hi : i ≤ len) :
    prim h (.slice esz true false false) [a, .v (.int k i)] = some (AM.sub a esz i len, h) := by
  rcases v.cases with ⟨rfl, rfl, rfl⟩ | ⟨nl, rfl⟩ | ⟨ℓ, n, off, cap, B, rfl, hB, hn, hc, hl⟩
  · obtain rfl : i = 0 := by omega
    simp [px_slice_nil, bounds, natOf_int, AM.leCap, AM.sub]
  · simp [px_slice_ro, bounds, natOf_nat, AM.leCap, AM.sub, hi]
  · simp [px_slice_own, bounds, natOf_nat, AM.sub, hi]

theorem View.sliceHi (v : View h a esz len cells) {k : IntKind} {j : Nat} (hj : j ≤ len) :
    prim h (.slice esz false true false) [a, .v (.int k j)] = some (AM.sub a esz 0 j, h) := by
  rcases v.cases with ⟨rfl, rfl, rfl⟩ | ⟨nl, rfl⟩ | ⟨ℓ, n, off, cap, B, rfl, hB, hn, hc, hl⟩
  · obtain rfl : j = 0 := by omega
    simp [px_slice_nil, bounds, natOf_int, AM.leCap, AM.sub]
  · simp [px_slice_ro, bounds, natOf_nat, AM.leCap, AM.sub, hj]
  · have := v.leCap rfl hj
    cases cap <;> simp [px_slice_own, bounds, natOf_nat, this, AM.sub]

end Go.AM

namespace Go.AM
theorem View.load1 {h : Hp} {a : AV} {len : Nat} {cells : List AV} (v : View h a 1 len cells) {i : Nat} {x : AV} (hx : cells[i]? = some x) : prim h (.load 1 false) [elemPtr a 1 i] = some (x, h) := by
  have hlt : i < cells.length := by
    by_cases h : i < cells.length
    · exact h
    · rw [List.getElem?_eq_none (by omega)] at hx; cases hx
  have hcl := v.hclen
  rw [v.load (by omega), Nat.mul_one]
  rw [List.getElem?_eq_getElem hlt] at hx
  cases hx
  rw [List.drop_eq_getElem_cons hlt]
  rfl
end Go.AM

/- Calls that turn nothing; slices handed to a call. -/
namespace Go.AM
open Go.RowKit

theorem ren_comp {ρ σ : Lab → Option Lab} {a : AV} : (a.ren ρ).ren σ = a.ren fun ℓ => (ρ ℓ).bind σ := by
  induction a using AV.rec (motive_2 := fun as => AV.ren.rens σ (AV.ren.rens ρ as) = AV.ren.rens (fun ℓ => (ρ ℓ).bind σ) as) with
  | v x => rfl
  | ptr ℓ n off => simp only [AV.ren]; cases h : ρ ℓ <;> simp [AV.ren]
  | own ℓ n off len esz cap => simp only [AV.ren]; cases h : ρ ℓ <;> simp [AV.ren]
  | ro => rfl
  | rop => rfl
  | fn f a b iha ihb => simp only [AV.ren, iha, ihb]
  | agg cs ih => simp only [AV.ren, ih]
  | tup cs ih => simp only [AV.ren, ih]
  | dead => rfl
  | nil => rfl
  | cons a as iha ihas => simp only [AV.ren.rens, iha, ihas]

theorem blk_ren_comp {ρ σ : Lab → Option Lab} {B : Blk} : (B.ren ρ).ren σ = B.ren fun ℓ => (ρ ℓ).bind σ := by
  by_cases hd : B.data = true
  · simp [Blk.ren, hd]
  · simp only [Blk.ren, hd, Bool.false_eq_true, if_false]
    congr 1
    have := ren_comp (ρ := ρ) (σ := σ) (a := .agg B.cells)
    simpa [AV.ren] using this

def refOK (g s : Nat) : Lab → Bool
  | .l k => k < s
  | .o p => p < g

def refsOK (h : Hp) : Bool := h.L.all fun B => match B with
  | some B => B.labs.all (refOK h.G.length h.L.length)
  | none => true

theorem up_down {g s : Nat} {sites : List Nat} {ℓ : Lab} (h : refOK g s ℓ = true) : (up g ℓ).bind (down g s sites) = some ℓ := by
  cases ℓ with
  | l k =>
    simp only [refOK, decide_eq_true_eq] at h
    simp only [up, Option.bind_some, down]
    rw [if_neg (by omega), if_pos (by omega)]
    congr 2
    omega
  | o p =>
    simp only [refOK, decide_eq_true_eq] at h
    simp only [up, Option.bind_some, down]
    rw [if_pos h]

theorem avren_back {g s : Nat} {sites : List Nat} {a : AV} (h : a.labs.all (refOK g s) = true) : (a.ren (up g)).ren (down g s sites) = a := by
  rw [ren_comp]
  exact ren_id fun ℓ hl => up_down (List.all_eq_true.1 h ℓ hl)

theorem blkren_back {g s : Nat} {sites : List Nat} {B : Blk} (h : B.labs.all (refOK g s) = true) : (B.ren (up g)).ren (down g s sites) = B := by
  rw [blk_ren_comp]
  exact blk_ren_id fun ℓ hl => up_down (List.all_eq_true.1 h ℓ hl)

/-- A call that turns nothing and hands back nothing new. -/
theorem back_pure {h : Hp} {r : AV} (hr : refsOK h = true) : h.back [] h.into r = some (r.ren (down h.G.length h.L.length []), h) := by
  have hlen : h.into.length = h.G.length + h.L.length := by simp [Hp.into]
  unfold Hp.back
  simp only [List.length_nil, Nat.add_zero, List.nodup_nil, List.all_nil, and_self, and_true]
  rw [if_pos hlen]
  congr 2
  have e1 : h.into.take h.G.length = h.G := by simp [Hp.into]
  have e2 : h.into.drop h.G.length = h.L.map (Option.map (Blk.ren (up h.G.length))) := by simp [Hp.into]
  rw [e1, e2]
  have e3 : ((h.L.map (Option.map (Blk.ren (up h.G.length)))).take h.L.length).map (Option.map (Blk.ren (down h.G.length h.L.length []))) = h.L := by
    rw [List.take_of_length_le (by simp), List.map_map]
    conv => rhs; rw [← List.map_id h.L]
    refine List.map_congr_left fun B hB => ?_
    cases B with
    | none => rfl
    | some B =>
      have := List.all_eq_true.1 hr _ hB
      simp only [Function.comp, Option.map_some, id_eq, Option.some.injEq]
      exact blkren_back this
  rw [e3]
  have e4 : ∀ L Bs, putAll L [] Bs = L := by intro L Bs; cases Bs <;> rfl
  rw [e4]

/-- What a call of a function that turns nothing comes to. -/
theorem WP_pure {prog : String → Option IFn} {k : List Kf} {s : St} {Q : Out → St → Prop} {f xs dst l} {x : Value}
    (hs : Ev prog (.call f (xs.map (AV.ren (up s.h.G.length))) s.h.into) (.ret (.v x) s.h.into)) (h1 : okBlks 0 s.h.L = true) (h2 : refsOK s.h = true) :
    WP prog (.call f []) xs dst l k s Q ↔ WO prog l k (s.put dst (.v x)) Q := by
  rw [WP_call hs, back_pure h2]
  simp only [h1, true_and, WR_some]
  exact Iff.rfl

theorem ren_lfs {ρ : Lab → Option Lab} {as : List AV} (h : AV.lf.lfs as = true) : AV.ren.rens ρ as = as := by
  have := ren_id (ρ := ρ) (a := .agg as) (by
    have : (AV.agg as).labs = [] := lf_of_labs_nil (by simpa [AV.lf] using h)
    rw [this]; intro ℓ hl; cases hl)
  simpa [AV.ren] using this

theorem View.into {h : Hp} {a : AV} {esz len : Nat} {cells : List AV} (v : View h a esz len cells) (hd : AV.lf.lfs cells = true) :
    ∀ L, View ⟨h.into, L⟩ (a.ren (up h.G.length)) esz len cells := by
  intro L
  have hcl := v.hclen
  have hp := v.hpos
  have hcp := v.hcap
  rcases v.cases with ⟨rfl, rfl, rfl⟩ | ⟨nl, rfl⟩ | ⟨ℓ, n, off, cap, B, rfl, hB, hn, hc, hl⟩
  · exact ⟨rfl, rfl, hcl, trivial, trivial, hp⟩
  · exact ⟨rfl, rfl, hcl, rfl, trivial, hp⟩
  · cases ℓ with
    | o p =>
      have hB' : h.G[p]? = some (some B) := get_o.1 (show (⟨h.G, h.L⟩ : Hp).get (.o p) = some B from hB)
      have hlt : p < h.G.length := by
        by_cases hp : p < h.G.length
        · exact hp
        · rw [List.getElem?_eq_none (by omega)] at hB'; cases hB'
      refine ⟨rfl, ?_, hcl, rfl, by cases cap <;> exact hcp, hp⟩
      have hg2 : (⟨h.into, L⟩ : Hp).get (.o p) = some B := by
        rw [get_o, into_o, if_pos hlt]; exact hB'
      simp only [AV.ren, up, Hp.sees, hg2, hn, if_true, hc]
    | l k =>
      have hB' : h.L[k]? = some (some B) := get_l.1 (show (⟨h.G, h.L⟩ : Hp).get (.l k) = some B from hB)
      refine ⟨rfl, ?_, hcl, rfl, by cases cap <;> exact hcp, hp⟩
      have hg2 : (⟨h.into, L⟩ : Hp).get (.o (h.G.length + k)) = some (B.ren (up h.G.length)) := by
        rw [get_o, into_o, if_neg (by omega), show h.G.length + k - h.G.length = k by omega, hB']; rfl
      simp only [AV.ren, up, Hp.sees, hg2, Blk.ren_length, hn, if_true, Option.some.injEq]
      by_cases hd2 : B.data = true
      · rw [show B.ren (up h.G.length) = B by simp [Blk.ren, hd2], hc]
      · have e : (B.ren (up h.G.length)).cells = AV.ren.rens (up h.G.length) B.cells := by simp [Blk.ren, hd2]
        rw [e, rens_eq_map, ← List.map_drop, ← List.map_take, ← hc, ← rens_eq_map, ren_lfs hd]

end Go.AM

/- Numbers. -/
namespace Go.AM
open Go.RowKit

/-- Numbers of 32 bits. -/
def u32 (x : BitVec 32) : Value := .int .u32 (x.toNat : Int)

theorem ofInt_toNat32 (x : BitVec 32) : BitVec.ofInt 32 (x.toNat : Int) = x := by simp

theorem wrap_u32_toNat (x : BitVec 32) : IntKind.u32.wrap (x.toNat : Int) = x.toNat := by
  rw [IntKind.wrap_u32]; have := x.isLt; omega

theorem vBin_xor_u32 {x y : BitVec 32} : vBin .xor (u32 x) (u32 y) = some (u32 (x ^^^ y)) := by
  show some (Value.int .u32 (IntKind.u32.wrap ((BitVec.ofInt 32 (x.toNat : Int) ^^^ BitVec.ofInt 32 (y.toNat : Int)).toNat : Int))) = _
  rw [ofInt_toNat32, ofInt_toNat32, wrap_u32_toNat]; rfl
theorem vBin_and_u32 {x y : BitVec 32} : vBin .and (u32 x) (u32 y) = some (u32 (x &&& y)) := by
  show some (Value.int .u32 (IntKind.u32.wrap ((BitVec.ofInt 32 (x.toNat : Int) &&& BitVec.ofInt 32 (y.toNat : Int)).toNat : Int))) = _
  rw [ofInt_toNat32, ofInt_toNat32, wrap_u32_toNat]; rfl
theorem vUn_xor_u32 {x : BitVec 32} : vUn .xor (u32 x) = some (u32 (~~~ x)) := by
  show some (Value.int .u32 (IntKind.u32.wrap ((BitVec.ofInt 32 (4294967295 : Int) ^^^ BitVec.ofInt 32 (x.toNat : Int)).toNat : Int))) = _
  rw [ofInt_toNat32, show BitVec.ofInt 32 (4294967295 : Int) = BitVec.allOnes 32 by decide, BitVec.allOnes_xor, wrap_u32_toNat]; rfl
theorem vBin_shr_u32 {x : BitVec 32} {n : Nat} {k : IntKind} : vBin .shr (u32 x) (.int k (n : Int)) = some (u32 (x >>> n)) := by
  simp only [u32, vBin]
  rw [if_neg (by omega)]
  congr 2
  rw [Int.toNat_natCast, BitVec.toNat_ushiftRight, Nat.shiftRight_eq_div_pow]
  have h2 : ∀ m : Nat, (x.toNat : Int).fdiv (2 ^ m) = ((x.toNat / 2 ^ m : Nat) : Int) := by
    intro m
    rw [Int.fdiv_eq_ediv_of_nonneg _ (Int.le_of_lt (Int.pow_pos (by omega)))]; simp
  rw [h2]
  congr 1
  simp only [IntKind.bits]
  by_cases hn : n ≤ 32
  · rw [Nat.min_eq_left hn]
  · rw [Nat.min_eq_right (by omega)]
    have := x.isLt
    have h3 : 2 ^ 32 ≤ 2 ^ n := Nat.pow_le_pow_right (by omega) (by omega)
    rw [Nat.div_eq_of_lt this, Nat.div_eq_of_lt (by omega)]
theorem vBin_eql_u32 {x y : BitVec 32} : vBin .eql (u32 x) (u32 y) = some (.bool (x == y)) := by
  simp only [u32, vBin, ne_eq, not_true_eq_false, if_false, Option.some.injEq, Value.bool.injEq]
  rw [Bool.eq_iff_iff]
  simp only [beq_iff_eq]
  constructor
  · intro h; exact BitVec.eq_of_toNat_eq (by omega)
  · rintro rfl; rfl
theorem convInt_u32 {h : Hp} {x : BitVec 32} {k : IntKind} {n : Nat} (hx : n % 4294967296 = x.toNat) : prim h (.convInt .u32) [.v (.int k (n : Int))] = some (.v (u32 x), h) := by
  rw [px_convInt, IntKind.wrap_u32, u32]; congr 4; omega

/-- Numbers of 64 bits that stay in their bounds. -/
theorem wrap_i64_of {n : Int} (h : -9223372036854775808 ≤ n) (h' : n ≤ 9223372036854775807) : IntKind.i64.wrap n = n := by
  rw [IntKind.wrap_i64]; omega
theorem vBin_add_i64 {a b : Int} (h : -9223372036854775808 ≤ a + b) (h' : a + b ≤ 9223372036854775807) : vBin .add (.int .i64 a) (.int .i64 b) = some (.int .i64 (a + b)) := by
  simp only [vBin, ne_eq, not_true_eq_false, if_false, wrap_i64_of h h']
theorem vBin_sub_i64 {a b : Int} (h : -9223372036854775808 ≤ a - b) (h' : a - b ≤ 9223372036854775807) : vBin .sub (.int .i64 a) (.int .i64 b) = some (.int .i64 (a - b)) := by
  simp only [vBin, ne_eq, not_true_eq_false, if_false, wrap_i64_of h h']
theorem vBin_mul_i64 {a b : Int} (h : -9223372036854775808 ≤ a * b) (h' : a * b ≤ 9223372036854775807) : vBin .mul (.int .i64 a) (.int .i64 b) = some (.int .i64 (a * b)) := by
  simp only [vBin, ne_eq, not_true_eq_false, if_false, wrap_i64_of h h']
theorem vBin_lss {k a b} : vBin .lss (.int k a) (.int k b) = some (.bool (decide (a < b))) := by simp [vBin]
theorem vBin_leq {k a b} : vBin .leq (.int k a) (.int k b) = some (.bool (decide (a ≤ b))) := by simp [vBin]
theorem vBin_gtr {k a b} : vBin .gtr (.int k a) (.int k b) = some (.bool (decide (a > b))) := by simp [vBin]
theorem vBin_geq {k a b} : vBin .geq (.int k a) (.int k b) = some (.bool (decide (a ≥ b))) := by simp [vBin]
theorem vBin_eql {k a b} : vBin .eql (.int k a) (.int k b) = some (.bool (a == b)) := by simp [vBin]
theorem vBin_neq {k a b} : vBin .neq (.int k a) (.int k b) = some (.bool (a != b)) := by simp [vBin]

end Go.AM

namespace Go.AM
def fin (rs : List RV) (s : St) : Option (AV × List (Option Blk)) := (resVals s rs).bind fun vs => s.h.leave (packA vs)

theorem finish_fin {nt ns rs B} {s : St} : finish ⟨nt, ns, rs, B⟩ s = fin rs s := by
  simp only [finish, fin]
  congr 1

theorem call_of_fin {prog : String → Option IFn} {f args G nt ns rs B r G2} (hf : prog f = some ⟨nt, ns, rs, B⟩)
    (h : WC prog B [] ⟨args ++ List.replicate (nt - args.length) .dead, ⟨G, List.replicate ns none⟩⟩ fun o s => (o = .normal ∨ o = .ret) ∧ fin rs s = some (r, G2)) :
    Ev prog (.call f args G) (.ret r G2) := by
  obtain ⟨o, s', he, ho, hr⟩ := h
  exact .call (r := (r, G2)) hf he ho (by rw [finish_fin]; exact hr)

theorem leave_v {h : Hp} {x : Value} : h.leave (.v x) = some (.v x, h.G) := by
  simp [Hp.leave, AV.labs, collect, outBlks, AV.ren]

theorem fin_tmp {t s} : fin [.tmp t] s = s.h.leave (s.env.getD t .dead) := rfl
end Go.AM

namespace Go.AM
theorem noRef_nil {a : AV} : noRef [] a = true := by
  unfold noRef
  rw [List.all_eq_true]
  intro ℓ _
  cases ℓ <;> rfl
theorem blkNoRef_nil {B : Option Blk} : blkNoRef [] B = true := by
  cases B with
  | none => rfl
  | some B => unfold blkNoRef; rw [List.all_eq_true]; intro ℓ _; cases ℓ <;> rfl
theorem clear_nil {s : St} {clr : List Nat} : clear s clr [] = some ⟨clr.foldl (fun e t => e.set t .dead) s.env, s.h⟩ := by
  unfold clear
  exact if_pos ⟨List.all_eq_true.2 fun a _ => noRef_nil, List.all_eq_true.2 fun B _ => blkNoRef_nil⟩
end Go.AM

namespace Go.AM
theorem const_int {k n} : constAV (.int k n) = .v (.int k n) := rfl
theorem const_bool {b} : constAV (.bool b) = .v (.bool b) := rfl
theorem const_string {s} : constAV (.string s) = .v (.string s) := rfl
theorem const_slice : constAV (.slice none 0 0) = .v (.slice none 0 0) := rfl
theorem const_ptr : constAV (.pointer none) = .v (.pointer none) := rfl
theorem const_func : constAV .nilFunc = .v .nilFunc := rfl
theorem const_agg {cs} : constAV (.agg cs) = .agg (cs.toList.map .v) := rfl
theorem const_u32 {x} : constAV (u32 x) = .v (u32 x) := rfl
theorem vBin_shr_u32_1 {x : BitVec 32} {k : IntKind} : vBin .shr (u32 x) (.int k 1) = some (u32 (x >>> 1)) := vBin_shr_u32 (n := 1)
end Go.AM

/- What is read of inputs. -/
namespace Go.AM
open Go.RowKit

variable {fid : String → Option FuncId}

/-- What is told of a slice of numbers that came in. -/
def IsRow (k : IntKind) (w : World) (a : Option Addr) (len cap : Nat) (zs : List Int) : Prop :=
  (a = none ∧ len = 0 ∧ cap = 0 ∧ zs = []) ∨
  ∃ x, a = some x ∧ len ≤ cap ∧ cap ≤ maxLen ∧ zs.length = cap ∧ (∀ i, i < zs.length → w.cell? (x.add i) = some (.int k (zs.getD i 0))) ∧ ∀ n ∈ zs, (Lit.int k n).wf = true

theorem view_nil {h esz} (he : 0 < esz) : View h (.v (.slice none 0 0)) esz 0 [] := ⟨rfl, rfl, by simp, trivial, trivial, he⟩
theorem view_ro {h nl esz len cells} (he : 0 < esz) (hl : cells.length = len * esz) : View h (.ro nl esz len cells) esz len cells := ⟨rfl, rfl, hl, rfl, trivial, he⟩

/-- Numbers of one kind. -/
theorem read_ints {k w a len cap zs} (h : IsRow k w a len cap zs) : ∃ (av : AV) (ns : List Int), ns.length = len ∧ (∀ n ∈ ns, (Lit.int k n).wf = true) ∧
    Rep fid w (fun _ => False) (fun _ => none) (.slice a len cap) av ∧ ∀ h, View h av 1 len (ns.map fun n => .v (.int k n)) := by
  rcases h with ⟨rfl, rfl, rfl, rfl⟩ | ⟨x, rfl, hl, hm, hz, hcell, hwf⟩
  · exact ⟨.v (.slice none 0 0), [], rfl, by simp, .v _, fun h => view_nil (by omega)⟩
  · have hlen : (zs.take len).length = len := by rw [List.length_take]; omega
    refine ⟨.ro false 1 len ((zs.take len).map fun n => .v (.int k n)), zs.take len, hlen, fun n hn => hwf n (List.mem_of_mem_take hn), ?_, fun h => view_ro (by omega) (by rw [List.length_map, hlen, Nat.mul_one])⟩
    refine .ro (fun i => .int k (zs.getD i 0)) (by rw [List.length_map, hlen, Nat.mul_one]) ?_ ⟨fun h => (by cases h), fun _ => ⟨x, cap, rfl, hl, ?_⟩⟩ fun i av hi => ?_
    · rw [lfs_iff]; intro y hy; obtain ⟨n, _, rfl⟩ := List.mem_map.1 hy; rfl
    · rw [List.length_map, hlen]
      by_cases h0 : len = 0
      · exact .inl h0
      · right
        obtain ⟨b, off, spot⟩ := x
        have hc := hcell 0 (by omega)
        have hspot : spot = none := by simpa [Addr.add] using World.cell?_spot hc
        subst hspot
        refine ⟨rfl, fun h => h, fun i hi => ⟨?_, rfl⟩⟩
        have := hcell i (by omega)
        rwa [add_off] at this
    · rw [List.getElem?_map] at hi
      obtain ⟨n, hn, rfl⟩ := Option.map_eq_some_iff.1 hi
      rw [List.getElem?_take] at hn
      split at hn
      · rw [List.getD_eq_getElem?_getD, hn]
        exact .v _
      · cases hn
end Go.AM

namespace Go.AM
open Go.RowKit
variable {fid : String → Option FuncId}

theorem wf_u8 {n : Int} (h : (Lit.int .u8 n).wf = true) : ∃ b : UInt8, n = (b.toNat : Int) := by
  have h : (decide ((0 : Int) ≤ n) && decide (n ≤ 255)) = true := h
  simp only [Bool.and_eq_true, decide_eq_true_eq] at h
  refine ⟨UInt8.ofNat n.toNat, ?_⟩
  rw [UInt8.toNat_ofNat']
  omega

theorem wf_u32 {n : Int} (h : (Lit.int .u32 n).wf = true) : Value.int .u32 n = u32 (BitVec.ofInt 32 n) := by
  have h : (decide ((0 : Int) ≤ n) && decide (n ≤ 4294967295)) = true := h
  simp only [Bool.and_eq_true, decide_eq_true_eq] at h
  rw [u32, BitVec.toNat_ofInt]
  congr 1
  omega

theorem read_bytes {w a len cap zs} (h : IsRow .u8 w a len cap zs) : ∃ (av : AV) (bs : List UInt8), bs.length = len ∧
    Rep fid w (fun _ => False) (fun _ => none) (.slice a len cap) av ∧ ∀ h, View h av 1 bs.length (bs.map byteAV) := by
  obtain ⟨av, ns, hlen, hwf, hr, hv⟩ := read_ints (fid := fid) h
  obtain ⟨bs, hbs⟩ : ∃ bs : List UInt8, ns = bs.map fun b => (b.toNat : Int) := by
    clear hlen hr hv
    induction ns with
    | nil => exact ⟨[], rfl⟩
    | cons n ns ih =>
      obtain ⟨b, hb⟩ := wf_u8 (hwf n (by simp))
      obtain ⟨bs, h2⟩ := ih fun m hm => hwf m (by simp [hm])
      exact ⟨b :: bs, by rw [h2, hb]; rfl⟩
  subst hbs
  rw [List.length_map] at hlen
  subst hlen
  refine ⟨av, bs, rfl, hr, fun h => ?_⟩
  have := hv h
  rw [List.map_map] at this
  exact this
end Go.AM
