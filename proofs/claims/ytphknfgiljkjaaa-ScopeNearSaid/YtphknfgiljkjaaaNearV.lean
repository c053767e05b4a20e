import Derived.Test.YtphknfgiljkjaaaNearU
import Derived.Test.YtphknfgiljkjaaaAMC
import Derived.Test.YtphknfgiljkjaaaAMD
import Derived.Test.YtphknfgiljkjaaaScopeA
set_option linter.unusedVariables false
set_option linter.unusedSimpArgs false
namespace Go.AM
open Go.RowKit Go.Proofs
variable {fid : String → Option FuncId} {base : Nat} {w0 w : World} {μ : Lab → Nat × Nat}
theorem slice_shape {h : Hp} {x : Value} {a : AV} {n : Nat} {W M} (R : Rep fid w W M x a) (hl : lenOf a = some n) : ∃ ad C, x = .slice ad n C ∧ n ≤ C ∧ (ad = none → C = 0) := by
  cases a with
  | v y =>
    have := R.v_inv; subst this
    unfold lenOf at hl
    split at hl
    · rename_i e
      cases e; cases hl
      exact ⟨none, 0, rfl, Nat.le_refl _, fun _ => rfl⟩
    · rename_i e; cases e
    · rename_i e; cases e
    · cases hl
  | ro nl esz len cells =>
    simp only [lenOf, Option.some.injEq] at hl; subst hl
    cases R with
    | ro us hlen hlf hro hcs =>
      cases nl with
      | true => obtain ⟨rfl, h0⟩ := hro.1 rfl; subst h0; exact ⟨none, 0, rfl, Nat.le_refl _, fun _ => rfl⟩
      | false => obtain ⟨ad, C, rfl, hle, hrow⟩ := hro.2 rfl; exact ⟨_, C, rfl, hle, fun h => by cases h⟩
  | own ℓ k off len esz cap =>
    simp only [lenOf, Option.some.injEq] at hl; subst hl
    cases R with
    | own hM hn h hlen => obtain ⟨a, C, rfl, hle, h0, _⟩ := hlen; exact ⟨a, C, rfl, hle, fun e => (h0 e).2⟩
  | _ => simp [lenOf] at hl
def itCells (x : ItX) : List AV := [.v (.string x.s), .v (.string x.c), .v (.int .i64 x.q), .v (.bool x.b)]
def itP (x : ItX) : ByteArray × ByteArray := (x.s, x.c)
theorem xItems_inv : ∀ {c : List AV} {is : List (ByteArray × ByteArray)}, xItems c = some is → ∃ xs : List ItX, c = xs.flatMap itCells ∧ is = xs.map itP
  | [], is, h => by cases h; exact ⟨[], rfl, rfl⟩
  | [_], is, h => by simp [xItems] at h
  | [_, _], is, h => by simp [xItems] at h
  | [_, _, _], is, h => by simp [xItems] at h
  | a :: b :: d :: e :: cs, is, h => by
    unfold xItems at h
    split at h <;> try (cases h; done)
    · rename_i e
      simp at e
    · rename_i s q p t cs' e
      simp only [List.cons.injEq] at e
      obtain ⟨rfl, rfl, rfl, rfl, rfl⟩ := e
      obtain ⟨ls', h1, rfl⟩ := Option.map_eq_some_iff.1 h
      obtain ⟨xs, rfl, rfl⟩ := xItems_inv h1
      exact ⟨⟨s, q, p, t⟩ :: xs, rfl, rfl⟩
theorem it_len (xs : List ItX) : (xs.flatMap itCells).length = xs.length * 4 := by
  induction xs with
  | nil => rfl
  | cons x xs ih => simp only [List.flatMap_cons, List.length_append, ih, itCells, List.length_cons, List.length_nil]; omega
theorem it_get {xs : List ItX} {j : Nat} {x : ItX} (hx : xs[j]? = some x) : (xs.flatMap itCells)[j * 4]? = some (.v (.string x.s)) ∧ (xs.flatMap itCells)[j * 4 + 1]? = some (.v (.string x.c)) ∧ (xs.flatMap itCells)[j * 4 + 2]? = some (.v (.int .i64 x.q)) ∧ (xs.flatMap itCells)[j * 4 + 3]? = some (.v (.bool x.b)) := by
  induction xs generalizing j with
  | nil => simp at hx
  | cons y xs ih =>
    cases j with
    | zero => simp only [List.getElem?_cons_zero, Option.some.injEq] at hx; subst hx; exact ⟨rfl, rfl, rfl, rfl⟩
    | succ j =>
      have := ih (j := j) (by simpa using hx)
      have e : ∀ k, ((y :: xs).flatMap itCells)[(j + 1) * 4 + k]? = (xs.flatMap itCells)[j * 4 + k]? := fun k => by
        simp only [List.flatMap_cons]
        rw [List.getElem?_append_right (by simp [itCells]; omega)]
        congr 1
        simp [itCells]; omega
      have e0 := e 0
      rw [Nat.add_zero, Nat.add_zero] at e0
      exact ⟨by rw [e0]; exact this.1, by rw [e]; exact this.2.1, by rw [e]; exact this.2.2.1, by rw [e]; exact this.2.2.2⟩
theorem xStrs_inv : ∀ {cs : List AV} {l : List ByteArray}, xStrs cs = some l → cs = l.map fun b => .v (.string b)
  | [], l, h => by cases h; rfl
  | a :: cs, l, h => by
    unfold xStrs at h
    split at h <;> try (cases h; done)
    · rename_i e; simp at e
    · rename_i s cs' e
      simp only [List.cons.injEq] at e
      obtain ⟨rfl, rfl⟩ := e
      obtain ⟨l', h1, rfl⟩ := Option.map_eq_some_iff.1 h
      rw [xStrs_inv h1]; rfl
theorem xNames_inv {a : AV} {l : List ByteArray} (h : xNames a = some l) : l.length ≤ 1000000 ∧ ((a = .v (.slice none 0 0) ∧ l = []) ∨ ∃ nl, a = .ro nl 1 l.length (l.map fun b => .v (.string b))) := by
  unfold xNames at h
  split at h <;> try (cases h; done)
  · cases h; exact ⟨by simp, .inl ⟨rfl, rfl⟩⟩
  · rename_i nl n cs
    split at h
    · rename_i hc
      have := xStrs_inv h
      subst this
      have e : l.length = n := by simpa using hc.1
      subst e
      exact ⟨hc.2, .inr ⟨nl, rfl⟩⟩
    · cases h
theorem xNames_len {a : AV} {l : List ByteArray} (h : xNames a = some l) : lenOf a = some l.length := by
  rcases (xNames_inv h).2 with ⟨rfl, rfl⟩ | ⟨nl, rfl⟩ <;> rfl
theorem names_rep {W' : Nat → Prop} {M : Lab → Option LInfo} {W : World} {x : Value} {a : AV} {l : List ByteArray} (R : Rep fid w W' M x a) (hn : xNames a = some l) (hb : Below w.heap.size w W) :
    Rep fid W (fun _ => False) (fun _ => none) x a := by
  rcases (xNames_inv hn).2 with ⟨rfl, rfl⟩ | ⟨nl, rfl⟩
  · have := R.v_inv; subst this; exact .v _
  · cases R with
    | ro us hlen hlf hro hcs =>
      refine .ro us hlen hlf ⟨hro.1, fun h => ?_⟩ fun i b hb => ?_
      · obtain ⟨ad, C, rfl, hle, hrow⟩ := hro.2 h
        refine ⟨ad, C, rfl, hle, ?_⟩
        rcases hrow with h0 | ⟨h1, _, h3⟩
        · exact .inl h0
        · refine .inr ⟨h1, fun h => h, fun i hi => ?_⟩
          obtain ⟨h4, h5⟩ := h3 i hi
          exact ⟨(hb.cell (p := ⟨ad.block, ad.off + i, none⟩) (World.block_lt_of_cell? w _ h4)).trans h4, h5⟩
      · have h2 := hcs i b hb
        rw [List.getElem?_map] at hb
        obtain ⟨y, _, rfl⟩ := Option.map_eq_some_iff.1 hb
        rw [h2.v_inv]; exact .v _
theorem xScopes_inv : ∀ {cs : List AV} {ss : List (List ByteArray × List ByteArray)}, xScopes cs = some ss → cs.length = ss.length * 2 ∧ ∀ (j : Nat) s, ss[j]? = some s → ∃ a b, cs[j * 2]? = some a ∧ cs[j * 2 + 1]? = some b ∧ xNames a = some s.1 ∧ xNames b = some s.2
  | [], ss, h => by cases h; exact ⟨rfl, fun j s h => by simp at h⟩
  | [_], ss, h => by simp [xScopes] at h
  | a :: b :: cs, ss, h => by
    unfold xScopes at h
    obtain ⟨s, h1, h⟩ := Option.bind_eq_some_iff.1 h
    obtain ⟨c, h2, h⟩ := Option.bind_eq_some_iff.1 h
    obtain ⟨ss', h3, rfl⟩ := Option.map_eq_some_iff.1 h
    obtain ⟨i1, i2⟩ := xScopes_inv h3
    refine ⟨by simp [i1]; omega, fun j x hx => ?_⟩
    cases j with
    | zero =>
      simp only [List.getElem?_cons_zero, Option.some.injEq] at hx
      subst hx
      exact ⟨a, b, rfl, rfl, h1, h2⟩
    | succ j =>
      obtain ⟨a', b', e1, e2, e3⟩ := i2 j x (by simpa using hx)
      refine ⟨a', b', ?_, ?_, e3⟩
      · rw [show (j + 1) * 2 = j * 2 + 1 + 1 by omega]; simpa using e1
      · rw [show (j + 1) * 2 + 1 = j * 2 + 1 + 1 + 1 by omega]; simpa using e2
def toSc : Value → Value → ScX
  | .slice a l c, .slice a' l' c' => ⟨a, l, c, a', l', c'⟩
  | _, _ => ⟨none, 0, 0, none, 0, 0⟩
theorem xWho_snoc {x : ByteArray × ByteArray} : ∀ {ss : List (List ByteArray × List ByteArray)} {k : Nat} {s}, xWho x k (ss ++ [s]) = xWho x k ss ++ if xHas x s then [k + ss.length] else []
  | [], k, s => by simp [xWho]
  | t :: ss, k, s => by
    simp only [List.cons_append, xWho, xWho_snoc, List.append_assoc, List.length_cons]
    rw [show k + 1 + ss.length = k + (ss.length + 1) by omega]
theorem who_eq {x : ByteArray × ByteArray} {ss : List (List ByteArray × List ByteArray)} {H : Nat → Nat → Bool} {i : Nat} (hH : ∀ (j : Nat) s, ss[j]? = some s → H j i = xHas x s) :
    ∀ k, k ≤ ss.length → whoX H i k = xWho x 0 (ss.take k)
  | 0, _ => rfl
  | k + 1, hk => by
    obtain ⟨s, hs⟩ : ∃ s, ss[k]? = some s := ⟨_, List.getElem?_eq_getElem (by omega)⟩
    rw [whoX_succ, who_eq hH k (by omega), List.take_add_one, hs, Option.toList_some, xWho_snoc, hH k s hs, Nat.zero_add, List.length_take, Nat.min_eq_left (by omega)]
theorem into_upd {G : List (Option Blk)} {B : Blk} : (⟨G ++ [some B], []⟩ : Hp).get = upd (⟨G, []⟩ : Hp).get (.o G.length) (some B) := by
  funext ℓ
  cases ℓ with
  | l k => simp [Hp.get, upd]
  | o p =>
    simp only [Hp.get, upd, Lab.o.injEq]
    by_cases h : p = G.length
    · subst h; simp
    · rw [if_neg h]
      by_cases hp : p < G.length
      · rw [List.getElem?_append_left hp]
      · rw [List.getElem?_eq_none (by simp; omega), List.getElem?_eq_none (by omega)]
theorem xIdx_ok {prog0 : String → Option IFn} (h26 : fid "haberdash/scope.Index" = some 26) (h40 : fid "(haberdash/scope.names).has" = some 40)
    (hprog0 : ∀ f F, prog0 f = some F → ∃ id fn, fid f = some id ∧ Try.prog.funcs[id]? = some fn ∧ chkFn Try.prog fid fn F = true)
    (hhas : ∀ (a : AV) (l : List ByteArray) (s : ByteArray), xNames a = some l → Ev prog0 (.call "(haberdash/scope.names).has" [a, .v (.string s)] []) (.ret (.v (.bool (l.any fun b => b.toList == s.toList))) [])) :
    XOk Try.prog fid base w0 "haberdash/scope.Index" := by
  intro args G r hx
  unfold xRun at hx
  rw [if_neg (by decide), if_pos rfl] at hx
  unfold xIdx at hx
  obtain ⟨cs, e1, hx1⟩ := Option.bind_eq_some_iff.1 hx
  clear hx
  split at hx1 <;> try (cases hx1; done)
  rename_i n ic m sc
  obtain ⟨is, e2, hx2⟩ := Option.bind_eq_some_iff.1 hx1
  obtain ⟨ss, e3, hr⟩ := Option.bind_eq_some_iff.1 hx2
  clear hx1 hx2
  split at hr <;> try (cases hr; done)
  rename_i hcond
  obtain ⟨hn, hm, hn6, hm6⟩ := hcond
  obtain ⟨xs, rfl, rfl⟩ := xItems_inv e2
  obtain ⟨hsl, hsc⟩ := xScopes_inv e3
  have hxl : xs.length = n := by simpa using hn
  have hargs : ∃ a a2, args = [a, a2] ∧ lenOf a = some n ∧ (⟨G, []⟩ : Hp).sees a = some (xs.flatMap itCells) ∧ lenOf a2 = some m ∧ (⟨G, []⟩ : Hp).sees a2 = some sc := by
    cases args with
    | nil => simp [Hp.seesAll] at e1
    | cons a rest =>
      simp only [Hp.seesAll] at e1
      obtain ⟨n', f1, e1⟩ := Option.bind_eq_some_iff.1 e1
      obtain ⟨c', f2, e1⟩ := Option.bind_eq_some_iff.1 e1
      obtain ⟨cs', f3, e1⟩ := Option.map_eq_some_iff.1 e1
      simp only [List.cons.injEq, Prod.mk.injEq] at e1
      obtain ⟨⟨rfl, rfl⟩, rfl⟩ := e1
      cases rest with
      | nil => simp [Hp.seesAll] at f3
      | cons b rest =>
        simp only [Hp.seesAll] at f3
        obtain ⟨n2, g1, f3⟩ := Option.bind_eq_some_iff.1 f3
        obtain ⟨c2, g2, f3⟩ := Option.bind_eq_some_iff.1 f3
        obtain ⟨cs2, g3, f3⟩ := Option.map_eq_some_iff.1 f3
        simp only [List.cons.injEq, Prod.mk.injEq] at f3
        obtain ⟨⟨rfl, rfl⟩, rfl⟩ := f3
        cases rest with
        | nil => exact ⟨a, b, rfl, f1, f2, g1, g2⟩
        | cons d rest =>
          simp only [Hp.seesAll] at g3
          obtain ⟨_, _, g3⟩ := Option.bind_eq_some_iff.1 g3
          obtain ⟨_, _, g3⟩ := Option.bind_eq_some_iff.1 g3
          obtain ⟨_, _, g3⟩ := Option.map_eq_some_iff.1 g3
          cases g3
  obtain ⟨a, a2, rfl, hl, hs, hl2, hs2⟩ := hargs
  refine ⟨26, Try.f26, h26, Try.func26, by decide, rfl, fun vs w μ S hO E => ?_⟩
  obtain ⟨x, vs', rfl, R, E'⟩ := Reps.cons_inv E
  obtain ⟨x2, vs'', rfl, R2, E''⟩ := Reps.cons_inv E'
  have := E''.nil_inv; subst this
  obtain ⟨ad, C, us, hxv, hul, RR, h1, hsp, hcell, hnone⟩ := sees_sound S R hl hs
  obtain ⟨ad2, C2, us2, hxv2, hul2, RR2, h12, hsp2, hcell2, hnone2⟩ := sees_sound S R2 hl2 hs2
  subst hxv hxv2
  have hus : ∀ (j : Nat) (v : Value), (xs.flatMap itCells)[j]? = some (.v v) → us[j]? = some v := fun j v hj => by
    have hlt : j < us.length := by rw [hul]; exact (List.getElem?_eq_some_iff.1 hj).1
    have := (RR.2 j us[j] (.v v) (List.getElem?_eq_getElem hlt) hj).v_inv
    rw [List.getElem?_eq_getElem hlt, this]
  have hpl : ∀ {ad : Option Addr} {us : List Value} (hsp : ∀ b, ad = some b → b.spot = none ∨ us = []) (hcell : ∀ b, ad = some b → ∀ i u, us[i]? = some u → w.cell? (b.add i) = some u) (hnone : ad = none → us = []),
      ∃ bb bo, (us ≠ [] → ad = some ⟨bb, bo, none⟩) ∧ (us ≠ [] → bb < w.heap.size) ∧ ∀ j u, us[j]? = some u → w.cell? ⟨bb, bo + j, none⟩ = some u := by
    intro ad us hsp hcell hnone
    cases ad with
    | none => exact ⟨0, 0, fun h => absurd (hnone rfl) h, fun h => absurd (hnone rfl) h, fun j u hj => by rw [hnone rfl] at hj; cases hj⟩
    | some b =>
      obtain ⟨bb, bo, bs⟩ := b
      by_cases h0 : us = []
      · exact ⟨bb, bo, fun h => absurd h0 h, fun h => absurd h0 h, fun j x hj => by rw [h0] at hj; cases hj⟩
      have hs0 := (hsp _ rfl).resolve_right h0
      simp only at hs0
      subst hs0
      have hce : ∀ i u, us[i]? = some u → w.cell? ⟨bb, bo + i, none⟩ = some u := fun i u hu => by
        have := hcell _ rfl i u hu
        rwa [add_off] at this
      refine ⟨bb, bo, fun _ => rfl, fun _ => ?_, hce⟩
      obtain ⟨y, hy⟩ : ∃ y, us[0]? = some y := ⟨_, List.getElem?_eq_getElem (List.length_pos_iff.2 h0)⟩
      exact World.block_lt_of_cell? w _ (hce _ _ hy)
  obtain ⟨bb, bo, p1, p2, p3⟩ := hpl hsp hcell hnone
  obtain ⟨db, dof, q1, q2, q3⟩ := hpl hsp2 hcell2 hnone2
  clear hpl
  obtain ⟨sx, hsx⟩ : ∃ sx : List ScX, sx = (List.range ss.length).map fun j => toSc (us2.getD (j * 2) undef) (us2.getD (j * 2 + 1) undef) := ⟨_, rfl⟩
  have hsxl : sx.length = m := by rw [hsx]; simp [hm]
  have hsc2 : ∀ (j : Nat) s t, ss[j]? = some s → sx[j]? = some t → us2[j * 2]? = some (.slice t.ua t.ul t.uc) ∧ us2[j * 2 + 1]? = some (.slice t.va t.vl t.vc) ∧ t.ul = s.1.length ∧ t.vl = s.2.length ∧
      (∀ W x, Below w.heap.size w W → Calls Try.prog 40 #[.slice t.ua t.ul t.uc, .string x] W fun e w' => e = .returned (.bool (s.1.any fun b => b.toList == x.toList)) ∧ Below W.heap.size W w') ∧
      (∀ W x, Below w.heap.size w W → Calls Try.prog 40 #[.slice t.va t.vl t.vc, .string x] W fun e w' => e = .returned (.bool (s.2.any fun b => b.toList == x.toList)) ∧ Below W.heap.size W w') := by
    intro j s t hs ht
    obtain ⟨a, b, i1, i2, i3, i4⟩ := hsc j s hs
    have g1 : ∃ u, us2[j * 2]? = some u := ⟨_, List.getElem?_eq_getElem (by rw [hul2]; exact (List.getElem?_eq_some_iff.1 i1).1)⟩
    have g2 : ∃ u, us2[j * 2 + 1]? = some u := ⟨_, List.getElem?_eq_getElem (by rw [hul2]; exact (List.getElem?_eq_some_iff.1 i2).1)⟩
    obtain ⟨u, g1⟩ := g1
    obtain ⟨v, g2⟩ := g2
    have r1 := RR2.2 _ _ _ g1 i1
    have r2 := RR2.2 _ _ _ g2 i2
    obtain ⟨au, cu, rfl, _⟩ := slice_shape (h := ⟨[], []⟩) r1 (xNames_len i3)
    obtain ⟨av, cv, rfl, _⟩ := slice_shape (h := ⟨[], []⟩) r2 (xNames_len i4)
    have hj : j < ss.length := (List.getElem?_eq_some_iff.1 hs).1
    rw [hsx, List.getElem?_map, List.getElem?_range hj] at ht
    simp only [Option.map_some, Option.some.injEq, List.getD_eq_getElem?_getD, g1, g2, Option.getD_some, toSc] at ht
    subst ht
    refine ⟨g1, g2, rfl, rfl, fun W x hW => ?_, fun W x hW => ?_⟩
    · exact law_calls (w := W) (vs := [_, .string x]) hprog0 h40 (.cons (names_rep r1 i3 hW) (.cons (.v _) .nil)) (hhas a s.1 x i3)
    · exact law_calls (w := W) (vs := [_, .string x]) hprog0 h40 (.cons (names_rep r2 i4 hW) (.cons (.v _) .nil)) (hhas b s.2 x i4)
  have hsxg : ∀ (j : Nat) t, sx[j]? = some t → ∃ s, ss[j]? = some s := fun j t ht => ⟨_, List.getElem?_eq_getElem (by rw [hm, ← hsxl]; exact (List.getElem?_eq_some_iff.1 ht).1)⟩
  have hle1 : ∀ (j : Nat) s, ss[j]? = some s → s.1.length ≤ 1000000 ∧ s.2.length ≤ 1000000 := fun j s hs => by
    obtain ⟨a, b, _, _, i3, i4⟩ := hsc j s hs
    exact ⟨(xNames_inv i3).1, (xNames_inv i4).1⟩
  obtain ⟨HH, hHH⟩ : ∃ H : Nat → Nat → Bool, H = fun j i => match ss[j]?, xs[i]? with | some s, some x => xHas (itP x) s | _, _ => decide ((match sx[j]? with | some t => t.ul + t.vl | none => 1) = 0) := ⟨_, rfl⟩
  obtain ⟨H1, hH1⟩ : ∃ H : Nat → Nat → Bool, H = fun j i => match ss[j]?, xs[i]? with | some s, some x => s.1.any fun b => b.toList == x.s.toList | _, _ => false := ⟨_, rfl⟩
  obtain ⟨H2, hH2⟩ : ∃ H : Nat → Nat → Bool, H = fun j i => match ss[j]?, xs[i]? with | some s, some x => s.2.any fun b => b.toList == x.c.toList | _, _ => false := ⟨_, rfl⟩
  have hu := index_in Fence.wide 6 trivial trivial rfl (by omega) bb bo C db dof C2 xs sx (by omega) (by omega) ad
    (fun h => p1 (fun e => h (by rw [e, it_len] at hul; exact List.eq_nil_of_length_eq_zero (by simp at hul; omega))))
    ad2 (fun h => q1 (fun e => h (by rw [e, hsl] at hul2; exact List.eq_nil_of_length_eq_zero (by simp at hul2; omega)))) w
    (fun h => p2 (fun e => h (by rw [e, it_len] at hul; exact List.eq_nil_of_length_eq_zero (by simp at hul; omega))))
    (fun h => q2 (fun e => h (by rw [e, hsl] at hul2; exact List.eq_nil_of_length_eq_zero (by simp at hul2; omega))))
    (fun j x hj => by
      obtain ⟨g0, g1, g2, g3⟩ := it_get hj
      exact ⟨p3 _ _ (hus _ _ g0), p3 _ _ (hus _ _ g1), p3 _ _ (hus _ _ g2), p3 _ _ (hus _ _ g3)⟩)
    (fun j t hj => by
      obtain ⟨s, hs⟩ := hsxg j t hj
      obtain ⟨g0, g1, _⟩ := hsc2 j s t hs hj
      exact ⟨q3 _ _ g0, q3 _ _ g1⟩)
    (fun j t hj => by
      obtain ⟨s, hs⟩ := hsxg j t hj
      obtain ⟨_, _, g2, g3, _⟩ := hsc2 j s t hs hj
      have := hle1 j s hs
      omega)
    H1 H2 HH
    (fun j i t hj => by
      obtain ⟨s, hs⟩ := hsxg j t hj
      obtain ⟨_, _, g2, g3, _⟩ := hsc2 j s t hs hj
      rw [hHH, hH1, hH2]
      simp only [hs, hj]
      cases hx : xs[i]? with
      | none => simp
      | some x => simp only [xHas, itP, g2, g3])
    (fun j i t x hj hx W hW => callsIn_wide.2 (by
      obtain ⟨s, hs⟩ := hsxg j t hj
      obtain ⟨_, _, _, _, g4, _⟩ := hsc2 j s t hs hj
      rw [hH1]; simp only [hs, hx]
      exact g4 W x.s hW))
    (fun j i t x hj hx W hW => callsIn_wide.2 (by
      obtain ⟨s, hs⟩ := hsxg j t hj
      obtain ⟨_, _, _, _, _, g5⟩ := hsc2 j s t hs hj
      rw [hH2]; simp only [hs, hx]
      exact g5 W x.c hW))
  rw [hxl, hsxl] at hu
  refine Calls.mono (callsIn_wide.1 hu) ?_
  rintro e w' ⟨rfl, hrows, hb⟩
  simp only [Option.some.injEq] at hr
  subst hr
  obtain ⟨vs, hg, hvs, _, hrow, hdis⟩ := id hrows
  have hnot : ∀ (i : Nat) v, vs[i]? = some v → v.ownBlock ≠ some w.heap.size := fun i v hv => hrows.not_out hg hv
  have hwho : ∀ (i : Nat) x, xs[i]? = some x → whoX HH i m = xWho (itP x) 0 ss := fun i x hx => by
    rw [who_eq (x := itP x) (ss := ss) (fun j s hs => by rw [hHH]; simp only [hs, hx]) m (by omega), ← hm, List.take_length]
  obtain ⟨B, hB⟩ : ∃ B : Blk, B = { cells := (xs.map itP).map fun x => xRow (xWho x 0 ss), opn := false, wr := true, data := true, virt := false } := ⟨_, rfl⟩
  have hBc : B.cells.length = n := by rw [hB]; simp [hxl]
  have hnone : (⟨G, []⟩ : Hp).get (.o G.length) = none := by simp [Hp.get]
  have u : Upd w μ (⟨G, []⟩ : Hp).get w' (.o G.length) w.heap.size n B := by
    refine ⟨fun k hk _ => hb.block k hk, hb.size, hb.os, hb.tape, hb.output, .inr (.inr (Nat.le_refl _)), fun _ _ => .inr (Nat.le_refl _), fun B0 h0 => ?_, fun _ => .inl (Nat.le_refl _)⟩
    rw [hnone] at h0; cases h0
  have p := u.pres
  have hcells : ∀ (i : Nat) a, B.cells[i]? = some a → ∃ x, xs[i]? = some x ∧ a = xRow (xWho (itP x) 0 ss) := fun i a ha => by
    rw [hB] at ha
    simp only [List.getElem?_map] at ha
    cases hx : xs[i]? with
    | none => rw [hx] at ha; simp at ha
    | some x => rw [hx] at ha; simp at ha; exact ⟨x, rfl, ha.symm⟩
  have hnW : ∀ (i : Nat) v g, vs[i]? = some v → v.ownBlock = some g → w.heap.size ≤ g → ¬ Wr (upd μ (.o G.length) (w.heap.size, n)) (upd (⟨G, []⟩ : Hp).get (.o G.length) (some B)) g := fun i v g hv hg hle hW => by
    obtain ⟨ℓ, B', h1, h2, h3, h4⟩ := hW
    unfold upd at h1 h4
    by_cases e : ℓ = .o G.length
    · rw [if_pos e] at h4
      simp only at h4
      exact hnot i v hv (by rw [hg, h4])
    · rw [if_neg e] at h1 h4
      have := (S.ok.blk ℓ B' h1).lt h3
      omega
  have hrep : ∀ (i : Nat) v x, vs[i]? = some v → xs[i]? = some x → Rep fid w' (Wr (upd μ (.o G.length) (w.heap.size, n)) (upd (⟨G, []⟩ : Hp).get (.o G.length) (some B))) (info (upd μ (.o G.length) (w.heap.size, n)) (upd (⟨G, []⟩ : Hp).get (.o G.length) (some B))) v (xRow (xWho (itP x) 0 ss)) := fun i v x hv hx => by
    obtain ⟨ho, _, hnil⟩ := hrow i v hv
    dsimp only at ho hnil
    rw [hwho i x hx] at ho hnil
    generalize xWho (itP x) 0 ss = l at *
    unfold xRow
    by_cases hl : l = []
    · rw [if_pos hl, hnil.2 hl]; exact .v _
    · rw [if_neg hl]
      have hcs := fun g => World.ownsRow.cells ho (g := g)
      rcases ho.2 with ⟨_, h0⟩ | ⟨g, cap, cur, rfl, hgb, hgc, hgn, hgm, hgs, hgt⟩
      · exact absurd (List.eq_nil_of_length_eq_zero h0) hl
      · refine .ro (fun i => (l.map fun (k : Nat) => Value.int .i64 (k : Int)).getD i undef) (by simp) (lfs_iff.2 fun a ha => by obtain ⟨y, _, rfl⟩ := List.mem_map.1 ha; rfl) ⟨fun h => (by cases h), fun _ => ⟨⟨g, 0, none⟩, cap, rfl, hgn, .inr ⟨rfl, hnW i _ g hv rfl hgb, fun i hi => ?_⟩⟩⟩ fun i b hb => ?_
        · obtain ⟨y, hy⟩ : ∃ y, l[i]? = some y := ⟨_, List.getElem?_eq_getElem (by simpa using hi)⟩
          have hu : (l.map fun (k : Nat) => Value.int .i64 (k : Int))[i]? = some (.int .i64 (y : Int)) := by rw [List.getElem?_map, hy]; rfl
          have := hcs g rfl i _ hu
          rw [add_off] at this
          simp only [List.getD_eq_getElem?_getD, hu, Option.getD_some]
          exact ⟨this, rfl⟩
        · rw [List.getElem?_map] at hb
          obtain ⟨y, hy, rfl⟩ := Option.map_eq_some_iff.1 hb
          have hu : (l.map fun (k : Nat) => Value.int .i64 (k : Int))[i]? = some (.int .i64 (y : Int)) := by rw [List.getElem?_map, hy]; rfl
          simp only [List.getD_eq_getElem?_getD, hu, Option.getD_some]
          exact .v _
  have S' := u.sim S (fun k hk => hb.block k (Nat.lt_of_lt_of_le hk S.le)) ⟨fun h => by rw [hB] at h; simp at h, fun _ => lfs_iff.2 fun a ha => by
      obtain ⟨i, hi⟩ := List.mem_iff_getElem?.1 ha
      obtain ⟨x, _, rfl⟩ := hcells i a hi
      unfold xRow
      split <;> rfl, fun _ => by
      refine ⟨vs, 66, 0, 0, hg, by rw [hvs], .inl rfl, by rw [hBc]; exact Nat.le_refl _, fun _ => hBc, S.le, fun x hx => ?_, fun i a ha => ?_⟩
      · obtain ⟨i, hi⟩ := Array.mem_iff_getElem?.1 hx
        obtain ⟨ho, _⟩ := hrow i x hi
        rcases ho.2 with ⟨rfl, _⟩ | ⟨g, cap, cur, rfl, _⟩ <;> rfl
      · obtain ⟨x, hx, rfl⟩ := hcells i a ha
        obtain ⟨v, hv⟩ : ∃ v, vs[i]? = some v := ⟨_, Array.getElem?_eq_getElem (by rw [hvs, ← hxl]; exact (List.getElem?_eq_some_iff.1 hx).1)⟩
        exact ⟨v, hv, hrep i v x hv hx⟩⟩
  rw [← into_upd] at S' p
  have hinfo : info (upd μ (.o G.length) (w.heap.size, n)) (⟨G ++ [some B], []⟩ : Hp).get (.o G.length) = some ⟨w.heap.size, n, false, n⟩ := by
    rw [into_upd]
    simp only [info, upd, if_true, Option.map_some, Option.some.injEq, LInfo.mk.injEq, true_and, and_true]
    exact ⟨hBc, by rw [hB]⟩
  refine ⟨_, rfl, ⟨upd μ (.o G.length) (w.heap.size, n), ?_, ?_, ?_⟩, ?_⟩
  · rw [← hB]; exact S'
  · rw [← hB]; exact p
  · simp only
    rw [← hB]
    refine .own hinfo (Nat.le_refl _) (fun _ => ?_) ⟨_, n, rfl, Nat.le_refl _, fun h => (by cases h), fun c h => (by cases h; rfl)⟩
    unfold OwnOK
    simp only [Bool.false_eq_true, if_false]
    exact ⟨_, n, rfl, Nat.le_refl _, .inr rfl, by omega, fun c h => (by cases h; exact ⟨rfl, by omega⟩), fun h => (by cases h), by omega⟩
  · intro k X hk
    simp only at hk
    by_cases hkl : k < G.length
    · rw [List.getElem?_append_left hkl] at hk; exact hO k X hk
    · rw [List.getElem?_append_right (by omega)] at hk
      have : X = B := by
        cases hj : k - G.length with
        | zero => rw [hj] at hk; cases hk; rw [hB]
        | succ j => rw [hj] at hk; cases hk
      subst this; rw [hB]; rfl
end Go.AM
namespace Go.AM
variable {prog : String → Option IFn}
theorem xStrs_of : ∀ {cs : List AV} {l : List ByteArray}, xStrs cs = some l → cs = sEnc.row (l.map fun b => b.data.toList)
  | [], l, h => by cases h; rfl
  | a :: cs, l, h => by
    unfold xStrs at h
    split at h <;> try (cases h; done)
    · rename_i e; simp at e
    · rename_i s cs' e
      simp only [List.cons.injEq] at e
      obtain ⟨rfl, rfl⟩ := e
      obtain ⟨l', h1, rfl⟩ := Option.map_eq_some_iff.1 h
      rw [xStrs_of h1]
      simp only [List.map_cons, Enc.row, List.flatMap_cons]
      rw [str_of]
      rfl
theorem xNames_view {a : AV} {l : List ByteArray} (h : xNames a = some l) : (l.map fun b => b.data.toList).length ≤ maxLen ∧ ∀ h, TView sEnc h a (l.map fun b => b.data.toList) := by
  unfold xNames at h
  split at h <;> try (cases h; done)
  · cases h
    exact ⟨by simp, fun h => view_nil (by decide)⟩
  · rename_i nl n cs
    split at h
    · rename_i hc
      have := xStrs_of h
      subst this
      have e : n = (l.map fun b => b.data.toList).length := by
        have := hc.1
        rw [sEnc.row_len, show sEnc.esz = 1 from rfl, Nat.mul_one] at this
        exact this.symm
      refine ⟨by rw [← e]; have := hc.2; unfold maxLen; omega, fun h => ?_⟩
      unfold TView
      rw [← e]
      exact view_ro (by decide) (by rw [hc.1]; exact (Nat.mul_one _).symm)
    · cases h
theorem xhas_of (H : ScopeLib prog) : ∀ (a : AV) (l : List ByteArray) (s : ByteArray), xNames a = some l → Ev prog (.call "(haberdash/scope.names).has" [a, .v (.string s)] []) (.ret (.v (.bool (l.any fun b => b.toList == s.toList))) []) := fun a l s h => by
  obtain ⟨h1, h2⟩ := xNames_view h
  have := nhas_spec H (G := []) (a := a) (x := s.data.toList) (fun L => h2 _) h1
  rw [← str_of] at this
  have e : decide (s.data.toList ∈ l.map fun b => b.data.toList) = l.any fun b => b.toList == s.toList := by
    rw [eq_comm, Bool.eq_iff_iff]
    simp only [List.any_eq_true, decide_eq_true_eq, List.mem_map, beq_iff_eq, ByteArray.toList_eq]
  rw [e] at this
  exact this
end Go.AM
