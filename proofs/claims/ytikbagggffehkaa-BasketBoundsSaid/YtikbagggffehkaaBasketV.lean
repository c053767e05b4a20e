import Derived.Test.YtikbagggffehkaaBasketU
import Derived.Test.YtikbagggffehkaaAMC
import Derived.Test.YtikbagggffehkaaAMD
import Derived.Test.YtikbagggffehkaaBasketA
set_option linter.unusedVariables false
set_option linter.unusedSimpArgs false
namespace Go.AM
open Go.RowKit Go.Proofs
variable {fid : String → Option FuncId} {base : Nat} {w0 w : World} {μ : Lab → Nat × Nat}
theorem slice_shape {h : Hp} {x : Value} {a : AV} {n : Nat} {W M} (R : Rep fid w W M x a) (hl : lenOf a = some n) : ∃ ad C, x = .slice ad n C ∧ n ≤ C ∧ (ad = none → C = 0) := by
  cases a with
  | v y =>
    have := R.v_inv; subst this
    unfold lenOf at hl
    split at hl
    · rename_i e
      cases e; cases hl
      exact ⟨none, 0, rfl, Nat.le_refl _, fun _ => rfl⟩
    · rename_i e; cases e
    · rename_i e; cases e
    · cases hl
  | ro nl esz len cells =>
    simp only [lenOf, Option.some.injEq] at hl; subst hl
    cases R with
    | ro us hlen hlf hro hcs =>
      cases nl with
      | true => obtain ⟨rfl, h0⟩ := hro.1 rfl; subst h0; exact ⟨none, 0, rfl, Nat.le_refl _, fun _ => rfl⟩
      | false => obtain ⟨ad, C, rfl, hle, hrow⟩ := hro.2 rfl; exact ⟨_, C, rfl, hle, fun h => by cases h⟩
  | own ℓ k off len esz cap =>
    simp only [lenOf, Option.some.injEq] at hl; subst hl
    cases R with
    | own hM hn h hlen => obtain ⟨a, C, rfl, hle, h0, _⟩ := hlen; exact ⟨a, C, rfl, hle, fun e => (h0 e).2⟩
  | _ => simp [lenOf] at hl
abbrev LnV := ByteArray × Int × Int
def lnCells (x : LnV) : List AV := [.v (.string x.1), .v (.int .i64 x.2.1), .v (.int .i64 x.2.2)]
theorem xLines_inv : ∀ {c : List AV} {ls : List (Int × Int)}, xLines c = some ls → ∃ xs : List LnV, c = xs.flatMap lnCells ∧ ls = xs.map (·.2)
  | [], ls, h => by cases h; exact ⟨[], rfl, rfl⟩
  | [_], ls, h => by simp [xLines] at h
  | [_, _], ls, h => by simp [xLines] at h
  | a :: b :: d :: cs, ls, h => by
    unfold xLines at h
    split at h <;> try (cases h; done)
    · rename_i e
      simp at e
    · rename_i s q p cs' e
      simp only [List.cons.injEq] at e
      obtain ⟨rfl, rfl, rfl, rfl⟩ := e
      obtain ⟨ls', h1, rfl⟩ := Option.map_eq_some_iff.1 h
      obtain ⟨xs, rfl, rfl⟩ := xLines_inv h1
      exact ⟨(s, q, p) :: xs, rfl, rfl⟩
theorem ln_len (xs : List LnV) : (xs.flatMap lnCells).length = xs.length * 3 := by
  induction xs with
  | nil => rfl
  | cons x xs ih => simp only [List.flatMap_cons, List.length_append, ih, lnCells, List.length_cons, List.length_nil]; omega
theorem ln_get {xs : List LnV} {j : Nat} {x : LnV} (hx : xs[j]? = some x) : (xs.flatMap lnCells)[j * 3]? = some (.v (.string x.1)) ∧ (xs.flatMap lnCells)[j * 3 + 1]? = some (.v (.int .i64 x.2.1)) ∧ (xs.flatMap lnCells)[j * 3 + 2]? = some (.v (.int .i64 x.2.2)) := by
  induction xs generalizing j with
  | nil => simp at hx
  | cons y xs ih =>
    cases j with
    | zero => simp only [List.getElem?_cons_zero, Option.some.injEq] at hx; subst hx; exact ⟨rfl, rfl, rfl⟩
    | succ j =>
      have := ih (j := j) (by simpa using hx)
      have e : ∀ k, ((y :: xs).flatMap lnCells)[(j + 1) * 3 + k]? = (xs.flatMap lnCells)[j * 3 + k]? := fun k => by
        simp only [List.flatMap_cons]
        rw [List.getElem?_append_right (by simp [lnCells]; omega)]
        congr 1
        simp [lnCells]; omega
      have e0 := e 0
      rw [Nat.add_zero, Nat.add_zero] at e0
      exact ⟨by rw [e0]; exact this.1, by rw [e]; exact this.2.1, by rw [e]; exact this.2.2⟩
theorem ln_lfs (xs : List LnV) : AV.lf.lfs (xs.flatMap lnCells) = true := by
  induction xs with
  | nil => rfl
  | cons x xs ih => rw [List.flatMap_cons, lfs_append, ih]; rfl
theorem ln_v {xs : List LnV} {b : AV} (h : b ∈ xs.flatMap lnCells) : ∃ y, b = .v y := by
  obtain ⟨x, _, hx⟩ := List.mem_flatMap.1 h
  simp only [lnCells, List.mem_cons, List.not_mem_nil, or_false] at hx
  rcases hx with rfl | rfl | rfl <;> exact ⟨_, rfl⟩
def lnX (x : LnV) (h : x.2.1 ≤ 100000) : LnX := ⟨x.1, x.2.1.toNat, x.2.2, by omega⟩
def toX : List LnV → List LnX
  | [] => []
  | x :: xs => (if h : x.2.1 ≤ 100000 then [lnX x h] else []) ++ toX xs
theorem toX_get : ∀ {xs : List LnV}, (∀ x ∈ xs, 0 ≤ x.2.1 ∧ x.2.1 ≤ 100000) → (toX xs).length = xs.length ∧ ∀ (j : Nat) (y : LnX), (toX xs)[j]? = some y → ∃ x, xs[j]? = some x ∧ y.s = x.1 ∧ (y.q : Int) = x.2.1 ∧ y.p = x.2.2
  | [], _ => ⟨rfl, fun j y h => by simp [toX] at h⟩
  | x :: xs, h => by
    have hx := h x (by simp)
    obtain ⟨h1, h2⟩ := toX_get (xs := xs) fun y hy => h y (by simp [hy])
    have e : toX (x :: xs) = lnX x hx.2 :: toX xs := by simp [toX, hx.2]
    rw [e]
    refine ⟨by simp [h1], fun j y hj => ?_⟩
    cases j with
    | zero =>
      simp only [List.getElem?_cons_zero, Option.some.injEq] at hj
      subst hj
      exact ⟨x, rfl, rfl, by show ((x.2.1.toNat : Nat) : Int) = _; omega, rfl⟩
    | succ j =>
      obtain ⟨z, h3, h4⟩ := h2 j y (by simpa using hj)
      exact ⟨z, by simpa using h3, h4⟩
def uCells (us : List (Nat × Int)) : List AV := us.flatMap fun u => xUnit u.1 u.2
theorem xUnits_out : ∀ {xs : List LnV} {i : Nat}, (∀ x ∈ xs, 0 ≤ x.2.1 ∧ x.2.1 ≤ 100000) → xUnits i (xs.map (·.2)) = uCells (outX i (toX xs))
  | [], i, _ => rfl
  | x :: xs, i, h => by
    have hx := h x (by simp)
    have e : toX (x :: xs) = lnX x hx.2 :: toX xs := by simp [toX, hx.2]
    rw [e]
    show (List.replicate x.2.1.toNat (xUnit i x.2.2)).flatten ++ xUnits (i + 1) (xs.map (·.2)) = _
    rw [xUnits_out fun y hy => h y (by simp [hy])]
    simp [uCells, outX, lnX, List.flatMap_def]
theorem uCells_len (us : List (Nat × Int)) : (uCells us).length = us.length * 3 := by
  induction us with
  | nil => rfl
  | cons u us ih => simp only [uCells, List.flatMap_cons, List.length_append, List.length_cons] at ih ⊢; rw [ih]; simp [xUnit]; omega
theorem uCells_vals (us : List (Nat × Int)) : uCells us = (uVals us).map .v := by
  induction us with
  | nil => rfl
  | cons u us ih => simp only [uCells, uVals, List.flatMap_cons, List.map_append] at ih ⊢; rw [ih]; rfl
theorem out_sum : ∀ {xs : List LnV} {i : Nat}, (∀ x ∈ xs, 0 ≤ x.2.1 ∧ x.2.1 ≤ 100000) → ((outX i (toX xs)).length : Int) = (xSum (xs.map (·.2))).1
  | [], i, _ => rfl
  | x :: xs, i, h => by
    have hx := h x (by simp)
    have e : toX (x :: xs) = lnX x hx.2 :: toX xs := by simp [toX, hx.2]
    rw [e]
    have := out_sum (xs := xs) (i := i + 1) fun y hy => h y (by simp [hy])
    show ((List.replicate (lnX x hx.2).q (i, (lnX x hx.2).p) ++ outX (i + 1) (toX xs)).length : Int) = x.2.1 + (xSum (xs.map (·.2))).1
    rw [List.length_append, List.length_replicate, ← this]
    show ((x.2.1.toNat + _ : Nat) : Int) = _
    omega
theorem sim_grown {w' : World} {get : Lab → Option Blk} (S : Sim fid base w0 w μ get) (hb : Below w.heap.size w w') : Sim fid base w0 w' μ get ∧ Pres w (Wr μ get) (info μ get) w' (Wr μ get) (info μ get) := by
  have p : Pres w (Wr μ get) (info μ get) w' (Wr μ get) (info μ get) := ⟨fun b hb' _ => hb.block b hb', fun _ _ h => h, fun _ I h => ⟨I, h, .inl rfl⟩, hb.size⟩
  refine ⟨⟨S.below.trans (hb.mono S.le), Nat.le_trans S.le hb.size, fun ℓ B hB => ?_, S.ok.inj⟩, p⟩
  have hB0 := S.ok.blk ℓ B hB
  by_cases hv : B.virt = true
  · exact ⟨hB0.virt, hB0.data, fun h => by simp [hv] at h⟩
  · exact hB0.pres p (hb.block _ (hB0.lt (by simpa using hv)))
theorem into_upd {G : List (Option Blk)} {B : Blk} : (⟨G ++ [some B], []⟩ : Hp).get = upd (⟨G, []⟩ : Hp).get (.o G.length) (some B) := by
  funext ℓ
  cases ℓ with
  | l k => simp [Hp.get, upd]
  | o p =>
    simp only [Hp.get, upd, Lab.o.injEq]
    by_cases h : p = G.length
    · subst h; simp
    · rw [if_neg h]
      by_cases hp : p < G.length
      · rw [List.getElem?_append_left hp]
      · rw [List.getElem?_eq_none (by simp; omega), List.getElem?_eq_none (by omega)]
theorem xUnits_ok {prog0 : String → Option IFn} (h21 : fid "haberdash/basket.Units" = some 21) (h50 : fid "haberdash/basket.may" = some 50)
    (hprog0 : ∀ f F, prog0 f = some F → ∃ id fn, fid f = some id ∧ Try.prog.funcs[id]? = some fn ∧ chkFn Try.prog fid fn F = true)
    (hmay : ∀ (nl : Bool) (n : Nat) (xs : List LnV), xs.length = n → n ≤ maxLen → Ev prog0 (.call "haberdash/basket.may" [.ro nl 3 n (xs.flatMap lnCells)] []) (.ret (.v (.bool (xMay (xs.map (·.2))))) [])) :
    XOk Try.prog fid base w0 "haberdash/basket.Units" := by
  intro args G r hx
  unfold xRun at hx
  obtain ⟨cs, e1, hx1⟩ := Option.bind_eq_some_iff.1 hx
  obtain ⟨q, e2, hr⟩ := Option.bind_eq_some_iff.1 hx1
  clear hx hx1
  unfold xCells at e2
  rw [if_pos rfl] at e2
  split at e2 <;> try (cases e2; done)
  rename_i n c
  split at e2 <;> try (cases e2; done)
  rename_i hcl0
  obtain ⟨hcl, hn6⟩ := hcl0
  obtain ⟨ls, e3, rfl⟩ := Option.map_eq_some_iff.1 e2
  obtain ⟨xs, rfl, rfl⟩ := xLines_inv e3
  have hxl : xs.length = n := by rw [ln_len] at hcl; omega
  have hargs : ∃ a, args = [a] ∧ lenOf a = some n ∧ (⟨G, []⟩ : Hp).sees a = some (xs.flatMap lnCells) := by
    cases args with
    | nil => simp [Hp.seesAll] at e1
    | cons a rest =>
      simp only [Hp.seesAll] at e1
      obtain ⟨n', f1, e1⟩ := Option.bind_eq_some_iff.1 e1
      obtain ⟨c', f2, e1⟩ := Option.bind_eq_some_iff.1 e1
      obtain ⟨cs', f3, e1⟩ := Option.map_eq_some_iff.1 e1
      simp only [List.cons.injEq, Prod.mk.injEq] at e1
      obtain ⟨⟨rfl, rfl⟩, rfl⟩ := e1
      cases rest with
      | nil => exact ⟨a, rfl, f1, f2⟩
      | cons b rest =>
        simp only [Hp.seesAll] at f3
        obtain ⟨_, _, f3⟩ := Option.bind_eq_some_iff.1 f3
        obtain ⟨_, _, f3⟩ := Option.bind_eq_some_iff.1 f3
        obtain ⟨_, _, f3⟩ := Option.map_eq_some_iff.1 f3
        cases f3
  obtain ⟨a, rfl, hl, hs⟩ := hargs
  refine ⟨21, Try.f21, h21, Try.func21, by decide, rfl, fun vs w μ S hO E => ?_⟩
  obtain ⟨x, vs', rfl, R, E'⟩ := Reps.cons_inv E
  have := E'.nil_inv; subst this
  obtain ⟨ad, C, us, hxv, hul, RR, h1, hsp, hcell, hnone⟩ := sees_sound S R hl hs
  obtain ⟨ad', C', hxv', hle, hC0⟩ := slice_shape (h := ⟨G, []⟩) R hl
  have hx2 := hxv.symm.trans hxv'
  simp only [Value.slice.injEq] at hx2
  obtain ⟨rfl, _, rfl⟩ := hx2
  subst hxv
  have hus : ∀ (j : Nat) (v : Value), (xs.flatMap lnCells)[j]? = some (.v v) → us[j]? = some v := fun j v hj => by
    have hlt : j < us.length := by rw [hul]; exact (List.getElem?_eq_some_iff.1 hj).1
    have := (RR.2 j us[j] (.v v) (List.getElem?_eq_getElem hlt) hj).v_inv
    rw [List.getElem?_eq_getElem hlt, this]
  have hmax : n ≤ maxLen := by unfold maxLen; omega
  have hm := law_calls (w := w) (vs := [.slice ad n C]) hprog0 h50 (args := [.ro ad.isNone 3 n (xs.flatMap lnCells)]) (x := .bool (xMay (xs.map (·.2)))) (by
    refine .cons (.ro (fun i => us.getD i undef) (by rw [ln_len]; omega) (ln_lfs xs) ⟨fun h => ?_, fun h => ?_⟩ fun i b hb => ?_) .nil
    · cases ad with
      | none => 
        have h0 := hnone rfl
        have : n = 0 := by rw [h0, ln_len] at hul; simp at hul; omega
        rw [hC0 rfl, this]; exact ⟨rfl, rfl⟩
      | some b => cases h
    · cases ad with
      | none => cases h
      | some b =>
        refine ⟨b, C, rfl, hle, ?_⟩
        rcases hsp b rfl with h | h
        · refine .inr ⟨h, fun h => h, fun i hi => ?_⟩
          have hlt : i < us.length := by rw [hul]; exact hi
          have hg := List.getElem?_eq_getElem hlt
          have := hcell b rfl i us[i] hg
          obtain ⟨bb, bo, bs⟩ := b
          simp only at h
          subst h
          rw [add_off] at this
          simp only [List.getD_eq_getElem?_getD, hg, Option.getD_some]
          exact ⟨this, h1 _ (List.getElem_mem hlt)⟩
        · exact .inl (by rw [h] at hul; simpa using hul.symm)
    · have hlt : i < us.length := by rw [hul]; exact (List.getElem?_eq_some_iff.1 hb).1
      have hg := List.getElem?_eq_getElem hlt
      simp only [List.getD_eq_getElem?_getD, hg, Option.getD_some]
      obtain ⟨y, rfl⟩ := ln_v (List.mem_of_getElem? hb)
      rw [(RR.2 i us[i] _ hg hb).v_inv]; exact .v _) (hmay ad.isNone n xs hxl hmax)
  by_cases hM : xMay (xs.map (·.2)) = true
  · have hM' := hM
    unfold xMay at hM'
    simp only [Bool.and_eq_true, decide_eq_true_eq, List.all_eq_true, List.length_map] at hM'
    obtain ⟨⟨m1, m2⟩, m3, m4⟩ := hM'
    have hq : ∀ x ∈ xs, 0 ≤ x.2.1 ∧ x.2.1 ≤ 100000 := fun x hx => by
      have := m2 x.2 (List.mem_map.2 ⟨x, hx, rfl⟩) 
      exact ⟨this.1, this.2.1⟩
    obtain ⟨t1, t2⟩ := toX_get hq
    have hU : ((outX 0 (toX xs)).length : Int) ≤ 100000 := by rw [out_sum hq]; exact m3
    rw [hM] at hm
    rw [if_pos hM, xUnits_out hq] at hr
    have hset : ∀ j (y : LnX), (toX xs)[j]? = some y → us[j * 3]? = some (.string y.s) ∧ us[j * 3 + 1]? = some (.int .i64 y.q) ∧ us[j * 3 + 2]? = some (.int .i64 y.p) := fun j y hj => by
      obtain ⟨z, z1, z2, z3, z4⟩ := t2 j y hj
      obtain ⟨g0, g1, g2⟩ := ln_get z1
      rw [z2, z3, z4]
      exact ⟨hus _ _ g0, hus _ _ g1, hus _ _ g2⟩
    have hlen : (toX xs).length = n := by rw [t1, hxl]
    obtain ⟨bb, bo, hbb, hlt, hcs⟩ : ∃ bb bo, (toX xs ≠ [] → ad = some ⟨bb, bo, none⟩) ∧ (toX xs ≠ [] → bb < w.heap.size) ∧ ∀ j x, (toX xs)[j]? = some x → w.cell? ⟨bb, bo + j * 3, none⟩ = some (.string x.s) ∧ w.cell? ⟨bb, bo + j * 3 + 1, none⟩ = some (.int .i64 x.q) ∧ w.cell? ⟨bb, bo + j * 3 + 2, none⟩ = some (.int .i64 x.p) := by
      cases ad with
      | none =>
        have h0 : toX xs = [] := by
          have h2 := hnone rfl
          rw [h2, ln_len] at hul
          exact List.eq_nil_of_length_eq_zero (by rw [t1]; simp at hul; omega)
        exact ⟨0, 0, fun h => absurd h0 h, fun h => absurd h0 h, fun j x hj => by rw [h0] at hj; cases hj⟩
      | some b =>
        obtain ⟨bb, bo, bs⟩ := b
        by_cases h0 : toX xs = []
        · exact ⟨bb, bo, fun h => absurd h0 h, fun h => absurd h0 h, fun j x hj => by rw [h0] at hj; cases hj⟩
        have hne : us ≠ [] := fun e => h0 (by
          rw [e, ln_len] at hul
          exact List.eq_nil_of_length_eq_zero (by rw [t1]; simp at hul; omega))
        have hs0 := (hsp _ rfl).resolve_right hne
        simp only at hs0
        subst hs0
        have hce : ∀ i u, us[i]? = some u → w.cell? ⟨bb, bo + i, none⟩ = some u := fun i u hu => by
          have := hcell _ rfl i u hu
          rwa [add_off] at this
        refine ⟨bb, bo, fun _ => rfl, fun _ => ?_, fun j x hj => ?_⟩
        · obtain ⟨y, hy⟩ : ∃ y, (toX xs)[0]? = some y := ⟨_, List.getElem?_eq_getElem (List.length_pos_iff.2 h0)⟩
          exact World.block_lt_of_cell? w _ (hce _ _ (hset 0 y hy).1)
        · obtain ⟨g0, g1, g2⟩ := hset j x hj
          exact ⟨hce _ _ g0, hce _ _ g1, hce _ _ g2⟩
    have hu := units_in Fence.wide 6 trivial trivial trivial trivial rfl (by omega) bb bo C (toX xs) (by rw [t1]; omega) (by omega) ad hbb w hlt hcs (by rw [hlen]; exact callsIn_wide.2 hm)
    rw [hlen] at hu
    refine Calls.mono (callsIn_wide.1 hu) ?_
    rintro e w' ⟨v, rfl, hrow, hnil, hone, hb⟩
    generalize outX 0 (toX xs) = U at *
    by_cases h0 : U = []
    · rw [h0] at hr
      have hr : some ((.v (.slice none 0 0) : AV), G) = some r := hr
      cases hr
      rw [hnil.2 h0]
      obtain ⟨S', p'⟩ := sim_grown S hb
      exact ⟨_, rfl, ⟨μ, S', p', .v _⟩, hO⟩
    · have hne : uCells U ≠ [] := fun e => h0 (by
        have h3 : U.length * 3 = 0 := by rw [← uCells_len, e]; rfl
        exact List.eq_nil_of_length_eq_zero (by omega))
      rw [if_neg hne] at hr
      simp only [Option.some.injEq] at hr
      subst hr
      obtain ⟨hxl2, hrow⟩ := hrow
      rcases hrow with ⟨h1, h2⟩ | ⟨g, cap, cur, rfl, hgb, hgc, hgn, hgm, hgs, hgt⟩
      · exact absurd (List.eq_nil_of_length_eq_zero h2) h0
      obtain ⟨B, hB⟩ : ∃ B : Blk, B = { cells := uCells U, opn := true, wr := true, data := true, virt := false } := ⟨_, rfl⟩
      have hBc : B.cells.length = U.length * 3 := by rw [hB]; exact uCells_len U
      have hnone : (⟨G, []⟩ : Hp).get (.o G.length) = none := by simp [Hp.get]
      have u : Upd w μ (⟨G, []⟩ : Hp).get w' (.o G.length) g cur.size B := by
        refine ⟨fun k hk _ => hb.block k hk, hb.size, hb.os, hb.tape, hb.output, .inr (.inr hgb), fun _ _ => .inr hgb, fun B0 h0 => ?_, fun _ => .inl hgb⟩
        rw [hnone] at h0; cases h0
      have p := u.pres
      have S' := u.sim S (fun k hk => hb.block k (Nat.lt_of_lt_of_le hk S.le)) ⟨fun h => by rw [hB] at h; simp at h, fun _ => by rw [hB]; simp only; rw [uCells_vals]; exact lfs_iff.2 fun a ha => by obtain ⟨y, _, rfl⟩ := List.mem_map.1 ha; rfl, fun _ => by
        refine ⟨cur, 37, 0, 0, hgc, rfl, .inl rfl, by rw [hBc, hgs]; exact Nat.mul_le_mul_right _ hgn, fun h => by rw [hB] at h; simp at h, Nat.le_trans S.le hgb, hone g rfl _ _ _ hgc, fun i a ha => ?_⟩
        rw [hB] at ha
        simp only [uCells_vals, List.getElem?_map] at ha
        obtain ⟨y, hy, rfl⟩ := Option.map_eq_some_iff.1 ha
        refine ⟨y, ?_, .v _⟩
        rw [← hgt, List.getElem?_take] at hy
        split at hy
        · simpa using hy
        · cases hy⟩
      rw [← into_upd] at S' p
      have hinfo : info (upd μ (.o G.length) (g, cur.size)) (⟨G ++ [some B], []⟩ : Hp).get (.o G.length) = some ⟨g, U.length * 3, false, cur.size⟩ := by
        rw [into_upd]
        simp only [info, upd, if_true, Option.map_some, Option.some.injEq, LInfo.mk.injEq, true_and, and_true]
        rw [hB]
        exact ⟨uCells_len U, rfl⟩
      refine ⟨_, rfl, ⟨upd μ (.o G.length) (g, cur.size), ?_, ?_, ?_⟩, ?_⟩
      · rw [← hB]; exact S'
      · rw [← hB]; exact p
      · simp only
        rw [← hB, uCells_len, Nat.mul_div_cancel _ (by omega)]
        have h3 := Nat.mul_le_mul_right 3 hgn
        refine .own hinfo (Nat.le_refl _) (fun _ => ?_) ⟨_, cap, rfl, hgn, fun h => (by cases h), fun c h => (by cases h)⟩
        unfold OwnOK
        simp only [Bool.false_eq_true, if_false]
        exact ⟨_, cap, rfl, hgn, .inr rfl, by rw [hgs]; omega, fun c h => (by cases h), fun _ => by omega, by omega⟩
      · intro k X hk
        simp only at hk
        by_cases hkl : k < G.length
        · rw [List.getElem?_append_left hkl] at hk; exact hO k X hk
        · rw [List.getElem?_append_right (by omega)] at hk
          have : X = B := by
            cases hj : k - G.length with
            | zero => rw [hj] at hk; cases hk; rw [hB]
            | succ j => rw [hj] at hk; cases hk
          subst this; rw [hB]; rfl
  · have hM0 : xMay (xs.map (·.2)) = false := by simpa using hM
    rw [hM0] at hm
    simp only [hM0, Bool.false_eq_true, if_false] at hr
    have hr : some ((.v (.slice none 0 0) : AV), G) = some r := hr
    cases hr
    refine Calls.mono (callsIn_wide.1 (units_no Fence.wide 6 trivial trivial rfl ad n C w (callsIn_wide.2 hm) (by omega))) ?_
    rintro e w' ⟨rfl, hb⟩
    obtain ⟨S', p'⟩ := sim_grown S hb
    exact ⟨_, rfl, ⟨μ, S', p', .v _⟩, hO⟩
end Go.AM
namespace Go.AM
variable {prog : String → Option IFn}
theorem may_ro (H : BasketLib prog) (nl : Bool) (n : Nat) (xs : List LnV) (hn : xs.length = n) (hl : n ≤ maxLen) :
    Ev prog (.call "haberdash/basket.may" [.ro nl 3 n (xs.flatMap lnCells)] []) (.ret (.v (.bool (xMay (xs.map (·.2))))) []) := by
  obtain ⟨ys, hy⟩ : ∃ ys : List LineD, ys = xs.map fun x => ⟨x.1.data.toList, x.2.1, x.2.2⟩ := ⟨_, rfl⟩
  have e1 : xs.flatMap lnCells = lnE.row ys := by
    subst hy
    unfold Enc.row
    rw [List.flatMap_map]
    rfl
  have e2 : xs.map (·.2) = lq ys := by
    subst hy
    unfold lq
    rw [List.map_map]
    rfl
  have e3 : ys.length = n := by rw [hy, List.length_map, hn]
  rw [e1, e2, mayL_x, ← e3]
  exact may_spec H (fun L => view_ro (by decide) (lnE.row_len ys)) (by omega)
end Go.AM
