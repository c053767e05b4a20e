import Derived.Test.YtlcbfbopnegmnaaLawDiskD
set_option linter.unusedVariables false
set_option linter.unusedSimpArgs false
namespace Go.AM
variable {prog : String → Option IFn}
variable {n : Nat} {D E F K : DskD} {X : List (Option Blk)}
abbrev pX : List (Option Blk) := [none, none, none, none, none, none, none, none, none]
abbrev pN : List (Option Blk) := [none, none, none, none, none, none, none, none]
def pL (n : Nat) (D E F K : DskD) (X : List (Option Blk)) : List (Option Blk) := dk 0 (some n) false D (dk 4 (some n) false E (dk 8 none true F (dk 12 none true K X)))
def pO (cs : List AV) : Option Blk := some (sBlk cs true)
abbrev ZX (X : List (Option Blk)) : List (Option Blk) := Z16 ++ X
theorem pg (hX : Dat X) : Good ⟨[], pL n D E F K X⟩ := dk_good (dk_good (dk_good (dk_good (goodX hX))))
theorem pX_dat : Dat pX := by intro B hB b e; subst e; simp at hB
theorem pO_dat {cs : List AV} {Y : List (Option Blk)} (hY : Dat Y) : Dat (pO cs :: Y) := by
  intro B hB b e; subst e
  rcases List.mem_cons.1 hB with h | h
  · unfold pO at h; cases h; rfl
  · exact hY _ h b rfl
theorem dat_map (hX : Dat X) : X.map (Option.map (Blk.ren (up 0))) = X := by
  conv => rhs; rw [← List.map_id X]
  refine List.map_congr_left fun B hB => ?_
  cases B with
  | none => rfl
  | some b => simp only [Option.map_some, id_eq]; rw [blk_ren_id fun ℓ hℓ => by rw [hX _ hB b rfl] at hℓ; cases hℓ]
theorem pi1 (hX : Dat X) : (⟨[], pL n D E F K X⟩ : Hp).into = two (two (ZX X) (dpos 8 none true) (dpos 12 none true) F K) (dpos 0 (some n) false) (dpos 4 (some n) false) D E := by
  conv => rhs; rw [← dat_map hX]
  rfl
theorem pi3 (hX : Dat X) : (⟨[], pL n D E F K X⟩ : Hp).into = two (two (ZX X) (dpos 0 (some n) false) (dpos 4 (some n) false) D E) (dpos 8 none true) (dpos 12 none true) F K := by
  conv => rhs; rw [← dat_map hX]
  rfl
theorem zx_len {X : List (Option Blk)} : 15 < (ZX X).length := by simp only [List.length_append, List.length_replicate]; omega
def lset (L : List (Option Blk)) (P : DPos) (D : DskD) : List (Option Blk) := (((L.set P.q0 (dsec P.o0 D.a)).set P.q1 (dsec P.o1 D.b)).set P.q2 (dboo P.o2 D.l)).set P.p (dobj .l P D)
theorem into_lset {L : List (Option Blk)} {P : DPos} {D : DskD} : (⟨[], lset L P D⟩ : Hp).into = dset (⟨[], L⟩ : Hp).into P D := by
  have e : (dobj .l P D).map (Blk.ren (up 0)) = dobj .o P D := by
    simp only [dobj, dobjC, dav0, dav1, dav2, Option.map_some, Blk.ren, sBlk, Bool.false_eq_true, if_false, AV.ren.rens, AV.ren, up, Nat.zero_add]
  simp only [Hp.into, lset, List.nil_append, List.length_nil, List.map_set, e]
  rfl
theorem dset_stays {P Q : DPos} {G : List (Option Blk)} {m : Nat} (h : TwoOK G P Q m) {R : DPos} {A : DskD} (hr : Far Q R) : dset (two G P Q D E) R A = dset (dset (two G P Q D E) R A) Q E := by
  have hl : (dset (two G P Q D E) R A).length = G.length := by rw [dset_len, two_len]
  refine dset_ext (G := dset (two G P Q D E) R A) (P := Q) (n := m) (by rw [hl]; exact h.q) rfl ?_ ?_ ?_ ?_ fun k _ _ _ _ => rfl
  · rw [dset_far hr (by simp), two_sw h, dset_p h.qq]
  · rw [dset_far hr (by simp), two_sw h, dset_0 h.qq]
  · rw [dset_far hr (by simp), two_sw h, dset_1 h.qq]
  · rw [dset_far hr (by simp), two_sw h, dset_2 h.qq]
theorem pi5 {cs : List AV} {A : DskD} : (⟨[], pL n D E F K (pO cs :: dk 17 none true A [none, none, none, none])⟩ : Hp).into =
    dset (dset (two (two (ZX (pO cs :: pN)) (dpos 8 none true) (dpos 12 none true) F K) (dpos 0 (some n) false) (dpos 4 (some n) false) D E) (dpos 17 none true) A) (dpos 4 (some n) false) E := by
  have hX : Dat (pO cs :: pN) := pO_dat (by intro B hB b e; subst e; simp at hB)
  rw [← dset_stays (m := n) (two_ok (by omega) (by rw [two_len]; simp) le_some le_some) (dpos_far (by omega)), ← pi1 hX, ← into_lset]
  rfl
def opFix (n : Nat) (o : OpD) : OpD := if umod o.kind 6 < 2 ∧ o.c.toNat % 8 ≠ 0 then { o with at' := ((umod o.at' n : Nat) : Int) } else o
theorem opFix_keep {n o} : (opFix n o).keep = o.keep := by unfold opFix; split <;> rfl
def fixV (n : Nat) (h1 : 1 ≤ n) (h2 : n ≤ 20000) (x : OpV) : OpV := ⟨opFix n x.o, x.kp, by rw [opFix_keep]; exact x.va, by unfold opFix; split <;> exact x.hk, by
  unfold opFix
  split
  · have := umod_lt (c := x.o.at') (n := n) h1
    unfold I64; simp only; omega
  · exact x.ha, by rw [opFix_keep]; exact x.hl⟩
def playN (n : Nat) (xs : List OpV) : Nat → DskD × DskD
  | 0 => (newD n, newD n)
  | i + 1 => match xs[i]? with
    | some x => if x.o.keep.length > 40 then playN n xs i else
      ((playN n xs i).1.step (opFix n x.o), if x.o.c = 9 then (playN n xs i).1.step (opFix n x.o) else (playN n xs i).2)
    | none => playN n xs i
theorem playN_siz (h1 : 1 ≤ n) (h2 : n ≤ 20000) {xs : List OpV} : ∀ i, Siz (playN n xs i).1 n ∧ Siz (playN n xs i).2 n
  | 0 => ⟨.new, .new⟩
  | i + 1 => by
    obtain ⟨z1, z2⟩ := playN_siz h1 h2 (xs := xs) i
    unfold playN
    split
    · split
      · exact ⟨z1, z2⟩
      · rename_i x _ _
        have z3 := z1.step (o := opFix n x.o) (by have := (fixV n h1 h2 x).ha; unfold I64 at this; show (opFix n x.o).at' < 2 ^ 63; simp only [fixV] at this; omega)
        refine ⟨z3, ?_⟩
        simp only
        split
        · exact z3
        · exact z2
    · exact ⟨z1, z2⟩
section
variable (H : LawF prog)
include H
theorem pNew (h1 : 1 ≤ n) (h2 : n ≤ 20000) : Ev prog (.op (.call "haberdash/disk.New" [0, 1, 2, 3]) [.v (.int .i64 (n : Nat))] ⟨[], List.replicate 25 none⟩) (.val (.tup [.ptr (.l 3) 5 0, .v (.int .i64 0)]) ⟨[], dk 0 (some n) false (newD n) (List.replicate 21 none)⟩) :=
  op_dsk (D := newD n) (R := fun a => .tup [a, .v (.int .i64 0)]) (fun ρ a => rfl) (New_spec H.toDiskLib h1 h2) (by decide) rfl rfl rfl rfl trivial
theorem pNewR (h1 : 1 ≤ n) (h2 : n ≤ 20000) : Ev prog (.op (.call "haberdash/haberdashref06.New" [4, 5, 6, 7]) [.v (.int .i64 (n : Nat))] ⟨[], dk 0 (some n) false D (List.replicate 21 none)⟩) (.val (.ptr (.l 7) 5 0) ⟨[], dk 0 (some n) false D (dk 4 (some n) false (newD n) (List.replicate 17 none))⟩) :=
  op_dsk (D := newD n) (R := fun a => a) (fun ρ a => rfl) (refNew_spec H.ref h1 h2) (by decide) rfl rfl rfl rfl (dk_good trivial)
theorem pFork (z : Siz D n) (h1 : 1 ≤ n) (h2 : n ≤ 20000) : Ev prog (.op (.call "(*haberdash/disk.Disk).Fork" [8, 9, 10, 11]) [.ptr (.l 3) 5 0] ⟨[], dk 0 (some n) false D (dk 4 (some n) false E (List.replicate 17 none))⟩)
    (.val (.ptr (.l 11) 5 0) ⟨[], dk 0 (some n) false D (dk 4 (some n) false E (dk 8 none true D (List.replicate 13 none)))⟩) :=
  op_dsk (D := D) (R := fun a => a) (fun ρ a => rfl) (by
    have := Fork_spec H.toForkLib (P := dpos 0 (some n) false) (D := D) (G := dset (List.replicate 25 none) (dpos 4 (some n) false) E) (by rw [z.b]; exact dpos_ok (by simp [dset_len]) le_some) (by rw [z.l, z.b]) (by rw [z.a, z.b]) (by rw [z.b]; exact h2) (by rw [z.b]; exact h1)
    exact this) (by decide) rfl rfl rfl rfl (dk_good (dk_good trivial))
theorem pCopy (z : Siz F n) (h1 : 1 ≤ n) (h2 : n ≤ 20000) : Ev prog (.op (.call "(*haberdash/haberdashref06.Disk).Copy" [12, 13, 14, 15]) [.ptr (.l 7) 5 0] ⟨[], dk 0 (some n) false D (dk 4 (some n) false F.sw (dk 8 none true E (List.replicate 13 none)))⟩)
    (.val (.ptr (.l 15) 5 0) ⟨[], pL n D F.sw E F.sw pX⟩) :=
  op_dsk (D := F.sw) (R := fun a => a) (fun ρ a => rfl) (by
    have := refCopy_spec H.ref (P := dpos 4 (some n) false) (D := F.sw) (G := two (List.replicate 25 none) (dpos 0 (some n) false) (dpos 8 none true) D E) (by show (dpos 4 (some n) false).Ok _ F.a.length; rw [z.a]; exact dpos_ok (by simp [two_len]) le_some) (by show F.l.length = F.a.length; rw [z.l, z.a]) (by show F.b.length = F.a.length; rw [z.a, z.b]) (by show F.a.length ≤ _; rw [z.a]; exact h2) (by show 0 < F.a.length; rw [z.a]; exact h1)
    exact this) (by decide) rfl rfl rfl rfl (dk_good (dk_good (dk_good trivial)))
theorem pStep (hX : Dat X) (z : Siz D n) (h1 : 1 ≤ n) (h2 : n ≤ 20000) (x : OpV) : Ev prog (.op (.call "haberdash/haberdashlaw06.step" []) [.ptr (.l 3) 5 0, .ptr (.l 7) 5 0, .agg (opAV x.o x.kp)] ⟨[], pL n D D.sw F K X⟩) (.val (.v (.bool true)) ⟨[], pL n (D.step x.o) (D.step x.o).sw F K X⟩) :=
  op_turn ⟨[], pL n (D.step x.o) (D.step x.o).sw F K X⟩ (by
    simp only [List.map_cons, List.map_nil, ren_op]
    rw [pi1 hX, pi1 hX]
    exact step_spec H.toStepLib (G := two (ZX X) (dpos 8 none true) (dpos 12 none true) F K) (P := dpos 0 (some n) false) (Q := dpos 4 (some n) false) (two_ok (by omega) (by rw [two_len]; have := zx_len (X := X); omega) le_some le_some) z h1 h2 x.va) rfl rfl rfl (pg hX) (pg hX)
theorem pSame1 (hX : Dat X) (z : Siz D n) (h2 : n ≤ 20000) : Ev prog (.op (.call "haberdash/haberdashlaw06.same" []) [.ptr (.l 3) 5 0, .ptr (.l 7) 5 0] ⟨[], pL n D D.sw F K X⟩) (.val (.v (.bool true)) ⟨[], pL n D D.sw F K X⟩) :=
  op_turn ⟨[], pL n D D.sw F K X⟩ (by
    rw [pi1 hX]
    exact dsame_spec H.toStepLib (G := two (ZX X) (dpos 8 none true) (dpos 12 none true) F K) (P := dpos 0 (some n) false) (Q := dpos 4 (some n) false) (two_ok (by omega) (by rw [two_len]; have := zx_len (X := X); omega) le_some le_some) z h2) rfl rfl rfl (pg hX) (pg hX)
theorem pSame3 (hX : Dat X) (z : Siz F n) (h2 : n ≤ 20000) : Ev prog (.op (.call "haberdash/haberdashlaw06.same" []) [.ptr (.l 11) 5 0, .ptr (.l 15) 5 0] ⟨[], pL n D E F F.sw X⟩) (.val (.v (.bool true)) ⟨[], pL n D E F F.sw X⟩) :=
  op_turn ⟨[], pL n D E F F.sw X⟩ (by
    rw [pi3 hX]
    exact dsame_spec H.toStepLib (G := two (ZX X) (dpos 0 (some n) false) (dpos 4 (some n) false) D E) (P := dpos 8 none true) (Q := dpos 12 none true) (two_ok (by omega) (by rw [two_len]; have := zx_len (X := X); omega) le_none le_none) z h2) rfl rfl rfl (pg hX) (pg hX)
theorem pFork2 {cs : List AV} (z : Siz D n) (h1 : 1 ≤ n) (h2 : n ≤ 20000) : Ev prog (.op (.call "(*haberdash/disk.Disk).Fork" [17, 18, 19, 20]) [.ptr (.l 3) 5 0] ⟨[], pL n D E F K (pO cs :: pN)⟩)
    (.val (.ptr (.l 20) 5 0) ⟨[], pL n D E F K (pO cs :: dk 17 none true D [none, none, none, none])⟩) := by
  have hX : Dat (pO cs :: pN) := pO_dat (by intro B hB b e; subst e; simp at hB)
  refine op_dsk (D := D) (R := fun a => a) (fun ρ a => rfl) ?_ (by decide) rfl rfl rfl rfl (pg hX)
  have := Fork_spec H.toForkLib (P := dpos 0 (some n) false) (D := D) (G := dset (two (ZX (pO cs :: pN)) (dpos 8 none true) (dpos 12 none true) F K) (dpos 4 (some n) false) E) (by rw [z.b]; exact dpos_ok (by rw [dset_len, two_len]; simp) le_some) (by rw [z.l, z.b]) (by rw [z.a, z.b]) (by rw [z.b]; exact h2) (by rw [z.b]; exact h1)
  rw [dset_len, two_len] at this
  rw [pi1 hX, two_len, two_len]
  exact this
theorem pCopy2 {cs : List AV} {A : DskD} (z : Siz E n) (h1 : 1 ≤ n) (h2 : n ≤ 20000) : Ev prog (.op (.call "(*haberdash/haberdashref06.Disk).Copy" [21, 22, 23, 24]) [.ptr (.l 7) 5 0] ⟨[], pL n D E.sw F K (pO cs :: dk 17 none true A [none, none, none, none])⟩)
    (.val (.ptr (.l 24) 5 0) ⟨[], pL n D E.sw F K (pO cs :: dk 17 none true A (dk 21 none true E.sw []))⟩) := by
  refine op_dsk (D := E.sw) (R := fun a => a) (fun ρ a => rfl) ?_ (by decide) rfl rfl rfl rfl (dk_good (dk_good (dk_good (dk_good ⟨rfl, dk_good trivial⟩))))
  have := refCopy_spec H.ref (P := dpos 4 (some n) false) (D := E.sw) (G := dset (two (two (ZX (pO cs :: pN)) (dpos 8 none true) (dpos 12 none true) F K) (dpos 0 (some n) false) (dpos 4 (some n) false) D E.sw) (dpos 17 none true) A) (by show (dpos 4 (some n) false).Ok _ E.a.length; rw [z.a]; exact dpos_ok (by rw [dset_len, two_len, two_len]; simp) le_some) (by show E.l.length = E.a.length; rw [z.l, z.a]) (by show E.b.length = E.a.length; rw [z.a, z.b]) (by show E.a.length ≤ _; rw [z.a]; exact h2) (by show 0 < E.a.length; rw [z.a]; exact h1)
  rw [dset_len, two_len, two_len] at this
  rw [pi5, dset_len, dset_len, two_len, two_len]
  exact this
end
abbrev MV : List (Nat × Nat) := [(17, 8), (18, 9), (19, 10), (20, 11), (21, 12), (22, 13), (23, 14), (24, 15)]
set_option maxRecDepth 10000 in
theorem pMove {env cs} {A B : DskD} : mvSt MV ⟨env, ⟨[], pL n D E F K (pO cs :: dk 17 none true A (dk 21 none true B []))⟩⟩ = some ⟨env.map (AV.ren (mvLab MV)), ⟨[], pL n D E A B (pO cs :: pN)⟩⟩ := by
  unfold mvSt
  refine (if_pos (by rfl)).trans ?_
  rfl
theorem opE_i {cs : List AV} {i : Nat} {y : AV} (hi : i < 4) (hl : cs.length = 4) (hy : cs[i]? = some y) {Y : List (Option Blk)} : prim ⟨[], pL n D E F K (pO cs :: Y)⟩ (.load 1 false) [.ptr (.l 16) 4 i] = some (y, ⟨[], pL n D E F K (pO cs :: Y)⟩) := by
  rw [px_load_l]
  show (if cs.length = 4 ∧ i + 1 ≤ 4 then (whole false ((cs.drop i).take 1)).map fun a => (a, _) else none) = _
  refine (if_pos ⟨hl, by omega⟩).trans ?_
  rw [List.take_one, List.head?_drop, hy]; rfl
theorem opE_all {cs : List AV} (hl : cs.length = 4) {Y : List (Option Blk)} : prim ⟨[], pL n D E F K (pO cs :: Y)⟩ (.load 4 true) [.ptr (.l 16) 4 0] = some (.agg cs, ⟨[], pL n D E F K (pO cs :: Y)⟩) := by
  rw [px_load_l]
  show (if cs.length = 4 ∧ 0 + 4 ≤ 4 then (whole true ((cs.drop 0).take 4)).map fun a => (a, _) else none) = _
  refine (if_pos ⟨hl, by omega⟩).trans ?_
  rw [List.drop_zero, List.take_of_length_le (by omega)]; rfl
theorem opE_new {Y : List (Option Blk)} : prim ⟨[], pL n D E F K (none :: Y)⟩ (.alloc 16 [.int .i64 0, .int .i64 0, .int .u8 0, .slice none 0 0] []) [] = some (.ptr (.l 16) 4 0, ⟨[], pL n D E F K (pO [.v (.int .i64 0), .v (.int .i64 0), .v (.int .u8 0), .v (.slice none 0 0)] :: Y)⟩) := rfl
theorem opE_st {cs ds : List AV} (hl : cs.length = 4) (hd : ds.length = 4) (hf : AV.lf.lfs ds = true) {Y : List (Option Blk)} : prim ⟨[], pL n D E F K (pO cs :: Y)⟩ (.store 4 false) [.ptr (.l 16) 4 0, .agg ds] = some (.v undef, ⟨[], pL n D E F K (pO ds :: Y)⟩) := by
  rw [px_store, show (AV.agg ds).cellsOf = some ds from rfl]
  simp only [Option.bind_some, Hp.mayFreeze, Bool.false_eq_true, if_false]
  show (if cs.length = 4 ∧ _ then _ else none) = _
  refine (if_pos ⟨hl, rfl, hd, by omega, rfl⟩).trans ?_
  have e : lay cs 0 ds = ds := by unfold lay; rw [List.take_zero, List.nil_append, List.drop_of_length_le (by omega), List.append_nil]
  show some (_, (⟨[], pL n D E F K (some ⟨lay cs 0 ds, false, true, true && AV.lf.lfs ds, false⟩ :: Y)⟩ : Hp)) = _
  rw [e, hf]; rfl
theorem opE_st1 {a b c d : AV} {v : Value} (hf : AV.lf.lfs [a, b, c, d] = true) (hv : (AV.v v).cellsOf = some [.v v]) {Y : List (Option Blk)} : prim ⟨[], pL n D E F K (pO [a, b, c, d] :: Y)⟩ (.store 1 false) [.ptr (.l 16) 4 1, .v v] = some (.v undef, ⟨[], pL n D E F K (pO [a, .v v, c, d] :: Y)⟩) := by
  rw [px_store, hv]
  rfl
theorem view_plain {a : AV} {esz len : Nat} {cells : List AV} (v : View ⟨[], []⟩ a esz len cells) : ∀ ρ, a.ren ρ = a := fun ρ => ren_id fun ℓ hℓ => by
  rcases v.cases with ⟨rfl, _, _⟩ | ⟨nl, rfl⟩ | ⟨ℓ, n, off, cap, B, rfl, hB, _, _, _⟩
  · cases hℓ
  · cases hℓ
  · cases ℓ <;> simp [Hp.get] at hB
theorem u8_eq9 {c : UInt8} : vBin .eql (u8 c) (.int .u8 9) = some (.bool (decide (c = 9))) := by
  have e : ((c.toNat : Int) == 9) = decide (c = 9) := by
    by_cases h : c = 9
    · subst h; rfl
    · rw [decide_eq_false h, beq_eq_false_iff_ne]
      intro h2
      have e9 : (9 : UInt8).toNat = 9 := rfl
      exact h (UInt8.toNat_inj.1 (by omega))
  simp [vBin, u8, e]
theorem u8_rem8 {c : UInt8} : vBin .rem (u8 c) (.int .u8 8) = some (.int .u8 ((c.toNat % 8 : Nat) : Int)) := by
  simp only [vBin, u8, ne_eq, not_true_eq_false, if_false]
  rfl
set_option maxRecDepth 100000 in
set_option maxHeartbeats 4000000 in
theorem DiskPlays_law (H : LawF prog) (hp : prog "haberdash/haberdashlaw06.DiskPlays" = some f_law06_DiskPlays) {args} (h : IsAll [.int .i64, .slice opTy] args) :
    ∃ G2, Ev prog (.call "haberdash/haberdashlaw06.DiskPlays" args []) (.ret (.v (.bool true)) G2) := by
  rcases args with _ | ⟨a0, _ | ⟨a1, _ | _⟩⟩ <;> try (simp [IsAll] at h; done)
  obtain ⟨⟨c0', h0, rfl⟩, ⟨c1', h1, rfl⟩, _⟩ := h
  obtain ⟨n0, rfl, hn⟩ := is_i64 h0
  obtain ⟨a, xs, rfl, va, ham⟩ := is_ops h1
  have na : ∀ ks, noRef ks a = true := fun ks => noRef_out (View.out (va ⟨[], []⟩))
  have ra := view_plain (va ⟨[], []⟩)
  have h12 := umod_lt (c := n0) (n := 9) (by omega)
  refine ⟨[], call_of_fin hp ?_⟩
  simp only [f_law06_DiskPlays_B, enter, List.length_cons, List.length_nil, List.replicate, Nat.reduceAdd, Nat.reduceSub, List.cons_append, List.nil_append, Ty.arg, intAV]
  simp (disch := first | (simp only [ne_eq, reduceCtorEq, not_false_eq_true, implies_true, List.getElem?_cons_zero, List.getElem?_cons_succ]; done) | omega) only [WS, St.guard, St.put, evalO, reduceCtorEq, reduceIte, Nat.reduceAdd, Nat.reduceEqDiff]
  rw [vRem_u64_lit (z := 9) 9 rfl (by omega)]
  simp (disch := first | (simp only [ne_eq, reduceCtorEq, not_false_eq_true, implies_true, List.getElem?_cons_zero, List.getElem?_cons_succ]; done) | omega) only [WS, St.guard, St.put, evalO, reduceCtorEq, reduceIte, Nat.reduceAdd, Nat.reduceEqDiff, wrap_i64_nat, vBin_add_i64]
  obtain ⟨n, hm⟩ : ∃ m : Nat, m = umod n0 9 + 1 := ⟨_, rfl⟩
  have em : (1 : Int) + ((umod n0 9 : Nat) : Int) = ((n : Nat) : Int) := by omega
  rw [em]
  have n1 : 1 ≤ n := by omega
  have n2 : n ≤ 20000 := by omega
  refine WP_of (pNew H n1 n2) ?_
  simp (disch := first | (simp only [ne_eq, reduceCtorEq, not_false_eq_true, implies_true, List.getElem?_cons_zero, List.getElem?_cons_succ]; done) | omega) only [WS, St.guard, St.put, evalO, reduceCtorEq, reduceIte, Nat.reduceAdd, Nat.reduceEqDiff]
  refine (WP_p (x := .bool true) (by exact awake6_25 H.toLaw6 rfl) (by exact dk_good trivial)).2 ?_
  simp (disch := first | (simp only [ne_eq, reduceCtorEq, not_false_eq_true, implies_true, List.getElem?_cons_zero, List.getElem?_cons_succ]; done) | omega) only [WS, St.guard, St.put, evalO, reduceCtorEq, reduceIte, Nat.reduceAdd, Nat.reduceEqDiff, Int.reduceBNe, isNilV, Hp.isNil]
  refine WP_of (pNewR H n1 n2) ?_
  simp (disch := first | (simp only [ne_eq, reduceCtorEq, not_false_eq_true, implies_true, List.getElem?_cons_zero, List.getElem?_cons_succ]; done) | omega) only [WS, St.guard, St.put, evalO, reduceCtorEq, reduceIte, Nat.reduceAdd, Nat.reduceEqDiff]
  refine WP_of (pFork H .new n1 n2) ?_
  simp (disch := first | (simp only [ne_eq, reduceCtorEq, not_false_eq_true, implies_true, List.getElem?_cons_zero, List.getElem?_cons_succ]; done) | omega) only [WS, St.guard, St.put, evalO, reduceCtorEq, reduceIte, Nat.reduceAdd, Nat.reduceEqDiff]
  refine WP_of (pCopy H (F := newD n) .new n1 n2) ?_
  simp (disch := first | (simp only [ne_eq, reduceCtorEq, not_false_eq_true, implies_true, List.getElem?_cons_zero, List.getElem?_cons_succ]; done) | omega) only [WS, St.guard, St.put, evalO, reduceCtorEq, reduceIte, Nat.reduceAdd, Nat.reduceEqDiff]
  have z := fun i => playN_siz n1 n2 (xs := xs) i
  refine WC_count (fun i => ⟨f_law06_DiskPlays_H0 (.v (.int .i64 (n : Nat))) a (.ptr (.l 3) 5 0) (.ptr (.l 7) 5 0) (.ptr (.l 11) 5 0) (.ptr (.l 15) 5 0) (.v (.int .i64 (i : Nat))), ⟨[], pL n (playN n xs i).1 (playN n xs i).1.sw (playN n xs i).2 (playN n xs i).2.sw pX⟩⟩) (min xs.length 80) ?_ (fun i hi => ?_) ?_
  · exact clear_fre (by simp only [clear_nil, List.foldl_cons, List.foldl_nil, Option.some.injEq, List.map_cons, List.map_nil, List.getD_cons_zero, List.getD_cons_succ, List.set_cons_zero, List.set_cons_succ, Option.map_some, Option.bind_some, ne_eq, reduceCtorEq, not_false_eq_true, implies_true, beq_self_eq_true, BEq.rfl, if_true, if_false, Bool.false_eq_true, not_true_eq_false, Option.some.injEq, reduceIte, Bool.not_true, Bool.not_false, beq_true, beq_false, Bool.true_and, Bool.and_true, Bool.false_and, Bool.and_false, true_and, List.getElem?_cons_zero, List.getElem?_cons_succ, List.length_cons, List.length_nil, Nat.reduceAdd] <;> rfl) (by rfl) (by simp only [f_law06_DiskPlays_H0, List.all_cons, List.all_nil, noRef_v, noRef_dead, noRef_own, noRef_ptr, noRef_nil, Bool.and_true, Bool.true_and, Bool.and_self, List.contains_cons, List.contains_nil, Bool.or_false, Nat.reduceBEq, Bool.not_false, na]) (by rfl)
  · have hlt : (i : Int) < (xs.length : Int) := by omega
    have hlt2 : (i : Int) < 80 := by omega
    obtain ⟨x, hx⟩ : ∃ x, xs[i]? = some x := ⟨_, List.getElem?_eq_getElem (show i < xs.length by omega)⟩
    have vk := x.va
    obtain ⟨zi1, zi2⟩ := z i
    have zs := z (i + 1)
    have hnx : playN n xs (i + 1) = if x.o.keep.length > 40 then playN n xs i else
      ((playN n xs i).1.step (opFix n x.o), if x.o.c = 9 then (playN n xs i).1.step (opFix n x.o) else (playN n xs i).2) := by
      show (match xs[i]? with | some x => _ | none => _) = _
      rw [hx]
    rw [hnx] at zs ⊢
    generalize playN n xs i = q at *
    obtain ⟨D, F⟩ := q
    have cl : (opAV x.o x.kp).length = 4 := rfl
    simp (disch := first | (simp only [ne_eq, reduceCtorEq, not_false_eq_true, implies_true, List.getElem?_cons_zero, List.getElem?_cons_succ]; done) | omega) only [f_law06_DiskPlays_L0, f_law06_DiskPlays_H0, WS, St.guard, St.put, evalO, reduceCtorEq, reduceIte, Nat.reduceAdd, Nat.reduceEqDiff, (va _).lenSlice, goInt, hlt, hlt2, decide_true, op_ix (va _) hx, op_ld (va _) hx, opE_new,
      opE_st (cs := [.v (.int .i64 0), .v (.int .i64 0), .v (.int .u8 0), .v (.slice none 0 0)]) rfl cl x.lf, opE_i (cs := opAV x.o x.kp) (i := 3) (y := x.kp) (by omega) rfl rfl, (vk _).lenSlice]
    by_cases hk : x.o.keep.length > 40
    · have hk' : (x.o.keep.length : Int) > 40 := by omega
      rw [if_pos hk] at zs
      simp (disch := first | (simp only [ne_eq, reduceCtorEq, not_false_eq_true, implies_true, List.getElem?_cons_zero, List.getElem?_cons_succ]; done) | omega) only [WS, St.guard, St.put, evalO, reduceCtorEq, reduceIte, Nat.reduceAdd, Nat.reduceEqDiff, hk', hk, decide_true, vBin_add_i64]
      exact clear_fre (by simp only [clear_nil, List.foldl_cons, List.foldl_nil, Option.some.injEq, List.map_cons, List.map_nil, List.getD_cons_zero, List.getD_cons_succ, List.set_cons_zero, List.set_cons_succ, Option.map_some, Option.bind_some, ne_eq, reduceCtorEq, not_false_eq_true, implies_true, beq_self_eq_true, BEq.rfl, if_true, if_false, Bool.false_eq_true, not_true_eq_false, Option.some.injEq, reduceIte, Bool.not_true, Bool.not_false, beq_true, beq_false, Bool.true_and, Bool.and_true, Bool.false_and, Bool.and_false, true_and, List.getElem?_cons_zero, List.getElem?_cons_succ, List.length_cons, List.length_nil, Nat.reduceAdd] <;> rfl) (by rfl) (by simp only [f_law06_DiskPlays_H0, List.all_cons, List.all_nil, noRef_v, noRef_dead, noRef_own, noRef_ptr, noRef_nil, Bool.and_true, Bool.true_and, Bool.and_self, List.contains_cons, List.contains_nil, Bool.or_false, Nat.reduceBEq, Bool.not_false, na]) (by rfl)
    · have hk' : ¬ (x.o.keep.length : Int) > 40 := by omega
      rw [if_neg hk] at zs
      simp only [hk, if_false]
      obtain ⟨y, hy⟩ : ∃ y, y = fixV n n1 n2 x := ⟨_, rfl⟩
      have hyo : y.o = opFix n x.o := by rw [hy]; rfl
      have hyk : y.kp = x.kp := by rw [hy]; rfl
      have hyc : y.o.c = x.o.c := by rw [hyo]; unfold opFix; split <;> rfl
      rw [← hyo] at zs ⊢
      have dX : ∀ cs, Dat (pO cs :: pN) := fun cs => pO_dat (by intro B hB b e; subst e; simp at hB)
      simp (disch := first | (simp only [ne_eq, reduceCtorEq, not_false_eq_true, implies_true, List.getElem?_cons_zero, List.getElem?_cons_succ]; done) | omega) only [WS, St.guard, St.put, evalO, reduceCtorEq, reduceIte, Nat.reduceAdd, Nat.reduceEqDiff, hk', decide_false, opE_i (cs := opAV x.o x.kp) (i := 0) (y := .v (.int .i64 x.o.kind)) (by omega) rfl rfl]
      rw [vRem_u64_lit (z := 6) 6 rfl (by omega)]
      simp (disch := first | (simp only [ne_eq, reduceCtorEq, not_false_eq_true, implies_true, List.getElem?_cons_zero, List.getElem?_cons_succ]; done) | omega) only [WS, St.guard, St.put, evalO, reduceCtorEq, reduceIte, Nat.reduceAdd, Nat.reduceEqDiff]
      have st1 : ∀ v : Int, prim ⟨[], pL n D D.sw F F.sw (pO (opAV x.o x.kp) :: pN)⟩ (.store 1 false) [.ptr (.l 16) 4 1, .v (.int .i64 v)] = some (.v undef, ⟨[], pL n D D.sw F F.sw (pO (opAV { x.o with at' := v } x.kp) :: pN)⟩) := fun v => opE_st1 x.lf rfl
      have hcs : (umod x.o.kind 6 < 2 ∧ x.o.c.toNat % 8 ≠ 0) ∨ (umod x.o.kind 6 < 2 ∧ x.o.c.toNat % 8 = 0) ∨ ¬ umod x.o.kind 6 < 2 := by omega
      rcases hcs with ⟨q1, q2⟩ | ⟨q1, q2⟩ | q1
      case' inl =>
        have q1' : ((umod x.o.kind 6 : Nat) : Int) < 2 := by omega
        have q2' : (((x.o.c.toNat % 8 : Nat) : Int) != 0) = true := by rw [bne_iff_ne]; omega
        simp (disch := first | (simp only [ne_eq, reduceCtorEq, not_false_eq_true, implies_true, List.getElem?_cons_zero, List.getElem?_cons_succ]; done) | omega) only [WS, St.guard, St.put, evalO, reduceCtorEq, reduceIte, Nat.reduceAdd, Nat.reduceEqDiff, q1', decide_true, opE_i (cs := opAV x.o x.kp) (i := 2) (y := .v (u8 x.o.c)) (by omega) rfl rfl, u8_rem8, q2', opE_i (cs := opAV x.o x.kp) (i := 1) (y := .v (.int .i64 x.o.at')) (by omega) rfl rfl]
        have hu := umod_lt (c := x.o.at') (n := n) n1
        rw [vRem_u64 n rfl (by omega) (by omega)]
        simp (disch := first | (simp only [ne_eq, reduceCtorEq, not_false_eq_true, implies_true, List.getElem?_cons_zero, List.getElem?_cons_succ]; done) | omega) only [WS, St.guard, St.put, evalO, reduceCtorEq, reduceIte, Nat.reduceAdd, Nat.reduceEqDiff, wrap_i64_nat, st1]
        have ey : opAV { x.o with at' := ((umod x.o.at' n : Nat) : Int) } x.kp = opAV y.o y.kp := by
          rw [hyo, hyk]; unfold opFix; rw [if_pos ⟨q1, q2⟩]
        rw [ey]
      case' inr.inl =>
        have q1' : ((umod x.o.kind 6 : Nat) : Int) < 2 := by omega
        have q2' : (((x.o.c.toNat % 8 : Nat) : Int) != 0) = false := by rw [bne_eq_false_iff_eq]; omega
        simp (disch := first | (simp only [ne_eq, reduceCtorEq, not_false_eq_true, implies_true, List.getElem?_cons_zero, List.getElem?_cons_succ]; done) | omega) only [WS, St.guard, St.put, evalO, reduceCtorEq, reduceIte, Nat.reduceAdd, Nat.reduceEqDiff, q1', decide_true, opE_i (cs := opAV x.o x.kp) (i := 2) (y := .v (u8 x.o.c)) (by omega) rfl rfl, u8_rem8, q2']
        have ey : opAV x.o x.kp = opAV y.o y.kp := by
          rw [hyo, hyk]; unfold opFix; rw [if_neg (by omega)]
        rw [ey]
      case' inr.inr =>
        have q1' : ¬ ((umod x.o.kind 6 : Nat) : Int) < 2 := by omega
        simp (disch := first | (simp only [ne_eq, reduceCtorEq, not_false_eq_true, implies_true, List.getElem?_cons_zero, List.getElem?_cons_succ]; done) | omega) only [WS, St.guard, St.put, evalO, reduceCtorEq, reduceIte, Nat.reduceAdd, Nat.reduceEqDiff, q1', decide_false]
        have ey : opAV x.o x.kp = opAV y.o y.kp := by
          rw [hyo, hyk]; unfold opFix; rw [if_neg (by omega)]
        rw [ey]
      all_goals
        simp (disch := first | (simp only [ne_eq, reduceCtorEq, not_false_eq_true, implies_true, List.getElem?_cons_zero, List.getElem?_cons_succ]; done) | omega) only [WS, St.guard, St.put, evalO, reduceCtorEq, reduceIte, Nat.reduceAdd, Nat.reduceEqDiff, opE_all (cs := opAV y.o y.kp) rfl]
        refine WP_of (pStep H (dX _) zi1 n1 n2 y) ?_
        simp (disch := first | (simp only [ne_eq, reduceCtorEq, not_false_eq_true, implies_true, List.getElem?_cons_zero, List.getElem?_cons_succ]; done) | omega) only [WS, St.guard, St.put, evalO, reduceCtorEq, reduceIte, Nat.reduceAdd, Nat.reduceEqDiff]
        refine WP_of (pSame1 H (dX _) zs.1 n2) ?_
        simp (disch := first | (simp only [ne_eq, reduceCtorEq, not_false_eq_true, implies_true, List.getElem?_cons_zero, List.getElem?_cons_succ]; done) | omega) only [WS, St.guard, St.put, evalO, reduceCtorEq, reduceIte, Nat.reduceAdd, Nat.reduceEqDiff, opE_i (cs := opAV y.o y.kp) (i := 2) (y := .v (u8 y.o.c)) (by omega) rfl rfl, u8_eq9]
        rw [hyc]
        generalize hD : D.step y.o = D' at *
        by_cases h9 : x.o.c = 9
        · simp only [h9, if_true] at zs ⊢
          simp (disch := first | (simp only [ne_eq, reduceCtorEq, not_false_eq_true, implies_true, List.getElem?_cons_zero, List.getElem?_cons_succ]; done) | omega) only [WS, St.guard, St.put, evalO, reduceCtorEq, reduceIte, Nat.reduceAdd, Nat.reduceEqDiff, decide_true, WC_post]
          refine WP_of (pFork2 H zs.1 n1 n2) ?_
          simp (disch := first | (simp only [ne_eq, reduceCtorEq, not_false_eq_true, implies_true, List.getElem?_cons_zero, List.getElem?_cons_succ]; done) | omega) only [WS, St.guard, St.put, evalO, reduceCtorEq, reduceIte, Nat.reduceAdd, Nat.reduceEqDiff]
          refine WP_of (pCopy2 H zs.1 n1 n2) ?_
          simp (disch := first | (simp only [ne_eq, reduceCtorEq, not_false_eq_true, implies_true, List.getElem?_cons_zero, List.getElem?_cons_succ]; done) | omega) only [WS, St.guard, St.put, evalO, reduceCtorEq, reduceIte, Nat.reduceAdd, Nat.reduceEqDiff, WK_mv_normal]
          refine ⟨_, pMove, ?_⟩
          simp only [List.map_cons, List.map_nil]
          simp (disch := first | (simp only [ne_eq, reduceCtorEq, not_false_eq_true, implies_true, List.getElem?_cons_zero, List.getElem?_cons_succ]; done) | omega) only [WS, St.guard, St.put, evalO, reduceCtorEq, reduceIte, Nat.reduceAdd, Nat.reduceEqDiff, ren_val, vBin_add_i64]
          refine clear_fre (env := f_law06_DiskPlays_H0 (.v (.int .i64 (n : Nat))) a (.ptr (.l 3) 5 0) (.ptr (.l 7) 5 0) (.ptr (.l 11) 5 0) (.ptr (.l 15) 5 0) (.v (.int .i64 ((i + 1 : Nat) : Int)))) (by simp only [clear_nil, List.foldl_cons, List.foldl_nil, Option.some.injEq, List.map_cons, List.map_nil, List.getD_cons_zero, List.getD_cons_succ, List.set_cons_zero, List.set_cons_succ, Option.map_some, Option.bind_some, ne_eq, reduceCtorEq, not_false_eq_true, implies_true, beq_self_eq_true, BEq.rfl, if_true, if_false, Bool.false_eq_true, not_true_eq_false, Option.some.injEq, reduceIte, Bool.not_true, Bool.not_false, beq_true, beq_false, Bool.true_and, Bool.and_true, Bool.false_and, Bool.and_false, true_and, List.getElem?_cons_zero, List.getElem?_cons_succ, List.length_cons, List.length_nil, Nat.reduceAdd, ra] <;> rfl) (by rfl) (by simp only [f_law06_DiskPlays_H0, List.all_cons, List.all_nil, noRef_v, noRef_dead, noRef_own, noRef_ptr, noRef_nil, Bool.and_true, Bool.true_and, Bool.and_self, List.contains_cons, List.contains_nil, Bool.or_false, Nat.reduceBEq, Bool.not_false, na]) (by rfl)
        · simp only [h9, if_false] at zs ⊢
          simp (disch := first | (simp only [ne_eq, reduceCtorEq, not_false_eq_true, implies_true, List.getElem?_cons_zero, List.getElem?_cons_succ]; done) | omega) only [WS, St.guard, St.put, evalO, reduceCtorEq, reduceIte, Nat.reduceAdd, Nat.reduceEqDiff, decide_false, vBin_add_i64]
          exact clear_fre (by simp only [clear_nil, List.foldl_cons, List.foldl_nil, Option.some.injEq, List.map_cons, List.map_nil, List.getD_cons_zero, List.getD_cons_succ, List.set_cons_zero, List.set_cons_succ, Option.map_some, Option.bind_some, ne_eq, reduceCtorEq, not_false_eq_true, implies_true, beq_self_eq_true, BEq.rfl, if_true, if_false, Bool.false_eq_true, not_true_eq_false, Option.some.injEq, reduceIte, Bool.not_true, Bool.not_false, beq_true, beq_false, Bool.true_and, Bool.and_true, Bool.false_and, Bool.and_false, true_and, List.getElem?_cons_zero, List.getElem?_cons_succ, List.length_cons, List.length_nil, Nat.reduceAdd] <;> rfl) (by rfl) (by simp only [f_law06_DiskPlays_H0, List.all_cons, List.all_nil, noRef_v, noRef_dead, noRef_own, noRef_ptr, noRef_nil, Bool.and_true, Bool.true_and, Bool.and_self, List.contains_cons, List.contains_nil, Bool.or_false, Nat.reduceBEq, Bool.not_false, na]) (by rfl)
  · have hend : (¬ ((min xs.length 80 : Nat) : Int) < (xs.length : Int)) ∨ (((min xs.length 80 : Nat) : Int) < (xs.length : Int) ∧ ¬ ((min xs.length 80 : Nat) : Int) < 80) := by omega
    have zi := z (min xs.length 80)
    generalize playN n xs (min xs.length 80) = q at *
    obtain ⟨D, F⟩ := q
    generalize min xs.length 80 = m at *
    rcases hend with q | ⟨q, q2⟩
    case' inl => simp (disch := first | (simp only [ne_eq, reduceCtorEq, not_false_eq_true, implies_true, List.getElem?_cons_zero, List.getElem?_cons_succ]; done) | omega) only [f_law06_DiskPlays_L0, f_law06_DiskPlays_H0, WS, St.guard, St.put, evalO, reduceCtorEq, reduceIte, Nat.reduceAdd, Nat.reduceEqDiff, (va _).lenSlice, goInt, q, decide_false]
    case' inr => simp (disch := first | (simp only [ne_eq, reduceCtorEq, not_false_eq_true, implies_true, List.getElem?_cons_zero, List.getElem?_cons_succ]; done) | omega) only [f_law06_DiskPlays_L0, f_law06_DiskPlays_H0, WS, St.guard, St.put, evalO, reduceCtorEq, reduceIte, Nat.reduceAdd, Nat.reduceEqDiff, (va _).lenSlice, goInt, q, q2, decide_false, decide_true]
    all_goals
      simp (disch := first | (simp only [ne_eq, reduceCtorEq, not_false_eq_true, implies_true, List.getElem?_cons_zero, List.getElem?_cons_succ]; done) | omega) only [WS, St.guard, St.put, evalO, reduceCtorEq, reduceIte, Nat.reduceAdd, Nat.reduceEqDiff, isNilV, Hp.isNil]
      refine WP_of (pSame3 H pX_dat zi.2 n2) ?_
      simp (disch := first | (simp only [ne_eq, reduceCtorEq, not_false_eq_true, implies_true, List.getElem?_cons_zero, List.getElem?_cons_succ]; done) | omega) only [WS, St.guard, St.put, evalO, reduceCtorEq, reduceIte, Nat.reduceAdd, Nat.reduceEqDiff, fin_tmp, leave_v]
      simp
end Go.AM
