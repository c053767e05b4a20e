import Derived.Test.YtdcnjckkcfoppaaJourC
set_option linter.unusedVariables false
set_option linter.unusedSimpArgs false
namespace Go.AM
variable {prog : String → Option IFn}
structure Law8E (prog : String → Option IFn) : Prop extends Law8 prog where
  ref : RefDisk prog
  blank : prog "haberdash/haberdashref06.Blank" = some f_ref06_Blank
abbrev Z20 : List (Option Blk) := List.replicate 20 none
def eL (D E : DskD) (X : List (Option Blk)) : List (Option Blk) := dk 0 (some 10) false D (dk 4 (some 10) false E X)
def Z12 : List (Option Blk) := List.replicate 12 none
section
variable {D E : DskD} {X : List (Option Blk)} {J : JD}
theorem eL_0 : (⟨[], eL D E X⟩ : Hp).into = dset (⟨[], eL D E X⟩ : Hp).into (dpos 0 (some 10) false) D := by
  have := into_lset (L := eL D E X) (P := dpos 0 (some 10) false) (D := D)
  exact this
theorem eL_4 : (⟨[], eL D E X⟩ : Hp).into = dset (⟨[], eL D E X⟩ : Hp).into (dpos 4 (some 10) false) E := by
  have := into_lset (L := eL D E X) (P := dpos 4 (some 10) false) (D := E)
  exact this
theorem eL_len : (⟨[], eL D E X⟩ : Hp).into.length = 8 + X.length := by rw [into_len]; simp [eL, dk]; omega
theorem e_ok0 (z : D.b.length = 10) : (dpos 0 (some 10) false).Ok (⟨[], eL D E X⟩ : Hp).into.length D.b.length := by rw [z]; exact dpos_ok (by rw [eL_len]; omega) le_some
theorem e_ok4 {D' : DskD} (z : D'.b.length = 10) : (dpos 4 (some 10) false).Ok (⟨[], eL D E X⟩ : Hp).into.length D'.b.length := by rw [z]; exact dpos_ok (by rw [eL_len]; omega) le_some
theorem e_good (hX : goodL 0 8 X) : Good ⟨[], eL D E X⟩ := dk_good (dk_good hX)
theorem eNewBad (H : JourLib prog) (z : D.b.length = 10) (hX : goodL 0 8 X) {frm nn : Int} {ep : BitVec 32} (hf : I64 frm) (hn : I64 nn) (hE : newE D frm nn ep ≠ 0) {i j : Nat} (hij : i ≠ j) (hi : (eL D E X)[i]? = some none) (hj : (eL D E X)[j]? = some none) :
    Ev prog (.op (.call "haberdash/journal.New" [i, j]) [.ptr (.l 3) 5 0, .v (.int .i64 frm), .v (.int .i64 nn), .v (u32 ep)] ⟨[], eL D E X⟩) (.val (.tup [.v (.pointer none), .v (.int .i64 (newE D frm nn ep))]) ⟨[], eL D E X⟩) := by
  refine op_noneL ?_ rfl (by simp [hij]) (by intro k hk; simp at hk; rcases hk with rfl | rfl; exact hi; exact hj) (e_good hX)
  rw [eL_0]
  exact newJ_bad H (P := dpos 0 (some 10) false) (e_ok0 z) hf hn (by omega) hE
theorem eOpenBad (H : JourLib prog) (z : D.b.length = 10) (hX : goodL 0 8 X) {frm nn : Int} {ep : BitVec 32} (hf : I64 frm) (hn : I64 nn) (hE : newE D frm nn ep ≠ 0) {i j : Nat} (hij : i ≠ j) (hi : (eL D E X)[i]? = some none) (hj : (eL D E X)[j]? = some none) :
    Ev prog (.op (.call "haberdash/journal.Open" [i, j]) [.ptr (.l 3) 5 0, .v (.int .i64 frm), .v (.int .i64 nn), .v (u32 ep)] ⟨[], eL D E X⟩) (.val (.tup [.v (.pointer none), .v (.int .i64 (newE D frm nn ep))]) ⟨[], eL D E X⟩) := by
  refine op_noneL ?_ rfl (by simp [hij]) (by intro k hk; simp at hk; rcases hk with rfl | rfl; exact hi; exact hj) (e_good hX)
  rw [eL_0]
  exact openJ_bad H (P := dpos 0 (some 10) false) (e_ok0 z) hf hn (by omega) hE
theorem eBlankBad (H : Law8E prog) (z : D.b.length = 10) (hX : goodL 0 8 X) {frm nn : Int} {ep : BitVec 32} (hf : I64 frm) (hn : I64 nn) (hE : newE D frm nn ep ≠ 0) {i j : Nat} (hij : i ≠ j) (hi : (eL D D.sw X)[i]? = some none) (hj : (eL D D.sw X)[j]? = some none) :
    Ev prog (.op (.call "haberdash/haberdashref06.Blank" [i, j]) [.ptr (.l 7) 5 0, .v (.int .i64 frm), .v (.int .i64 nn), .v (u32 ep)] ⟨[], eL D D.sw X⟩) (.val (.tup [.v (.pointer none), .v (.int .i64 (newE D frm nn ep))]) ⟨[], eL D D.sw X⟩) := by
  refine op_noneL ?_ rfl (by simp [hij]) (by intro k hk; simp at hk; rcases hk with rfl | rfl; exact hi; exact hj) (e_good hX)
  rw [eL_4]
  exact blank_bad H.blank (P := dpos 4 (some 10) false) (e_ok4 z) hf hn (by omega) hE
theorem e_objJ {f xs} {i j pd : Nat} (he : Ev prog (.call f (xs.map (AV.ren (up 0))) (⟨[], eL D E X⟩ : Hp).into) (.ret (.tup [.ptr (.o ((⟨[], eL D E X⟩ : Hp).into.length + 1)) 9 0, .v (.int .i64 0)]) ((⟨[], eL D E X⟩ : Hp).into ++ newJO (⟨[], eL D E X⟩ : Hp).into.length pd J)))
    (hpd : pd < 8) (hX : goodL 0 8 X) (hij : i ≠ j) (hi : (eL D E X)[i]? = some none) (hj : (eL D E X)[j]? = some none) :
    Ev prog (.op (.call f [i, j]) xs ⟨[], eL D E X⟩) (.val (.tup [.ptr (.l j) 9 0, .v (.int .i64 0)]) ⟨[], ((eL D E X).set i (recB J.recs)).set j (some (sBlk (jC .l pd i J) false))⟩) := by
  refine op_obj (h := ⟨[], eL D E X⟩) (Bq := dBlk (recE.row J.recs) true J.recs.isEmpty) (cs := jC .o pd (⟨[], eL D E X⟩ : Hp).into.length J) (cs2 := jC .l pd i J) (fun a => .tup [a, .v (.int .i64 0)]) (fun ρ a => rfl) he hij hi hj (e_good hX) rfl ?_
  have hll : (eL D E X).length = 8 + X.length := by simp [eL, dk]; omega
  have d0 : down 0 (eL D E X).length [i, j] (.o pd) = some (.l pd) := by simp only [down]; rw [if_neg (by omega), if_pos (by omega)]; rfl
  have d1 : down 0 (eL D E X).length [i, j] (.o (⟨[], eL D E X⟩ : Hp).into.length) = some (.l i) := down_into0 (h := ⟨[], eL D E X⟩) (sites := [i, j])
  show AV.ren.rens (down 0 (eL D E X).length [i, j]) _ = _
  simp only [jC, AV.ren.rens, AV.ren, d0, d1]
theorem e_objY {f xs} {i j pd : Nat} (he : Ev prog (.call f (xs.map (AV.ren (up 0))) (⟨[], eL D E X⟩ : Hp).into) (.ret (.tup [.ptr (.o ((⟨[], eL D E X⟩ : Hp).into.length + 1)) 8 0, .v (.int .i64 0)]) ((⟨[], eL D E X⟩ : Hp).into ++ newYO (⟨[], eL D E X⟩ : Hp).into.length pd J)))
    (hpd : pd < 8) (hX : goodL 0 8 X) (hij : i ≠ j) (hi : (eL D E X)[i]? = some none) (hj : (eL D E X)[j]? = some none) :
    Ev prog (.op (.call f [i, j]) xs ⟨[], eL D E X⟩) (.val (.tup [.ptr (.l j) 8 0, .v (.int .i64 0)]) ⟨[], ((eL D E X).set i (recB J.recs)).set j (some (sBlk (yC .l pd i J) false))⟩) := by
  refine op_obj (h := ⟨[], eL D E X⟩) (Bq := dBlk (recE.row J.recs) true J.recs.isEmpty) (cs := yC .o pd (⟨[], eL D E X⟩ : Hp).into.length J) (cs2 := yC .l pd i J) (fun a => .tup [a, .v (.int .i64 0)]) (fun ρ a => rfl) he hij hi hj (e_good hX) rfl ?_
  have hll : (eL D E X).length = 8 + X.length := by simp [eL, dk]; omega
  have d0 : down 0 (eL D E X).length [i, j] (.o pd) = some (.l pd) := by simp only [down]; rw [if_neg (by omega), if_pos (by omega)]; rfl
  have d1 : down 0 (eL D E X).length [i, j] (.o (⟨[], eL D E X⟩ : Hp).into.length) = some (.l i) := down_into0 (h := ⟨[], eL D E X⟩) (sites := [i, j])
  show AV.ren.rens (down 0 (eL D E X).length [i, j]) _ = _
  simp only [yC, AV.ren.rens, AV.ren, d0, d1]
theorem eNewOk (H : JourLib prog) (z : D.b.length = 10) (hX : goodL 0 8 X) {frm nn : Nat} {ep : BitVec 32} (hE : newE D frm nn ep = 0) {i j : Nat} (hij : i ≠ j) (hi : (eL D E X)[i]? = some none) (hj : (eL D E X)[j]? = some none) :
    Ev prog (.op (.call "haberdash/journal.New" [i, j]) [.ptr (.l 3) 5 0, .v (.int .i64 (frm : Nat)), .v (.int .i64 (nn : Nat)), .v (u32 ep)] ⟨[], eL D E X⟩) (.val (.tup [.ptr (.l j) 9 0, .v (.int .i64 0)]) ⟨[], ((eL D E X).set i (recB (newJ frm nn ep).recs)).set j (some (sBlk (jC .l 3 i (newJ frm nn ep)) false))⟩) := by
  refine e_objJ (pd := 3) ?_ (by omega) hX hij hi hj
  have := newJ_ok H (P := dpos 0 (some 10) false) (frm := frm) (nn := nn) (ep := ep) (e_ok0 (E := E) (X := X) z) (by omega) hE
  rw [← eL_0] at this
  exact this
theorem eOpenOk (H : JourLib prog) (z : D.b.length = 10) (hX : goodL 0 8 X) {frm nn : Nat} {ep : BitVec 32} (hE : newE D frm nn ep = 0) {i j : Nat} (hij : i ≠ j) (hi : (eL D E X)[i]? = some none) (hj : (eL D E X)[j]? = some none) :
    Ev prog (.op (.call "haberdash/journal.Open" [i, j]) [.ptr (.l 3) 5 0, .v (.int .i64 (frm : Nat)), .v (.int .i64 (nn : Nat)), .v (u32 ep)] ⟨[], eL D E X⟩) (.val (.tup [.ptr (.l j) 9 0, .v (.int .i64 0)]) ⟨[], ((eL D E X).set i (recB (openJ D frm nn ep).recs)).set j (some (sBlk (jC .l 3 i (openJ D frm nn ep)) false))⟩) := by
  refine e_objJ (pd := 3) ?_ (by omega) hX hij hi hj
  have := openJ_ok H (P := dpos 0 (some 10) false) (frm := frm) (nn := nn) (ep := ep) (e_ok0 (E := E) (X := X) z) (by omega) hE
  rw [← eL_0] at this
  exact this
theorem eBlankOk (H : Law8E prog) (z : D.b.length = 10) (hX : goodL 0 8 X) {frm nn : Nat} {ep : BitVec 32} (hE : newE D frm nn ep = 0) {i j : Nat} (hij : i ≠ j) (hi : (eL D D.sw X)[i]? = some none) (hj : (eL D D.sw X)[j]? = some none) :
    Ev prog (.op (.call "haberdash/haberdashref06.Blank" [i, j]) [.ptr (.l 7) 5 0, .v (.int .i64 (frm : Nat)), .v (.int .i64 (nn : Nat)), .v (u32 ep)] ⟨[], eL D D.sw X⟩) (.val (.tup [.ptr (.l j) 8 0, .v (.int .i64 0)]) ⟨[], ((eL D D.sw X).set i (recB (newJ frm nn ep).recs)).set j (some (sBlk (yC .l 7 i (newJ frm nn ep)) false))⟩) := by
  refine e_objY (pd := 7) ?_ (by omega) hX hij hi hj
  have := blank_ok H.blank (P := dpos 4 (some 10) false) (frm := frm) (nn := nn) (ep := ep) (e_ok4 (D := D) (E := D.sw) (X := X) z) (by omega) hE
  rw [← eL_4] at this
  exact this
end
set_option maxRecDepth 100000 in
set_option maxHeartbeats 4000000 in
theorem JournalErrors_law (H : Law8E prog) (hp : prog "haberdash/haberdashlaw08.JournalErrors" = some f_law08_JournalErrors) {args} (h : IsAll [.int .i64, .int .i64, .int .u32, .bool] args) :
    ∃ G2, Ev prog (.call "haberdash/haberdashlaw08.JournalErrors" args []) (.ret (.v (.bool true)) G2) := by
  rcases args with _ | ⟨a0, _ | ⟨a1, _ | ⟨a2, _ | ⟨a3, _ | _⟩⟩⟩⟩ <;> try (simp [IsAll] at h; done)
  obtain ⟨⟨c0', h0, rfl⟩, ⟨c1', h1, rfl⟩, ⟨c2', h2, rfl⟩, ⟨c3', h3, rfl⟩, _⟩ := h
  obtain ⟨frm, rfl, hfr⟩ := is_i64 h0
  obtain ⟨nn, rfl, hnn⟩ := is_i64 h1
  obtain ⟨ep, rfl⟩ := is_u32 h2
  obtain ⟨off, rfl⟩ := h3
  have HJ := H.toJourLib
  have HD := HJ.toDiskLib
  refine ⟨[], call_of_fin hp ?_⟩
  simp only [f_law08_JournalErrors_B, enter, List.length_cons, List.length_nil, List.replicate, Nat.reduceAdd, Nat.reduceSub, List.cons_append, List.nil_append, Ty.arg, intAV]
  have gZ : Good ⟨[], Z20⟩ := by exact trivial
  have g1 : Good ⟨[], dk 0 (some 10) false (newD 10) (List.replicate 16 none)⟩ := dk_good trivial
  have gz12 : goodL 0 8 Z12 := by exact trivial
  simp (disch := first | (simp only [ne_eq, reduceCtorEq, not_false_eq_true, implies_true, List.getElem?_cons_zero, List.getElem?_cons_succ]; done) | omega) only [WS, St.guard, St.put, evalO, reduceCtorEq, reduceIte, Nat.reduceAdd, Nat.reduceEqDiff]
  refine WP_of (h' := ⟨[], dk 0 (some 10) false (newD 10) (List.replicate 16 none)⟩) (by exact op_dsk (D := newD 10) (R := fun a => .tup [a, .v (.int .i64 0)]) (fun ρ a => rfl) (New_spec HD (N := 10) (by omega) (by omega)) (by decide) rfl rfl rfl rfl gZ) ?_
  simp (disch := first | (simp only [ne_eq, reduceCtorEq, not_false_eq_true, implies_true, List.getElem?_cons_zero, List.getElem?_cons_succ]; done) | omega) only [WS, St.guard, St.put, evalO, reduceCtorEq, reduceIte, Nat.reduceAdd, Nat.reduceEqDiff]
  refine WP_of (h' := ⟨[], eL (newD 10) (newD 10).sw Z12⟩) (by exact op_dsk (D := newD 10) (R := fun a => a) (fun ρ a => rfl) (refNew_spec H.ref (N := 10) (by omega) (by omega)) (by decide) rfl rfl rfl rfl g1) ?_
  simp (disch := first | (simp only [ne_eq, reduceCtorEq, not_false_eq_true, implies_true, List.getElem?_cons_zero, List.getElem?_cons_succ]; done) | omega) only [WS, St.guard, St.put, evalO, reduceCtorEq, reduceIte, Nat.reduceAdd, Nat.reduceEqDiff]
  refine (WP_p (x := .bool true) (by exact awake8_spec H.toLaw8) (by exact e_good gz12)).2 ?_
  simp (disch := first | (simp only [ne_eq, reduceCtorEq, not_false_eq_true, implies_true, List.getElem?_cons_zero, List.getElem?_cons_succ]; done) | omega) only [WS, St.guard, St.put, evalO, reduceCtorEq, reduceIte, Nat.reduceAdd, Nat.reduceEqDiff, Bool.not_true, isNilV, Hp.isNil]
  have zn : Siz (newD 10) 10 := .new
  cases off
  case' true =>
    obtain ⟨D, hD⟩ : ∃ D, D = (newD 10).crash [] := ⟨_, rfl⟩
    have z : Siz D 10 := by rw [hD]; exact zn.crash
    simp (disch := first | (simp only [ne_eq, reduceCtorEq, not_false_eq_true, implies_true, List.getElem?_cons_zero, List.getElem?_cons_succ]; done) | omega) only [WS, St.guard, St.put, evalO, reduceCtorEq, reduceIte, Nat.reduceAdd, Nat.reduceEqDiff]
    have cr1 : Ev prog (.op (.call "(*haberdash/disk.Disk).Crash" []) [.ptr (.l 3) 5 0, .v (.slice none 0 0)] ⟨[], eL (newD 10) (newD 10).sw Z12⟩) (.val (.tup []) ⟨[], eL D (newD 10).sw Z12⟩) := by
      refine op_turn ⟨[], eL D (newD 10).sw Z12⟩ ?_ rfl rfl rfl (e_good gz12) (e_good gz12)
      have e := Crash_spec HD (D := newD 10) (P := dpos 0 (some 10) false) (e_ok0 (E := (newD 10).sw) (X := Z12) zn.b) (by rw [zn.l, zn.b]) (by rw [zn.a, zn.b]) (by rw [zn.b]; omega) (a := .v (.slice none 0 0)) (ks := []) (fun h => view_nil (by omega))
      rw [← eL_0, ← into_lset (L := eL (newD 10) (newD 10).sw Z12) (P := dpos 0 (some 10) false) (D := (newD 10).crash []), ← hD] at e
      exact e
    have cr2 : Ev prog (.op (.call "(*haberdash/haberdashref06.Disk).Crash" []) [.ptr (.l 7) 5 0, .v (.slice none 0 0)] ⟨[], eL D (newD 10).sw Z12⟩) (.val (.tup []) ⟨[], eL D D.sw Z12⟩) := by
      refine op_turn ⟨[], eL D D.sw Z12⟩ ?_ rfl rfl rfl (e_good gz12) (e_good gz12)
      have e := refCrash_spec H.ref (D := newD 10) (P := dpos 4 (some 10) false) (e_ok4 (D := D) (D' := newD 10) (E := (newD 10).sw) (X := Z12) zn.b) (by rw [zn.l, zn.b]) (by rw [zn.a, zn.b]) (by rw [zn.b]; omega) (a := .v (.slice none 0 0)) (ks := []) (fun h => view_nil (by omega))
      rw [← eL_4, ← into_lset (L := eL D (newD 10).sw Z12) (P := dpos 4 (some 10) false) (D := ((newD 10).crash []).sw), ← hD] at e
      exact e
    refine WP_of (by exact cr1) ?_
    simp (disch := first | (simp only [ne_eq, reduceCtorEq, not_false_eq_true, implies_true, List.getElem?_cons_zero, List.getElem?_cons_succ]; done) | omega) only [WS, St.guard, St.put, evalO, reduceCtorEq, reduceIte, Nat.reduceAdd, Nat.reduceEqDiff]
    refine WP_of (by exact cr2) ?_
    simp (disch := first | (simp only [ne_eq, reduceCtorEq, not_false_eq_true, implies_true, List.getElem?_cons_zero, List.getElem?_cons_succ]; done) | omega) only [WS, St.guard, St.put, evalO, reduceCtorEq, reduceIte, Nat.reduceAdd, Nat.reduceEqDiff]
  case' false =>
    obtain ⟨D, hD⟩ : ∃ D, D = newD 10 := ⟨_, rfl⟩
    have z : Siz D 10 := by rw [hD]; exact zn
    rw [← hD]
    simp (disch := first | (simp only [ne_eq, reduceCtorEq, not_false_eq_true, implies_true, List.getElem?_cons_zero, List.getElem?_cons_succ]; done) | omega) only [WS, St.guard, St.put, evalO, reduceCtorEq, reduceIte, Nat.reduceAdd, Nat.reduceEqDiff]
  all_goals
    have zb := z.b
    have lsn : ∀ h : Hp, prim h .lenSlice [.v (.slice none 0 0)] = some (.v (.int .i64 0), h) := fun h => rfl
    have eu : vBin .eql (.int .u32 0) (.int .u32 0) = some (.bool true) := rfl
    by_cases hE : newE D frm nn ep = 0
    · have hs : 0 ≤ frm ∧ 1 ≤ nn := by
        unfold newE at hE
        by_cases c : frm < 0 ∨ nn < 1 ∨ nn > (D.b.length : Int) - frm ∨ ep = 0#32
        · rw [if_pos c] at hE; omega
        · omega
      obtain ⟨f, rfl⟩ : ∃ f : Nat, frm = f := ⟨frm.toNat, by omega⟩
      obtain ⟨m, rfl⟩ : ∃ m : Nat, nn = m := ⟨nn.toNat, by omega⟩
      have q1 : goodL 0 8 [recB [], some (sBlk (jC .l 3 8 (newJ f m ep)) false), none, none, none, none, none, none, none, none, none, none] := ⟨dBlk_good, sBlk_good rfl, trivial⟩
      have q2 : goodL 0 8 [recB [], some (sBlk (jC .l 3 8 (newJ f m ep)) false), recB (openJ D f m ep).recs, some (sBlk (jC .l 3 10 (openJ D f m ep)) false), none, none, none, none, none, none, none, none] := ⟨dBlk_good, sBlk_good rfl, dBlk_good, sBlk_good rfl, trivial⟩
      have q3 : ∀ B, (∀ b, B = some b → b.labs = []) → goodL 0 8 [recB [], some (sBlk (jC .l 3 8 (newJ f m ep)) false), recB (openJ D f m ep).recs, some (sBlk (jC .l 3 10 (openJ D f m ep)) false), recB [], some (sBlk (yC .l 7 12 (newJ f m ep)) false), none, none, none, none, B, none] := fun B hB => ⟨dBlk_good, sBlk_good rfl, dBlk_good, sBlk_good rfl, dBlk_good, sBlk_good rfl, (show goodL 0 18 [B, none] from goodL_opt (fun b hb => by rw [hB b hb]; rfl) trivial)⟩
      refine WP_of (h' := ⟨[], eL D D.sw [recB [], some (sBlk (jC .l 3 8 (newJ f m ep)) false), none, none, none, none, none, none, none, none, none, none]⟩) (by exact eNewOk HJ zb gz12 hE (i := 8) (j := 9) (by omega) rfl rfl) ?_
      simp (disch := first | (simp only [ne_eq, reduceCtorEq, not_false_eq_true, implies_true, List.getElem?_cons_zero, List.getElem?_cons_succ]; done) | omega) only [WS, St.guard, St.put, evalO, reduceCtorEq, reduceIte, Nat.reduceAdd, Nat.reduceEqDiff]
      refine WP_of (h' := ⟨[], eL D D.sw [recB [], some (sBlk (jC .l 3 8 (newJ f m ep)) false), recB (openJ D f m ep).recs, some (sBlk (jC .l 3 10 (openJ D f m ep)) false), none, none, none, none, none, none, none, none]⟩) (by exact eOpenOk HJ zb q1 hE (i := 10) (j := 11) (by omega) rfl rfl) ?_
      simp (disch := first | (simp only [ne_eq, reduceCtorEq, not_false_eq_true, implies_true, List.getElem?_cons_zero, List.getElem?_cons_succ]; done) | omega) only [WS, St.guard, St.put, evalO, reduceCtorEq, reduceIte, Nat.reduceAdd, Nat.reduceEqDiff]
      refine WP_of (h' := ⟨[], eL D D.sw [recB [], some (sBlk (jC .l 3 8 (newJ f m ep)) false), recB (openJ D f m ep).recs, some (sBlk (jC .l 3 10 (openJ D f m ep)) false), recB [], some (sBlk (yC .l 7 12 (newJ f m ep)) false), none, none, none, none, none, none]⟩) (by exact eBlankOk H zb q2 hE (i := 12) (j := 13) (by omega) rfl rfl) ?_
      simp (disch := first | (simp only [ne_eq, reduceCtorEq, not_false_eq_true, implies_true, List.getElem?_cons_zero, List.getElem?_cons_succ]; done) | omega) only [WS, St.guard, St.put, evalO, reduceCtorEq, reduceIte, Nat.reduceAdd, Nat.reduceEqDiff]
      refine WP_of (by exact op_noneL (sites := [14, 15]) (by exact New_jnil HJ) rfl (by decide) (by intro k hk; simp at hk; rcases hk with rfl | rfl <;> rfl) (by exact e_good (q3 none (by simp)))) ?_
      simp (disch := first | (simp only [ne_eq, reduceCtorEq, not_false_eq_true, implies_true, List.getElem?_cons_zero, List.getElem?_cons_succ]; done) | omega) only [WS, St.guard, St.put, evalO, reduceCtorEq, reduceIte, Nat.reduceAdd, Nat.reduceEqDiff]
      refine WP_of (by exact op_noneL (sites := [16, 17]) (by exact Open_jnil HJ) rfl (by decide) (by intro k hk; simp at hk; rcases hk with rfl | rfl <;> rfl) (by exact e_good (q3 none (by simp)))) ?_
      simp (disch := first | (simp only [ne_eq, reduceCtorEq, not_false_eq_true, implies_true, List.getElem?_cons_zero, List.getElem?_cons_succ]; done) | omega) only [WS, St.guard, St.put, evalO, reduceCtorEq, reduceIte, Nat.reduceAdd, Nat.reduceEqDiff, isNilV, Hp.isNil, Int.reduceBEq, Int.reduceBNe, bne_self_eq_false]
      refine (WR_eq (build1 (n := 1) (xs := [.v (.int .u8 1)]) (by rfl) (by rfl) (by rfl) (cells_bytes (bs := [1])) (by rfl))).2 ?_
      simp (disch := first | (simp only [ne_eq, reduceCtorEq, not_false_eq_true, implies_true, List.getElem?_cons_zero, List.getElem?_cons_succ]; done) | omega) only [WS, St.guard, St.put, evalO, reduceCtorEq, reduceIte, Nat.reduceAdd, Nat.reduceEqDiff]
      refine WP_of (by exact op_noneL (sites := []) (by exact Add_jnil HJ) rfl (by decide) (by simp) (by exact e_good (q3 (some (dBlk [.v (.int .u8 1)] false false)) (by intro b hb; cases hb; rfl)))) ?_
      simp (disch := first | (simp only [ne_eq, reduceCtorEq, not_false_eq_true, implies_true, List.getElem?_cons_zero, List.getElem?_cons_succ]; done) | omega) only [WS, St.guard, St.put, evalO, reduceCtorEq, reduceIte, Nat.reduceAdd, Nat.reduceEqDiff, Int.reduceBEq]
      refine WP_of (by exact op_noneL (sites := [19]) (by exact Records_jnil HJ) rfl (by decide) (by intro k hk; simp at hk; subst hk; rfl) (by exact e_good (q3 (some (dBlk [.v (.int .u8 1)] false false)) (by intro b hb; cases hb; rfl)))) ?_
      simp (disch := first | (simp only [ne_eq, reduceCtorEq, not_false_eq_true, implies_true, List.getElem?_cons_zero, List.getElem?_cons_succ]; done) | omega) only [WS, St.guard, St.put, evalO, reduceCtorEq, reduceIte, Nat.reduceAdd, Nat.reduceEqDiff, Int.reduceBEq, lsn, Int.cast_ofNat_Int]
      refine WP_of (by exact op_noneL (sites := []) (by exact First_jnil HJ) rfl (by decide) (by simp) (by exact e_good (q3 (some (dBlk [.v (.int .u8 1)] false false)) (by intro b hb; cases hb; rfl)))) ?_
      simp (disch := first | (simp only [ne_eq, reduceCtorEq, not_false_eq_true, implies_true, List.getElem?_cons_zero, List.getElem?_cons_succ]; done) | omega) only [WS, St.guard, St.put, evalO, reduceCtorEq, reduceIte, Nat.reduceAdd, Nat.reduceEqDiff, eu]
      refine WP_of (by exact op_noneL (sites := []) (by exact Used_jnil HJ) rfl (by decide) (by simp) (by exact e_good (q3 (some (dBlk [.v (.int .u8 1)] false false)) (by intro b hb; cases hb; rfl)))) ?_
      simp (disch := first | (simp only [ne_eq, reduceCtorEq, not_false_eq_true, implies_true, List.getElem?_cons_zero, List.getElem?_cons_succ]; done) | omega) only [WS, St.guard, St.put, evalO, reduceCtorEq, reduceIte, Nat.reduceAdd, Nat.reduceEqDiff, Int.reduceBEq, fin_tmp, leave_v]
      simp
    · have hb : (newE D frm nn ep != 0) = true := by rw [bne_iff_ne]; exact hE
      have q3 : ∀ B, (∀ b, B = some b → b.labs = []) → goodL 0 8 [none, none, none, none, none, none, none, none, none, none, B, none] := fun B hB => (show goodL 0 18 [B, none] from goodL_opt (fun b hb => by rw [hB b hb]; rfl) trivial)
      refine WP_of (by exact eNewBad HJ zb gz12 hfr hnn hE (i := 8) (j := 9) (by omega) rfl rfl) ?_
      simp (disch := first | (simp only [ne_eq, reduceCtorEq, not_false_eq_true, implies_true, List.getElem?_cons_zero, List.getElem?_cons_succ]; done) | omega) only [WS, St.guard, St.put, evalO, reduceCtorEq, reduceIte, Nat.reduceAdd, Nat.reduceEqDiff]
      refine WP_of (by exact eOpenBad HJ zb gz12 hfr hnn hE (i := 10) (j := 11) (by omega) rfl rfl) ?_
      simp (disch := first | (simp only [ne_eq, reduceCtorEq, not_false_eq_true, implies_true, List.getElem?_cons_zero, List.getElem?_cons_succ]; done) | omega) only [WS, St.guard, St.put, evalO, reduceCtorEq, reduceIte, Nat.reduceAdd, Nat.reduceEqDiff]
      refine WP_of (by exact eBlankBad H zb gz12 hfr hnn hE (i := 12) (j := 13) (by omega) rfl rfl) ?_
      simp (disch := first | (simp only [ne_eq, reduceCtorEq, not_false_eq_true, implies_true, List.getElem?_cons_zero, List.getElem?_cons_succ]; done) | omega) only [WS, St.guard, St.put, evalO, reduceCtorEq, reduceIte, Nat.reduceAdd, Nat.reduceEqDiff]
      refine WP_of (by exact op_noneL (sites := [14, 15]) (by exact New_jnil HJ) rfl (by decide) (by intro k hk; simp at hk; rcases hk with rfl | rfl <;> rfl) (by exact e_good gz12)) ?_
      simp (disch := first | (simp only [ne_eq, reduceCtorEq, not_false_eq_true, implies_true, List.getElem?_cons_zero, List.getElem?_cons_succ]; done) | omega) only [WS, St.guard, St.put, evalO, reduceCtorEq, reduceIte, Nat.reduceAdd, Nat.reduceEqDiff]
      refine WP_of (by exact op_noneL (sites := [16, 17]) (by exact Open_jnil HJ) rfl (by decide) (by intro k hk; simp at hk; rcases hk with rfl | rfl <;> rfl) (by exact e_good gz12)) ?_
      simp (disch := first | (simp only [ne_eq, reduceCtorEq, not_false_eq_true, implies_true, List.getElem?_cons_zero, List.getElem?_cons_succ]; done) | omega) only [WS, St.guard, St.put, evalO, reduceCtorEq, reduceIte, Nat.reduceAdd, Nat.reduceEqDiff, isNilV, Hp.isNil, Int.reduceBEq, Int.reduceBNe, beq_self_eq_true, bne_self_eq_false, hb]
      refine (WR_eq (build1 (n := 1) (xs := [.v (.int .u8 1)]) (by rfl) (by rfl) (by rfl) (cells_bytes (bs := [1])) (by rfl))).2 ?_
      simp (disch := first | (simp only [ne_eq, reduceCtorEq, not_false_eq_true, implies_true, List.getElem?_cons_zero, List.getElem?_cons_succ]; done) | omega) only [WS, St.guard, St.put, evalO, reduceCtorEq, reduceIte, Nat.reduceAdd, Nat.reduceEqDiff]
      refine WP_of (by exact op_noneL (sites := []) (by exact Add_jnil HJ) rfl (by decide) (by simp) (by exact e_good (q3 (some (dBlk [.v (.int .u8 1)] false false)) (by intro b hb; cases hb; rfl)))) ?_
      simp (disch := first | (simp only [ne_eq, reduceCtorEq, not_false_eq_true, implies_true, List.getElem?_cons_zero, List.getElem?_cons_succ]; done) | omega) only [WS, St.guard, St.put, evalO, reduceCtorEq, reduceIte, Nat.reduceAdd, Nat.reduceEqDiff, Int.reduceBEq]
      refine WP_of (by exact op_noneL (sites := [19]) (by exact Records_jnil HJ) rfl (by decide) (by intro k hk; simp at hk; subst hk; rfl) (by exact e_good (q3 (some (dBlk [.v (.int .u8 1)] false false)) (by intro b hb; cases hb; rfl)))) ?_
      simp (disch := first | (simp only [ne_eq, reduceCtorEq, not_false_eq_true, implies_true, List.getElem?_cons_zero, List.getElem?_cons_succ]; done) | omega) only [WS, St.guard, St.put, evalO, reduceCtorEq, reduceIte, Nat.reduceAdd, Nat.reduceEqDiff, Int.reduceBEq, lsn, Int.cast_ofNat_Int]
      refine WP_of (by exact op_noneL (sites := []) (by exact First_jnil HJ) rfl (by decide) (by simp) (by exact e_good (q3 (some (dBlk [.v (.int .u8 1)] false false)) (by intro b hb; cases hb; rfl)))) ?_
      simp (disch := first | (simp only [ne_eq, reduceCtorEq, not_false_eq_true, implies_true, List.getElem?_cons_zero, List.getElem?_cons_succ]; done) | omega) only [WS, St.guard, St.put, evalO, reduceCtorEq, reduceIte, Nat.reduceAdd, Nat.reduceEqDiff, eu]
      refine WP_of (by exact op_noneL (sites := []) (by exact Used_jnil HJ) rfl (by decide) (by simp) (by exact e_good (q3 (some (dBlk [.v (.int .u8 1)] false false)) (by intro b hb; cases hb; rfl)))) ?_
      simp (disch := first | (simp only [ne_eq, reduceCtorEq, not_false_eq_true, implies_true, List.getElem?_cons_zero, List.getElem?_cons_succ]; done) | omega) only [WS, St.guard, St.put, evalO, reduceCtorEq, reduceIte, Nat.reduceAdd, Nat.reduceEqDiff, Int.reduceBEq, fin_tmp, leave_v]
      simp
end Go.AM
