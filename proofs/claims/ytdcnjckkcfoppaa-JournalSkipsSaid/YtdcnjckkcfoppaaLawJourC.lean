import Derived.Test.YtdcnjckkcfoppaaJourD
set_option linter.unusedVariables false
set_option linter.unusedSimpArgs false
namespace Go.AM
variable {prog : String → Option IFn}
variable {L : List (Option Blk)} {P : DPos} {D : DskD} {n q p : Nat} {B : Option Blk} {cs : List AV} {J : JD}
structure Law8S (prog : String → Option IFn) : Prop extends Law8 prog, RowLib prog where
  jput : prog "haberdash/haberdashlaw08.put" = some f_law08_put
theorem lput (H : JourLib prog) (hp : prog "haberdash/haberdashlaw08.put" = some f_law08_put) (h : LOk L P q p n) (hL : Good ⟨[], L⟩) {a : AV} {xs : List BtV} (va : ∀ h, TView bsE h a xs) {bs : List Txt} (hbs : bs = xs.map putR) (I : PutInv n D J bs) {site : Nat}
    (hs : (lj L P q p D (recB J.recs) (jC .l P.p q J))[site]? = some none) (hs' : (lj L P q p (addAll (D, J) bs).1 (recB (addAll (D, J) bs).2.recs) (jC .l P.p q (addAll (D, J) bs).2))[site]? = some none) :
    ∃ r B, Ev prog (.op (.call "haberdash/haberdashlaw08.put" [site]) [.ptr (.l p) 9 0, .v (.slice none 0 0), a] ⟨[], lj L P q p D (recB J.recs) (jC .l P.p q J)⟩)
      (.val (.tup [r, .v (.int .i64 (bs.length : Nat))]) ⟨[], (lj L P q p (addAll (D, J) bs).1 (recB (addAll (D, J) bs).2.recs) (jC .l P.p q (addAll (D, J) bs).2)).set site B⟩) ∧ DB B ∧
      ((bs = [] ∧ r = .v (.slice none 0 0) ∧ B = none) ∨ (bs ≠ [] ∧ r = .own (.l site) bs.length 0 bs.length 1 none ∧ B = recB bs)) := by
  have hal : a.labs = [] := sliceAt_val (site := 0) va
  have har : ∀ ρ, a.ren ρ = a := fun ρ => ren_id fun ℓ hℓ => by rw [hal] at hℓ; cases hℓ
  have g1 := jG (D := D) (J := J) hL h
  have g2 := jG (D := (addAll (D, J) bs).1) (J := (addAll (D, J) bs).2) hL h
  obtain ⟨r, Bs, he, hr⟩ := putJ_spec H hp (h.into (G := [])) va hbs I
  have hlj : ∀ {D' : DskD} {J' : JD}, (lj L P q p D' (recB J'.recs) (jC .l P.p q J')).length = L.length := by intro D' J'; simp [lj, lset]
  have hil : ∀ {D' : DskD} {J' : JD}, (⟨[], lj L P q p D' (recB J'.recs) (jC .l P.p q J')⟩ : Hp).into.length = (⟨[], L⟩ : Hp).into.length := by
    intro D' J'; rw [into_len, into_len]; simp only [hlj]
  have hev : ∀ (hB : Bs.length ≤ 1), Ev prog (.op (.call "haberdash/haberdashlaw08.put" [site]) [.ptr (.l p) 9 0, .v (.slice none 0 0), a] ⟨[], lj L P q p D (recB J.recs) (jC .l P.p q J)⟩)
      (.val ((AV.tup [r, .v (.int .i64 (bs.length : Nat))]).ren (down 0 L.length [site])) ⟨[], putAll (lj L P q p (addAll (D, J) bs).1 (recB (addAll (D, J) bs).2.recs) (jC .l P.p q (addAll (D, J) bs).2)) [site] ((padTo 1 Bs).map (Option.map (Blk.ren (down 0 L.length [site]))))⟩) := fun hB => by
    refine .opCall g1.okBlks (by
      rw [into_lj recB_data, jC_up]
      have : [AV.ptr (.l p) 9 0, .v (.slice none 0 0), a].map (AV.ren (up (⟨[], lj L P q p D (recB J.recs) (jC .l P.p q J)⟩ : Hp).G.length)) = [.ptr (.o (([] : List (Option Blk)).length + p)) 9 0, .v (.slice none 0 0), a] := by
        simp only [List.map_cons, List.map_nil, har]; rfl
      rw [this]
      exact he) ?_
    have hb := back_into (h := ⟨[], lj L P q p D (recB J.recs) (jC .l P.p q J)⟩) (h' := ⟨[], lj L P q p (addAll (D, J) bs).1 (recB (addAll (D, J) bs).2.recs) (jC .l P.p q (addAll (D, J) bs).2)⟩) (sites := [site]) (Bs := Bs) (r := .tup [r, .v (.int .i64 (bs.length : Nat))]) rfl (by simp only [hlj]) g2.refsOK (by simpa using hB) (by simp) (by simp [free_of_get hs]) (by simp [free_of_get hs'])
    rw [into_lj recB_data, jC_up] at hb
    simp only [hlj] at hb
    exact hb
  rcases hr with ⟨h1, rfl, rfl⟩ | ⟨h1, rfl, rfl⟩
  · refine ⟨_, none, hev (by simp), DB.z, .inl ⟨h1, rfl, rfl⟩⟩
  · have d0 : down 0 L.length [site] (.o (⟨[], L⟩ : Hp).into.length) = some (.l site) := down_into0 (h := ⟨[], L⟩) (sites := [site])
    have hv := hev (by simp)
    have e1 : (AV.tup [.own (.o (⟨[], L⟩ : Hp).into.length) bs.length 0 bs.length 1 none, .v (.int .i64 (bs.length : Nat))]).ren (down 0 L.length [site]) = .tup [.own (.l site) bs.length 0 bs.length 1 none, .v (.int .i64 (bs.length : Nat))] := by
      simp only [AV.ren, AV.ren.rens, d0]
    rw [e1] at hv
    exact ⟨_, recB bs, hv, DB.d, .inr ⟨h1, rfl, rfl⟩⟩
theorem lOpen (H : JourLib prog) {N : List (Option Blk)} (hN : lset N P D = N) (hP : P.Ok N.length D.b.length) (hg : Good ⟨[], N⟩) (hl : D.b.length ≤ 20000) {frm nn : Nat} {ep : BitVec 32} (hE : newE D frm nn ep = 0) {i j : Nat} (hij : i ≠ j) (hi : N[i]? = some none) (hj : N[j]? = some none) :
    Ev prog (.op (.call "haberdash/journal.Open" [i, j]) [.ptr (.l P.p) 5 0, .v (.int .i64 (frm : Nat)), .v (.int .i64 (nn : Nat)), .v (u32 ep)] ⟨[], N⟩) (.val (.tup [.ptr (.l j) 9 0, .v (.int .i64 0)]) ⟨[], (N.set i (recB (openJ D frm nn ep).recs)).set j (some (sBlk (jC .l P.p i (openJ D frm nn ep)) false))⟩) := by
  have hin : (⟨[], N⟩ : Hp).into = dset (⟨[], N⟩ : Hp).into P D := by
    have := into_lset (L := N) (P := P) (D := D)
    rw [hN] at this; exact this
  have hlen : (⟨[], N⟩ : Hp).into.length = N.length := by rw [into_len]; simp
  have hpp := hP.hp
  refine op_obj (h := ⟨[], N⟩) (Bq := dBlk (recE.row (openJ D frm nn ep).recs) true (openJ D frm nn ep).recs.isEmpty) (cs := jC .o P.p (⟨[], N⟩ : Hp).into.length (openJ D frm nn ep)) (cs2 := jC .l P.p i (openJ D frm nn ep)) (fun a => .tup [a, .v (.int .i64 0)]) (fun ρ a => rfl) ?_ hij hi hj hg rfl ?_
  · have := openJ_ok H (G := (⟨[], N⟩ : Hp).into) (P := P) (frm := frm) (nn := nn) (ep := ep) (by rw [hlen]; exact hP) hl hE
    rw [← hin] at this
    have xr : [AV.ptr (.l P.p) 5 0, .v (.int .i64 (frm : Nat)), .v (.int .i64 (nn : Nat)), .v (u32 ep)].map (AV.ren (up (⟨[], N⟩ : Hp).G.length)) = [.ptr (.o P.p) 5 0, .v (.int .i64 (frm : Nat)), .v (.int .i64 (nn : Nat)), .v (u32 ep)] := by
      simp only [List.map_cons, List.map_nil, AV.ren, up, List.length_nil, Nat.zero_add]
    rw [xr]
    exact this
  · have d0 : down 0 N.length [i, j] (.o P.p) = some (.l P.p) := by simp only [down]; rw [if_neg (by omega), if_pos (by omega)]; rfl
    have d1 : down 0 N.length [i, j] (.o (⟨[], N⟩ : Hp).into.length) = some (.l i) := down_into0 (h := ⟨[], N⟩) (sites := [i, j])
    show AV.ren.rens (down 0 N.length [i, j]) _ = _
    simp only [jC, AV.ren.rens, AV.ren, d0, d1]
theorem putR_small {xs : List BtV} : SmallR (xs.map putR) := fun b hb => by
  obtain ⟨x, _, rfl⟩ := List.mem_map.1 hb
  refine ⟨by simp [putR], ?_⟩
  show ((1 : UInt8) :: x.b.take 200).length ≤ 201
  rw [List.length_cons, List.length_take]; omega
theorem putInv_new {D : DskD} {ep : BitVec 32} {bs : List Txt} (hl : Live D) (z : Siz D 90) (he : ep ≠ 0#32) (hs : SmallR bs) (hb : bs.length ≤ 10) : PutInv 90 D (newJ 0 90 ep) bs := by
  have := sumN_le fun b h => (hs b h).2
  exact ⟨addedOk_new hl z, by omega, by omega, he, Nat.le_refl _, by show 0 + sumN bs ≤ 90; omega, hs, by omega⟩
abbrev sP : DPos := dpos 0 (some 90) false
theorem s_ok {X : List (Option Blk)} {qq pp : Nat} (h1 : 3 < qq) (h2 : qq < pp) (h3 : pp < X.length) : LOk X sP qq pp 90 :=
  ⟨dpos_ok (by omega) le_some, h2, h3, by show 3 < pp; omega, fun k hk => by simp only [sP, dpos, List.mem_cons, List.not_mem_nil, or_false] at hk; omega, fun k hk => by simp only [sP, dpos, List.mem_cons, List.not_mem_nil, or_false] at hk; omega⟩
def sL (D : DskD) (X : List (Option Blk)) : List (Option Blk) := dk 0 (some 90) false D X
def oB (q : Nat) (J : JD) : Option Blk := some (sBlk (jC .l 3 q J) false)
theorem newE_live {D : DskD} {ep : BitVec 32} (hl : Live D) (z : Siz D 90) (he : ep ≠ 0#32) : newE D ((0 : Nat) : Int) ((90 : Nat) : Int) ep = 0 := by
  unfold newE
  rw [if_neg (by rw [z.b]; simp [he]), hl.1]
  rfl
theorem sBlk_oB {q k : Nat} {J : JD} (h3 : 3 < k) (hq : q < k) : (AV.labs.labss (jC .l 3 q J)).all (refLt 0 k) = true := by
  rw [jC_labs]; simp [refLt]; omega
set_option maxRecDepth 100000 in
set_option maxHeartbeats 4000000 in
theorem JournalSkips_law (H : Law8S prog) (hp : prog "haberdash/haberdashlaw08.JournalSkips" = some f_law08_JournalSkips) {args} (h : IsAll [.slice (.slice (.int .u8)), .slice (.slice (.int .u8))] args) :
    ∃ G2, Ev prog (.call "haberdash/haberdashlaw08.JournalSkips" args []) (.ret (.v (.bool true)) G2) := by
  rcases args with _ | ⟨a0, _ | ⟨a1, _ | _⟩⟩ <;> try (simp [IsAll] at h; done)
  obtain ⟨⟨c0', h0, rfl⟩, ⟨c1', h1, rfl⟩, _⟩ := h
  obtain ⟨a, xs, rfl, va, hxm⟩ := is_bss h0
  obtain ⟨b, ys, rfl, vb, hym⟩ := is_bss h1
  have HJ := H.toJourLib
  have HD := HJ.toDiskLib
  refine ⟨[], call_of_fin hp ?_⟩
  simp only [f_law08_JournalSkips_B, enter, List.length_cons, List.length_nil, List.replicate, Nat.reduceAdd, Nat.reduceSub, List.cons_append, List.nil_append, Ty.arg]
  have lna : ∀ h, prim h .lenSlice [a] = some (.v (.int .i64 xs.length), h) := fun h => (va h).lenSlice
  have lnb : ∀ h, prim h .lenSlice [b] = some (.v (.int .i64 ys.length), h) := fun h => (vb h).lenSlice
  have D14 : Dat (List.replicate 14 none) := by intro B hB b e; rw [List.eq_of_mem_replicate hB] at e; cases e
  have gZ : Good ⟨[], List.replicate 14 none⟩ := goodX D14
  simp (disch := first | (simp only [ne_eq, reduceCtorEq, not_false_eq_true, implies_true, List.getElem?_cons_zero, List.getElem?_cons_succ]; done) | omega) only [WS, St.guard, St.put, evalO, reduceCtorEq, reduceIte, Nat.reduceAdd, Nat.reduceEqDiff, lna, lnb]
  by_cases hx : (xs.length : Int) > 10
  · simp (disch := first | (simp only [ne_eq, reduceCtorEq, not_false_eq_true, implies_true, List.getElem?_cons_zero, List.getElem?_cons_succ]; done) | omega) only [WS, St.guard, St.put, evalO, reduceCtorEq, reduceIte, Nat.reduceAdd, Nat.reduceEqDiff, hx, decide_true]
    refine (WP_p (x := .bool true) (by exact awake8_spec H.toLaw8) (by exact gZ)).2 ?_
    simp (disch := first | (simp only [ne_eq, reduceCtorEq, not_false_eq_true, implies_true, List.getElem?_cons_zero, List.getElem?_cons_succ]; done) | omega) only [WS, St.guard, St.put, evalO, reduceCtorEq, reduceIte, Nat.reduceAdd, Nat.reduceEqDiff, fin_tmp, leave_v]
    simp
  by_cases hy : (ys.length : Int) > 10
  · simp (disch := first | (simp only [ne_eq, reduceCtorEq, not_false_eq_true, implies_true, List.getElem?_cons_zero, List.getElem?_cons_succ]; done) | omega) only [WS, St.guard, St.put, evalO, reduceCtorEq, reduceIte, Nat.reduceAdd, Nat.reduceEqDiff, hx, hy, lnb, decide_true, decide_false]
    refine (WP_p (x := .bool true) (by exact awake8_spec H.toLaw8) (by exact gZ)).2 ?_
    simp (disch := first | (simp only [ne_eq, reduceCtorEq, not_false_eq_true, implies_true, List.getElem?_cons_zero, List.getElem?_cons_succ]; done) | omega) only [WS, St.guard, St.put, evalO, reduceCtorEq, reduceIte, Nat.reduceAdd, Nat.reduceEqDiff, fin_tmp, leave_v]
    simp
  simp (disch := first | (simp only [ne_eq, reduceCtorEq, not_false_eq_true, implies_true, List.getElem?_cons_zero, List.getElem?_cons_succ]; done) | omega) only [WS, St.guard, St.put, evalO, reduceCtorEq, reduceIte, Nat.reduceAdd, Nat.reduceEqDiff, hx, hy, lnb, decide_false]
  refine WP_of (h' := ⟨[], lset (List.replicate 14 none) sP (newD 90)⟩) (by exact op_dsk (D := newD 90) (R := fun a => .tup [a, .v (.int .i64 0)]) (fun ρ a => rfl) (New_spec HD (N := 90) (by omega) (by omega)) (by decide) rfl rfl rfl rfl gZ) ?_
  simp (disch := first | (simp only [ne_eq, reduceCtorEq, not_false_eq_true, implies_true, List.getElem?_cons_zero, List.getElem?_cons_succ]; done) | omega) only [WS, St.guard, St.put, evalO, reduceCtorEq, reduceIte, Nat.reduceAdd, Nat.reduceEqDiff]
  have z0 : Siz (newD 90) 90 := .new
  refine WP_of (by exact sNew HJ (L := List.replicate 14 none) (s_ok (qq := 4) (pp := 5) (by omega) (by omega) (by simp)) gZ (D := newD 90) (frm := 0) (nn := 90) (ep := 3#32) rfl rfl (by rw [z0.b]; omega) (newE_new (by omega) (by omega) (by decide))) ?_
  simp (disch := first | (simp only [ne_eq, reduceCtorEq, not_false_eq_true, implies_true, List.getElem?_cons_zero, List.getElem?_cons_succ]; done) | omega) only [WS, St.guard, St.put, evalO, reduceCtorEq, reduceIte, Nat.reduceAdd, Nat.reduceEqDiff]
  refine (WP_p (x := .bool true) (by exact awake8_spec H.toLaw8) (by exact jG (J := newJ 0 90 3#32) gZ (s_ok (qq := 4) (pp := 5) (by omega) (by omega) (by simp)))).2 ?_
  simp (disch := first | (simp only [ne_eq, reduceCtorEq, not_false_eq_true, implies_true, List.getElem?_cons_zero, List.getElem?_cons_succ]; done) | omega) only [WS, St.guard, St.put, evalO, reduceCtorEq, reduceIte, Nat.reduceAdd, Nat.reduceEqDiff, Int.reduceBNe, isNilV, Hp.isNil]
  obtain ⟨as, has⟩ : ∃ as, as = xs.map putR := ⟨_, rfl⟩
  obtain ⟨bs, hbs⟩ : ∃ bs, bs = ys.map putR := ⟨_, rfl⟩
  have hal : as.length = xs.length := by rw [has, List.length_map]
  have hbl : bs.length = ys.length := by rw [hbs, List.length_map]
  have sa : SmallR as := by rw [has]; exact putR_small
  have sb : SmallR bs := by rw [hbs]; exact putR_small
  have I1 := putInv_new (D := newD 90) (ep := 3#32) (bs := as) newD_live z0 (by decide) sa (by omega)
  obtain ⟨r6, B6, ev6, d6, _⟩ := lput HJ H.jput (s_ok (X := List.replicate 14 none) (qq := 4) (pp := 5) (by omega) (by omega) (by simp)) gZ va has I1 (site := 6) rfl rfl
  refine WP_of (by exact ev6) ?_
  have A1 := addAll_ok (n := 90) (by omega) as _ (addedOk_new (ep := 3#32) newD_live z0) sa.big (by have := I1.fit; exact this)
  have O1 := open_one sa (by omega)
  have O2 := fun h0 => open_two (bs := bs) sa sb (by omega) (by omega) h0
  generalize addAll (newD 90, newJ 0 90 3#32) as = R1 at *
  obtain ⟨D1, J1⟩ := R1
  simp only at O1 O2
  have l1 : Live D1 := A1.ok.live
  have z1 : Siz D1 90 := A1.ok.z
  have gM : ∀ {D B}, DB B → Good ⟨[], sL D [recB J1.recs, oB 4 J1, B, none, none, none, none, none, none, none]⟩ := fun {D B} hB =>
    dk_good ⟨dBlk_good, sBlk_good (sBlk_oB (by omega) (by omega)), goodL_opt (fun b hb => by rw [hB b hb]; rfl) trivial⟩
  obtain ⟨M, hM⟩ : ∃ M, M = sL D1 [recB J1.recs, oB 4 J1, B6, none, none, none, none, none, none, none] := ⟨_, rfl⟩
  have gM' : Good ⟨[], M⟩ := by rw [hM]; exact gM d6
  have hM1 : (lj (List.replicate 14 none) sP 4 5 D1 (recB J1.recs) (jC .l sP.p 4 J1)).set 6 B6 = lset M sP D1 := by rw [hM]; rfl
  have m7 : M[7]? = some none := by rw [hM]; rfl
  have m8 : M[8]? = some none := by rw [hM]; rfl
  have ml : M.length = 14 := by rw [hM]; rfl
  have m9 : ∀ (D : DskD) (J : JD), (lj M sP 7 8 D (recB J.recs) (jC .l sP.p 7 J))[9]? = some none := fun D J => by rw [hM]; rfl
  simp (disch := first | (simp only [ne_eq, reduceCtorEq, not_false_eq_true, implies_true, List.getElem?_cons_zero, List.getElem?_cons_succ]; done) | omega) only [WS, St.guard, St.put, evalO, reduceCtorEq, reduceIte, Nat.reduceAdd, Nat.reduceEqDiff]
  rw [hM1]
  refine WP_of (by exact sNew HJ (L := M) (s_ok (qq := 7) (pp := 8) (by omega) (by omega) (by omega)) gM' (D := D1) (frm := 0) (nn := 90) (ep := 4#32) m7 m8 (by rw [z1.b]; omega) (newE_live l1 z1 (by decide))) ?_
  simp (disch := first | (simp only [ne_eq, reduceCtorEq, not_false_eq_true, implies_true, List.getElem?_cons_zero, List.getElem?_cons_succ]; done) | omega) only [WS, St.guard, St.put, evalO, reduceCtorEq, reduceIte, Nat.reduceAdd, Nat.reduceEqDiff, Int.reduceBNe, isNilV, Hp.isNil]
  have I2 := putInv_new (D := D1) (ep := 4#32) (bs := bs) l1 z1 (by decide) sb (by omega)
  obtain ⟨r9, B9, ev9, d9, hr9⟩ := lput HJ H.jput (s_ok (X := M) (qq := 7) (pp := 8) (by omega) (by omega) (by omega)) gM' vb hbs I2 (site := 9) (m9 _ _) (m9 _ _)
  refine WP_of (by exact ev9) ?_
  have A2 := addAll_ok (n := 90) (by omega) bs _ (addedOk_new (ep := 4#32) l1 z1) sb.big (by have := I2.fit; exact this)
  generalize hR2 : addAll (D1, newJ 0 90 4#32) bs = R2 at *
  obtain ⟨D2, J2⟩ := R2
  simp only at O2
  have l2 : Live D2 := A2.ok.live
  have z2 : Siz D2 90 := A2.ok.z
  have gN : Good ⟨[], (lj M sP 7 8 D2 (recB J2.recs) (jC .l sP.p 7 J2)).set 9 B9⟩ := Good.setO (h := ⟨[], lj M sP 7 8 D2 (recB J2.recs) (jC .l sP.p 7 J2)⟩) (jG gM' (s_ok (qq := 7) (pp := 8) (by omega) (by omega) (by omega))) d9
  obtain ⟨N, hN⟩ : ∃ N, N = (lj M sP 7 8 D2 (recB J2.recs) (jC .l sP.p 7 J2)).set 9 B9 := ⟨_, rfl⟩
  have hNs : lset N sP D2 = N := by rw [hN, hM]; rfl
  have n10 : N[10]? = some none := by rw [hN, hM]; rfl
  have n11 : N[11]? = some none := by rw [hN, hM]; rfl
  have n9 : N[9]? = some B9 := by rw [hN, hM]; rfl
  have nl : N.length = 14 := by rw [hN, hM]; rfl
  have hX12 : ∀ (X : JD), (lj N sP 10 11 D2 (recB X.recs) (jC .l sP.p 10 X))[12]? = some none := fun X => by rw [hN, hM]; rfl
  have hX13 : ∀ (X : JD), (lj N sP 10 11 D2 (recB X.recs) (jC .l sP.p 10 X))[13]? = some none := fun X => by rw [hN, hM]; rfl
  have hX9 : ∀ (X : JD) c, ((lj N sP 10 11 D2 (recB X.recs) (jC .l sP.p 10 X)).set 13 c)[9]? = some B9 := fun X c => by rw [hN, hM]; rfl
  have hXc : ∀ (X : JD) c, ((lj N sP 10 11 D2 (recB X.recs) (jC .l sP.p 10 X)).set 13 c)[13]? = some c := fun X c => by rw [hN, hM]; rfl
  have hF : ∀ (X : JD) c, (lj N sP 10 11 D2 (recB X.recs) (jC .l sP.p 10 X)).set 13 c = lj (N.set 13 c) sP 10 11 D2 (recB X.recs) (jC .l sP.p 10 X) := fun X c => by rw [hN, hM]; rfl
  have hO : ∀ X : JD, (N.set 10 (recB X.recs)).set 11 (some (sBlk (jC .l sP.p 10 X) false)) = lj N sP 10 11 D2 (recB X.recs) (jC .l sP.p 10 X) := fun X => by unfold lj; rw [hNs]
  rw [← hN] at gN ⊢
  have lk : LOk N sP 10 11 90 := s_ok (by omega) (by omega) (by omega)
  simp (disch := first | (simp only [ne_eq, reduceCtorEq, not_false_eq_true, implies_true, List.getElem?_cons_zero, List.getElem?_cons_succ]; done) | omega) only [WS, St.guard, St.put, evalO, reduceCtorEq, reduceIte, Nat.reduceAdd, Nat.reduceEqDiff]
  refine WP_of (by exact lOpen HJ (P := sP) hNs (by rw [z2.b]; exact dpos_ok (by omega) le_some) gN (by rw [z2.b]; omega) (frm := 0) (nn := 90) (ep := 5#32) (newE_live l2 z2 (by decide)) (i := 10) (j := 11) (by omega) n10 n11) ?_
  rw [hO]
  have ls : ∀ (m k : Nat) (h : Hp), prim h .lenSlice [.own (.l k) m 0 m 1 none] = some (.v (.int .i64 (m : Nat)), h) := fun m k h => rfl
  have lsn : ∀ h : Hp, prim h .lenSlice [.v (.slice none 0 0)] = some (.v (.int .i64 0), h) := fun h => rfl
  have hroom : room = 140737488355328 := rfl
  rcases hr9 with ⟨h1, rfl, rfl⟩ | ⟨h1, rfl, rfl⟩
  · subst h1
    have hD : D2 = D1 := (congrArg Prod.fst hR2).symm
    rw [← hD] at O1
    generalize openJ D2 0 90 5#32 = X at *
    have hra : X.recs = as := O1
    simp (disch := first | (simp only [ne_eq, reduceCtorEq, not_false_eq_true, implies_true, List.getElem?_cons_zero, List.getElem?_cons_succ]; done) | omega) only [WS, St.guard, St.put, evalO, reduceCtorEq, reduceIte, Nat.reduceAdd, Nat.reduceEqDiff, Int.reduceBNe, Int.reduceBEq, isNilV, Hp.isNil, lsn, List.length_nil, Int.cast_ofNat_Int, Int.ofNat_zero, bne_self_eq_false, beq_self_eq_true]
    refine WP_of (by exact sRecs HJ lk gN (i := 12) (by rw [hra]; exact fun b hb => (sa b hb).1) (by rw [hra]; exact fun b hb => by have := (sa b hb).2; omega) (by rw [hra]; omega) (hX12 X)) ?_
    simp (disch := first | (simp only [ne_eq, reduceCtorEq, not_false_eq_true, implies_true, List.getElem?_cons_zero, List.getElem?_cons_succ]; done) | omega) only [WS, St.guard, St.put, evalO, reduceCtorEq, reduceIte, Nat.reduceAdd, Nat.reduceEqDiff, ls, lna, hra, hal, beq_self_eq_true, fin_tmp, leave_v]
    simp
  · obtain ⟨o1, o2⟩ := O2 h1
    generalize openJ D2 0 90 5#32 = X at *
    have hb0 : ((bs.length : Int) == 0) = false := by
      rw [beq_eq_false_iff_ne]
      have : 0 < bs.length := by cases hb : bs with | nil => exact absurd hb h1 | cons => simp
      omega
    simp (disch := first | (simp only [ne_eq, reduceCtorEq, not_false_eq_true, implies_true, List.getElem?_cons_zero, List.getElem?_cons_succ]; done) | omega) only [WS, St.guard, St.put, evalO, reduceCtorEq, reduceIte, Nat.reduceAdd, Nat.reduceEqDiff, Int.reduceBNe, Int.reduceBEq, isNilV, Hp.isNil, ls, bne_self_eq_false, hb0]
    refine WP_of (by exact sRecs HJ lk gN (i := 13) (by rw [o1]; exact fun b hb => (sb b hb).1) (by rw [o1]; exact fun b hb => by have := (sb b hb).2; omega) (by rw [o1]; omega) (hX13 X)) ?_
    simp (disch := first | (simp only [ne_eq, reduceCtorEq, not_false_eq_true, implies_true, List.getElem?_cons_zero, List.getElem?_cons_succ]; done) | omega) only [WS, St.guard, St.put, evalO, reduceCtorEq, reduceIte, Nat.reduceAdd, Nat.reduceEqDiff]
    have g13 : Good ⟨[], (lj N sP 10 11 D2 (recB X.recs) (jC .l sP.p 10 X)).set 13 (recB X.recs)⟩ := Good.setO (h := ⟨[], lj N sP 10 11 D2 (recB X.recs) (jC .l sP.p 10 X)⟩) (jG gN lk) (fun b hb => by cases hb; rfl)
    have x13 := into_at (G := []) (k := 13) (hXc X (recB X.recs)) rfl
    have x9 := into_at (G := []) (k := 9) (hX9 X (recB X.recs)) rfl
    refine (WP_p (x := .bool true) (by
      have e := rows_spec H.toRowLib (a := ([] : List (Option Blk)).length + 13) (b := ([] : List (Option Blk)).length + 9) (l := bs) (by rw [← o1]; exact x13) x9 (by omega)
      rw [o1]
      rw [o1] at e
      exact e) (by exact g13)).2 ?_
    rw [hF]
    simp (disch := first | (simp only [ne_eq, reduceCtorEq, not_false_eq_true, implies_true, List.getElem?_cons_zero, List.getElem?_cons_succ]; done) | omega) only [WS, St.guard, St.put, evalO, reduceCtorEq, reduceIte, Nat.reduceAdd, Nat.reduceEqDiff]
    refine WP_of (by exact sFirst HJ (J := X) (L := N.set 13 (recB X.recs)) (s_ok (by omega) (by omega) (by rw [List.length_set]; omega)) (Good.setO (h := ⟨[], N⟩) gN (fun b hb => by cases hb; rfl))) ?_
    rw [o2]
    have eu : vBin .eql (u32 4#32) (.int .u32 4) = some (.bool true) := rfl
    simp (disch := first | (simp only [ne_eq, reduceCtorEq, not_false_eq_true, implies_true, List.getElem?_cons_zero, List.getElem?_cons_succ]; done) | omega) only [WS, St.guard, St.put, evalO, reduceCtorEq, reduceIte, Nat.reduceAdd, Nat.reduceEqDiff, eu, fin_tmp, leave_v]
    simp
end Go.AM
