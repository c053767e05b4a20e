import Derived.Test.YtdcnjckkcfoppaaVaultD
set_option linter.unusedVariables false
set_option linter.unusedSimpArgs false
namespace Go.AM
variable {prog : String → Option IFn}
structure Law9T (prog : String → Option IFn) : Prop extends Law9 prog where
  compactT : prog "(*haberdash/vault.Vault).Compact#VaultTurns" = some f___vault_Vault__Compact_VaultTurns
  beginT : prog "(*haberdash/vault.Vault).begin#VaultTurns" = some f___vault_Vault__begin_VaultTurns
  vbase : prog "(*haberdash/vault.Vault).Base" = some f___vault_Vault__Base
  hbytes : prog "haberdash/haberdashhelp.Bytes" = some f_help_Bytes
structure TS where
  D : DskD
  J : JD
  V : VD
def tB (xs : List BtV) : Nat → Txt
  | 0 => []
  | i + 1 => match xs[i]? with
    | some x => x.b.take 200
    | none => []
def tRun (xs : List BtV) : Nat → TS
  | 0 => ⟨(openV (newD 40)).1, (openV (newD 40)).2.1, (openV (newD 40)).2.2⟩
  | i + 1 => ⟨(bgJ ((tRun xs i).V.add (tRun xs i).D (tRun xs i).J [120]).2.1 ((i + 1) % 2 * 20) 20 (BitVec.ofNat 32 (i + 1 + 1)) (tB xs (i + 1))).2.1, (bgJ ((tRun xs i).V.add (tRun xs i).D (tRun xs i).J [120]).2.1 ((i + 1) % 2 * 20) 20 (BitVec.ofNat 32 (i + 1 + 1)) (tB xs (i + 1))).2.2, ⟨(i + 1) % 2, BitVec.ofNat 32 (i + 1 + 1), false⟩⟩
theorem tB_len {xs : List BtV} : ∀ i, (tB xs i).length ≤ 200
  | 0 => Nat.zero_le _
  | i + 1 => by
    show (match xs[i]? with | some x => x.b.take 200 | none => []).length ≤ 200
    split
    · rw [List.length_take]; omega
    · exact Nat.zero_le _
theorem tRun_ok {xs : List BtV} : ∀ i, i ≤ 20 → TInv i (tB xs i) (tRun xs i).D (tRun xs i).J (tRun xs i).V
  | 0, _ => tinv_new.2
  | i + 1, hi => by
    obtain ⟨D', J', e, l, z, _, ho⟩ := tinv_add (c := [120]) (by omega) (tRun_ok (xs := xs) i (by omega)) rfl
    have := (tinv_base (i := i + 1) (b := tB xs (i + 1)) hi l z (tB_len _) ho).2
    show TInv (i + 1) (tB xs (i + 1)) (bgJ ((tRun xs i).V.add (tRun xs i).D (tRun xs i).J [120]).2.1 _ _ _ _).2.1 (bgJ ((tRun xs i).V.add (tRun xs i).D (tRun xs i).J [120]).2.1 _ _ _ _).2.2 _
    rw [e]
    exact this
abbrev tP : DPos := dpos 0 (some 40) false
abbrev TMV : List (Nat × Nat) := [(5, 15), (6, 16)]
def tM (J : JD) (x4 x7 x8 x9 x10 : Option Blk) : List (Option Blk) := [none, none, none, none, x4, none, none, x7, x8, x9, x10, none, none, none, none, recB J.recs, some (sBlk (jC .l 3 15 J) false), none]
theorem tM_len {J x4 x7 x8 x9 x10} : (tM J x4 x7 x8 x9 x10).length = 18 := rfl
theorem tM_good {J x4 x7 x8 x9 x10} (h4 : DB x4) (h7 : DB x7) (h8 : DB x8) (h9 : DB x9) (h10 : DB x10) : Good ⟨[], tM J x4 x7 x8 x9 x10⟩ := by
  have d : ∀ {Y : Option Blk} {k}, DB Y → ∀ b, Y = some b → b.labs.all (refLt 0 k) = true := fun h b e => by rw [h b e]; rfl
  show goodL 0 4 _
  refine goodL_opt (d h4) ?_
  show goodL 0 7 _
  refine goodL_opt (d h7) (goodL_opt (d h8) (goodL_opt (d h9) (goodL_opt (d h10) ?_)))
  show goodL 0 15 _
  refine goodL_opt (fun b e => by cases e; rfl) (goodL_opt (fun b e => ?_) trivial)
  injection e with e; subst e
  exact sBlk_good (by rw [jC_labs]; rfl)
theorem mvIf_yes {g : Nat × Nat × Nat} {mv s B n off} (h1 : (s.h.L[g.1]?).join = some B) (h2 : B.cells[g.2.1]? = some (.ptr (.l g.2.2) n off)) : mvIf g mv s = mvSt mv s := by
  unfold mvIf
  rw [h1]
  simp only [h2, if_true]
set_option maxRecDepth 10000 in
theorem tMove {env D J J' V x4 x7 x8 x9} : mvIf (17, (1, 6)) TMV ⟨env, ⟨[], lv (tM J' x4 x7 x8 x9 none) tP 5 6 17 D J V⟩⟩ =
    some ⟨env.map (AV.ren (mvLab TMV)), ⟨[], lv [none, none, none, none, x4.map (Blk.ren (mvLab TMV)), none, none, x7.map (Blk.ren (mvLab TMV)), x8.map (Blk.ren (mvLab TMV)), x9.map (Blk.ren (mvLab TMV)), none, none, none, none, none, none, none, none] tP 15 16 17 D J V⟩⟩ := by
  rw [mvIf_yes (B := sBlk (vC .l tP.p 6 V) false) (n := 9) (off := 0) rfl rfl]
  unfold mvSt
  refine (if_pos (by rfl)).trans ?_
  rfl
set_option maxRecDepth 100000 in
set_option maxHeartbeats 4000000 in
theorem VaultTurns_law (H : Law9T prog) (hp : prog "haberdash/haberdashlaw09.VaultTurns" = some f_law09_VaultTurns) {args} (h : IsAll [.slice (.slice (.int .u8))] args) :
    ∃ G2, Ev prog (.call "haberdash/haberdashlaw09.VaultTurns" args []) (.ret (.v (.bool true)) G2) := by
  rcases args with _ | ⟨a0, _ | _⟩ <;> try (simp [IsAll] at h; done)
  obtain ⟨⟨c0', h0, rfl⟩, _⟩ := h
  obtain ⟨a, xs, rfl, va, hxm⟩ := is_bss h0
  have HV := H.toVaultLib
  have HJ := HV.toJourLib
  have HD := HJ.toDiskLib
  have na : ∀ ks, noRef ks a = true := fun ks => noRef_out (View.out (va ⟨[], []⟩))
  have hroom : room = 140737488355328 := rfl
  refine ⟨[], call_of_fin hp ?_⟩
  simp only [f_law09_VaultTurns_B, enter, List.length_cons, List.length_nil, List.replicate, Nat.reduceAdd, Nat.reduceSub, List.cons_append, List.nil_append, Ty.arg]
  have lna : ∀ h, prim h .lenSlice [a] = some (.v (.int .i64 xs.length), h) := fun h => (va h).lenSlice
  have D18 : Dat (List.replicate 18 none) := by intro B hB b e; rw [List.eq_of_mem_replicate hB] at e; cases e
  have gZ : Good ⟨[], List.replicate 18 none⟩ := goodX D18
  simp (disch := first | (simp only [DS, reduceCtorEq]; done) | omega) only [WS, St.guard, St.put, evalO, reduceCtorEq, reduceIte, Nat.reduceAdd, Nat.reduceEqDiff, lna]
  by_cases hx : (xs.length : Int) > 20
  · simp (disch := first | (simp only [DS, reduceCtorEq]; done) | omega) only [WS, St.guard, St.put, evalO, reduceCtorEq, reduceIte, Nat.reduceAdd, Nat.reduceEqDiff, hx, decide_true]
    refine (WP_p (x := .bool true) (by exact awake9_spec H.toLaw9) (by exact gZ)).2 ?_
    simp (disch := first | (simp only [DS, reduceCtorEq]; done) | omega) only [WS, St.guard, St.put, evalO, reduceCtorEq, reduceIte, Nat.reduceAdd, Nat.reduceEqDiff, fin_tmp, leave_v]
    simp
  have lk : ∀ X : List (Option Blk), 17 < X.length → LVOk X tP 15 16 17 40 := fun X hX => lvok1 le_some (by omega) (by omega) (by omega) hX
  have lk5 : ∀ X : List (Option Blk), 17 < X.length → LVOk X tP 5 6 17 40 := fun X hX => lvok1 le_some (by omega) (by omega) (by omega) hX
  have lk11 : ∀ X : List (Option Blk), 17 < X.length → LVOk X tP 11 12 13 40 := fun X hX => lvok1 le_some (by omega) (by omega) (by omega) (by omega)
  simp (disch := first | (simp only [DS, reduceCtorEq]; done) | omega) only [WS, St.guard, St.put, evalO, reduceCtorEq, reduceIte, Nat.reduceAdd, Nat.reduceEqDiff, hx, decide_false]
  refine WP_of (h' := ⟨[], lset (List.replicate 18 none) tP (newD 40)⟩) (by exact op_dsk (D := newD 40) (R := fun a => .tup [a, .v (.int .i64 0)]) (fun ρ a => rfl) (New_spec HD (N := 40) (by omega) (by omega)) (by decide) rfl rfl rfl rfl gZ) ?_
  simp (disch := first | (simp only [DS, reduceCtorEq]; done) | omega) only [WS, St.guard, St.put, evalO, reduceCtorEq, reduceIte, Nat.reduceAdd, Nat.reduceEqDiff]
  have eln : (newD 40).b.length = 40 := newD_len
  refine WP_of (by exact tOpen HV (P := tP) (q := 15) (p := 16) (pv := 17) (D := newD 40) (by rw [eln]; exact lk _ (by simp)) gZ (by rw [eln]; exact .new) (by rw [eln]; omega) (openEr_new (by omega)) (by rw [ep_new, eln]; exact tinv_new.1) rfl rfl rfl) ?_
  have gv : ∀ {D J V}, Good ⟨[], lv (List.replicate 18 none) tP 15 16 17 D J V⟩ := lvG gZ (lk _ (by simp))
  simp (disch := first | (simp only [DS, reduceCtorEq]; done) | omega) only [WS, St.guard, St.put, evalO, reduceCtorEq, reduceIte, Nat.reduceAdd, Nat.reduceEqDiff]
  refine (WP_p (x := .bool true) (by exact awake9_spec H.toLaw9) (by exact gv)).2 ?_
  simp (disch := first | (simp only [DS, reduceCtorEq]; done) | omega) only [WS, St.guard, St.put, evalO, reduceCtorEq, reduceIte, Nat.reduceAdd, Nat.reduceEqDiff, Int.reduceBNe, isNilV, Hp.isNil]
  have inv := fun i hi => tRun_ok (xs := xs) i hi
  refine WC_count (fun i => ⟨f_law09_VaultTurns_H0 a (.ptr (.l 3) 5 0) (.ptr (.l 17) 5 0) (.v (.int .i64 (i : Nat))), ⟨[], lv (List.replicate 18 none) tP 15 16 17 (tRun xs i).D (tRun xs i).J (tRun xs i).V⟩⟩) xs.length ?_ (fun i hi => ?_) ?_
  · exact clear_fre (by simp only [clear_nil, List.foldl_cons, List.foldl_nil, Option.some.injEq, LS, reduceCtorEq, reduceIte, Nat.reduceAdd] <;> rfl) (by rfl) (by simp only [f_law09_VaultTurns_H0, List.all_cons, List.all_nil, noRef_v, noRef_dead, noRef_own, noRef_ptr, noRef_nil, Bool.and_true, Bool.true_and, Bool.and_self, List.contains_cons, List.contains_nil, Bool.or_false, Nat.reduceBEq, Bool.not_false, na]) (by rfl)
  · have hlt : (i : Int) < (xs.length : Int) := by omega
    obtain ⟨x, hx⟩ : ∃ x, xs[i]? = some x := ⟨_, List.getElem?_eq_getElem hi⟩
    have I := inv i (by omega)
    have I' := inv (i + 1) (by omega)
    have ix : ∀ h, prim h (.indexAddr 1) [a, .v (.int .i64 (i : Int))] = some (elemPtr a 1 i, h) := fun h => (va h).index hi
    have ld : ∀ h, prim h (.load 1 false) [elemPtr a 1 i] = some (x.a, h) := fun h => (va h).load1 (by
      have := row_fld (T := bsE) (f := 0) (y := x.a) hx (by show 0 < 1; omega) rfl
      rw [show bsE.esz = 1 from rfl, Nat.mul_one, Nat.add_zero] at this
      exact this)
    obtain ⟨d, hd⟩ : ∃ d, d = x.b.take 200 := ⟨_, rfl⟩
    have hdl : d.length = min x.b.length 200 := by rw [hd, List.length_take]; omega
    obtain ⟨s, hs⟩ : ∃ s, s = AM.sub x.a 1 0 (min x.b.length 200) := ⟨_, rfl⟩
    have sv : ∀ h, View h s 1 d.length (d.map byteAV) := fun h => by
      have := (x.va h).sub (i := 0) (j := min x.b.length 200) (by omega) (by omega)
      rw [Nat.mul_one, Nat.mul_one, Nat.sub_zero, List.drop_zero, ← List.map_take] at this
      rw [hs, hdl, hd, show x.b.take 200 = x.b.take (min x.b.length 200) by rw [Nat.min_comm, List.take_eq_take_iff]; omega]
      exact this
    have mn : mins .i64 (x.b.length : Int) [.v (.int .i64 200)] = some ((min x.b.length 200 : Nat) : Int) := by simp only [mins, Option.some.injEq]; omega
    have sl : ∀ h, prim h (.slice 1 false true false) [x.a, .v (.int .i64 ((min x.b.length 200 : Nat) : Int))] = some (s, h) := fun h => by rw [hs]; exact (x.va h).sliceHi (Nat.min_le_left _ _)
    have sr : ∀ ρ, s.ren ρ = s := view_plain (sv ⟨[], []⟩)
    have ar : ∀ ρ, a.ren ρ = a := view_plain (va ⟨[], []⟩)
    have xr : ∀ ρ, x.a.ren ρ = x.a := view_plain (x.va ⟨[], []⟩)
    have eb : tB xs (i + 1) = d := by
      show (match xs[i]? with | some x => _ | none => _) = _
      rw [hx, hd]
    have enx : tRun xs (i + 1) = ⟨(bgJ ((tRun xs i).V.add (tRun xs i).D (tRun xs i).J [120]).2.1 ((i + 1) % 2 * 20) 20 (BitVec.ofNat 32 (i + 1 + 1)) d).2.1, (bgJ ((tRun xs i).V.add (tRun xs i).D (tRun xs i).J [120]).2.1 ((i + 1) % 2 * 20) 20 (BitVec.ofNat 32 (i + 1 + 1)) d).2.2, ⟨(i + 1) % 2, BitVec.ofNat 32 (i + 1 + 1), false⟩⟩ := by rw [← eb]; rfl
    rw [eb] at I'
    rw [enx] at I' ⊢
    generalize tRun xs i = st at *
    obtain ⟨D, J, V⟩ := st
    simp only at I I' ⊢
    obtain ⟨D1, J1, eA, l1, z1, hr1, ho1⟩ := tinv_add (c := [120]) (by omega) I rfl
    rw [eA] at I' ⊢
    simp only at I' ⊢
    have bg0 := (tinv_base (i := i + 1) (b := d) (by omega) l1 z1 (by omega) ho1).1
    have hvv := tinv_ep I
    have In := need_base I.bl
    have Iu := I.used; have Ijn := I.jn; have Ifr := I.frm; have Irc := I.recs; have Iv := I.v
    have hbs := I'.used
    obtain ⟨L4, hL4⟩ : ∃ L4 : List (Option Blk), L4 = [none, none, none, none, some (dBlk ([120].map byteAV) false false), none, none, none, none, none, none, none, none, none, none, none, none, none] := ⟨_, rfl⟩
    have D4 : Dat L4 := by rw [hL4]; intro B hB b e; subst e; simp at hB; subst hB; rfl
    have l4 := lk L4 (by rw [hL4]; simp)
    have bd : prim ⟨[], lv (List.replicate 18 none) tP 15 16 17 D J V⟩ (.buildSlice 4 false 1 1 [.int .u8 0] [(0, 1)]) [.v (.int .u8 120)] = some (.own (.l 4) 1 0 1 1 (some 1), ⟨[], lv L4 tP 15 16 17 D J V⟩) := by rw [hL4]; rfl
    have g4 : (⟨[], lv L4 tP 15 16 17 D J V⟩ : Hp).get (.l 4) = some ⟨[byteAV 120], false, true, true, false⟩ := by rw [hL4]; rfl
    have ev1 := tAdd HV l4 (dat_good (G := []) D4) I.z (by omega) (a := .own (.l 4) 1 0 1 1 (some 1)) (b := [120]) (D := D) (J := J) (V := V) (argV (G := []) l4 (k := 4) (b := [120]) (cap := some 1) (o := false) (by rw [hL4]; rfl) (by refine ⟨?_, ?_, ?_, ?_, ?_, ?_⟩ <;> simp [dpos]) (by omega) (fun c hc => by cases hc; simp)) (by rw [I.ep]; exact ep_ne (by omega)) (by omega) (by omega) (by rw [Irc]; simp; omega) (by simp)
    rw [eA] at ev1
    obtain ⟨L', hL'⟩ : ∃ L', L' = (vt L4 tP 15 16 J1).set 17 (vS tP 16 V) := ⟨_, rfl⟩
    have e' : lv L4 tP 15 16 17 D1 J1 V = lset L' tP D1 := by rw [hL']; exact lv_vt l4
    have gL : Good ⟨[], L'⟩ := by
      rw [hL']
      exact Good.setB (Good.setB (Good.setO (h := ⟨[], L4⟩) (dat_good D4) (fun b e => by cases e; rfl)) (sBlk_good (by rw [jC_labs]; rfl))) (sBlk_good (by rw [vC_labs]; rfl))
    have hlen : L'.length = 18 := by rw [hL', hL4]; simp [vt]
    have bo : BOk L' tP 5 6 7 17 40 := by
      refine ⟨lok1 le_some (by omega) (by omega) (by omega), by refine ⟨?_, ?_, ?_, ?_, ?_, ?_⟩ <;> simp [dpos], by refine ⟨?_, ?_, ?_, ?_, ?_, ?_⟩ <;> simp [dpos], by omega, ?_, ?_, ?_, by omega⟩ <;> (rw [hL', hL4]; rfl)
    have hv : L'[17]? = some (vS tP 16 V) := by rw [hL', hL4]; rfl
    have zb := z1.b
    have hnd : needN (1 + d.length) = d.length / 46 + 1 := by unfold needN; omega
    have hd200 : d.length ≤ 200 := by omega
    have cl := (compact_law (prog := prog) (G := []) (nm := "(*haberdash/vault.Vault).Compact#VaultTurns") (nb := "(*haberdash/vault.Vault).begin#VaultTurns") (P := tP) (D := D1) (L := L') (p0 := 16) (V := V) (a := s) (b := d) HV (by rw [← vCompact_turns]; exact H.compactT) (by rw [← vBegin_turns]; exact H.beginT) (by rw [zb]; exact bo) gL (by omega) (by rw [zb]; exact z1) (by omega) l1.1 (by omega) hv (by rw [Iv]) (by rw [Iv]; show i % 2 ≤ 1; omega) (by
      rw [Iv]; intro e
      have := congrArg BitVec.toNat e
      rw [BitVec.toNat_allOnes] at this
      have e2 : (BitVec.ofNat 32 (i + 1)).toNat = i + 1 := ep_nat (by omega)
      have e3 : (BitVec.ofNat 32 (i + 1)).toNat = 2 ^ 32 - 1 := this
      omega) (by omega) (fun h => (sv h).lenSlice) (fun M N X Lx hM => by rw [sr]; exact sv _)).2
    rw [zb, hvv.1, hvv.2] at cl
    have ev2 := cl (by omega) bg0
    obtain ⟨R, hR⟩ : ∃ R, R = bgJ D1 ((i + 1) % 2 * 20) 20 (BitVec.ofNat 32 (i + 1 + 1)) d := ⟨_, rfl⟩
    have ev2 : Ev prog (.op (.callIn "(*haberdash/vault.Vault).Compact#VaultTurns" [5, 6, 7]) [.ptr (.l 17) 5 0, s] ⟨[], lset L' tP D1⟩) (.val (.v (.int .i64 0)) ⟨[], lj ((L'.set 7 (bB d)).set 17 (vS tP 6 ⟨(i + 1) % 2, BitVec.ofNat 32 (i + 1 + 1), false⟩)) tP 5 6 R.2.1 (recB R.2.2.recs) (jC .l tP.p 5 R.2.2)⟩) := by rw [hR]; exact ev2
    rw [← hR] at I' ⊢
    obtain ⟨re, D2, J2⟩ := R
    simp only at I' ev2 ⊢
    have l5 := lk5 (L'.set 7 (bB d)) (by rw [List.length_set, hlen]; omega)
    rw [lv_of l5, ← e'] at ev2
    obtain ⟨V2, hV2⟩ : ∃ V2 : VD, V2 = ⟨(i + 1) % 2, BitVec.ofNat 32 (i + 1 + 1), false⟩ := ⟨_, rfl⟩
    rw [← hV2] at ev2 I' ⊢
    have eM : lv (L'.set 7 (bB d)) tP 5 6 17 D2 J2 V2 = lv (tM J1 (some (dBlk ([120].map byteAV) false false)) (bB d) none none none) tP 5 6 17 D2 J2 V2 := by rw [hL', hL4]; rfl
    rw [eM] at ev2
    have gM : ∀ {x4 x7 x8 x9 x10 : Option Blk}, DB x4 → DB x7 → DB x8 → DB x9 → DB x10 → Good ⟨[], lv (tM J1 x4 x7 x8 x9 x10) tP 5 6 17 D2 J2 V2⟩ := fun h4 h7 h8 h9 h10 => lvG (tM_good h4 h7 h8 h9 h10) (lk5 _ (by rw [tM_len]; omega))
    have okM : ∀ {x4 x7 x8 x9 x10 : Option Blk}, LVOk (tM J1 x4 x7 x8 x9 x10) tP 5 6 17 40 := lk5 _ (by rw [tM_len]; omega)
    have Ju := I'.used
    have Jr := I'.recs
    have Jv : V2.half = (i + 1) % 2 := by rw [hV2]
    have hrem : vBin .rem (.int .i64 ((i : Int) + 1)) (.int .i64 2) = some (.int .i64 ((i + 1) % 2 : Nat)) := by
      simp only [vBin, ne_eq, not_true_eq_false, if_false]
      have : ((i : Int) + 1).tmod 2 = (((i + 1) % 2 : Nat) : Int) := by
        rw [show (i : Int) + 1 = ((i + 1 : Nat) : Int) by omega]; rfl
      rw [this]; rfl
    have hq46 : vBin .quo (.int .i64 (d.length : Nat)) (.int .i64 46) = some (.int .i64 ((d.length / 46 : Nat))) := vBin_quo_i64 46 rfl (by omega) (by omega)
    have e1 : ((d.length / 46 : Nat) : Int) + 1 = ((d.length / 46 + 1 : Nat) : Int) := by omega
    obtain ⟨x4, hx4⟩ : ∃ x4, x4 = some (dBlk ([120].map byteAV) false false) := ⟨_, rfl⟩
    have d4 : DB x4 := by rw [hx4]; exact .d
    rw [← hx4] at ev2
    have hne : ∀ b ∈ J2.recs, b ≠ [] := by rw [Jr]; intro b hb; simp only [List.mem_singleton] at hb; subst hb; simp
    have hbl : ∀ b ∈ J2.recs, b.length ≤ room := by rw [Jr]; intro b hb; simp only [List.mem_singleton] at hb; subst hb; simp only [List.length_cons]; omega
    have hrl : J2.recs.length * 24 ≤ room := by rw [Jr]; simp only [List.length_cons, List.length_nil]; omega
    have h0r : J2.recs[0]? = some (1 :: d) := by rw [Jr]; rfl
    obtain ⟨m, cp, hRc⟩ := tRecs (i := 8) (D := D2) (J := J2) (V := V2) HV (okM (x4 := x4) (x7 := bB d) (x8 := none) (x9 := none) (x10 := none)) (tM_good d4 bB_db .z .z .z) (by rw [Jr]; exact Nat.le_refl _) hne hbl hrl rfl
    have ls : ∀ h, prim h .lenSlice [.own (.l 8) m 0 (J2.recs.length - 1) 1 cp] = some (.v (.int .i64 0), h) := fun h => by rw [Jr]; rfl
    have dC : DB (clB (J2.recs.drop 1)) := clB_db
    obtain ⟨x8, hx8⟩ : ∃ x8, x8 = clB (J2.recs.drop 1) := ⟨_, rfl⟩
    rw [← hx8] at dC hRc
    have hRc : Ev prog (.op (.call "(*haberdash/vault.Vault).Records" [8]) [.ptr (.l 17) 5 0] ⟨[], lv (tM J1 x4 (bB d) none none none) tP 5 6 17 D2 J2 V2⟩) (.val (.own (.l 8) m 0 (J2.recs.length - 1) 1 cp) ⟨[], lv (tM J1 x4 (bB d) x8 none none) tP 5 6 17 D2 J2 V2⟩) := hRc
    simp (disch := first | (simp only [DS, reduceCtorEq]; done) | omega) only [f_law09_VaultTurns_L0, f_law09_VaultTurns_H0, WS, St.guard, St.put, evalO, reduceCtorEq, reduceIte, Nat.reduceAdd, Nat.reduceEqDiff, WC_draw, WD_nil, WD_cons, WDG_false, WDG_true, WDP_id, WDP_pick, WDP_build, WDP_bin, WDP_un, WDP_convInt, WDP_strStr, WDP_makeFunc, WDP_sliceStr, WDP_eq, WDP_eqBool, WDP_field, WDP_indexStr, WDP_indexAgg, WDP_extract, WDP_lenStr, WDP_lenSlice, WDP_lenArr, WDP_cap, WDP_min, WDP_max, WDP_nilCheck, WDP_slice, WDP_sliceArr, WDP_fieldAddr, WDP_indexAddr, WDP_indexArr, WDP_load, WDR_some, iP_eq, iN_eq, iG_eq, kI_eq, WC_postIf, lna, hlt, decide_true, ix, ld, (x.va _).lenSlice, goInt, mn, sl]
    refine (WR_eq bd).2 ?_
    simp (disch := first | (simp only [DS, reduceCtorEq]; done) | omega) only [WS, St.guard, St.put, evalO, reduceCtorEq, reduceIte, Nat.reduceAdd, Nat.reduceEqDiff, List.map_cons, List.map_nil, g4, List.length_cons, List.length_nil, and_self, true_and, Nat.zero_lt_one, if_true]
    refine WP_of (by exact ev1) ?_
    simp (disch := first | (simp only [DS, reduceCtorEq]; done) | omega) only [WS, St.guard, St.put, evalO, reduceCtorEq, reduceIte, Nat.reduceAdd, Nat.reduceEqDiff, Int.reduceBNe]
    refine WP_of ev2 ?_
    simp (disch := first | (simp only [DS, reduceCtorEq]; done) | omega) only [WS, St.guard, St.put, evalO, reduceCtorEq, reduceIte, Nat.reduceAdd, Nat.reduceEqDiff, Int.reduceBNe]
    refine WP_of (by exact tHalf HV okM (tM_good d4 bB_db .z .z .z)) ?_
    rw [Jv]
    simp (disch := first | (simp only [DS, reduceCtorEq]; done) | omega) only [WS, St.guard, St.put, evalO, reduceCtorEq, reduceIte, Nat.reduceAdd, Nat.reduceEqDiff, vBin_add_i64, hrem, bne_self_eq_false]
    refine WP_of hRc ?_
    simp (disch := first | (simp only [DS, reduceCtorEq]; done) | omega) only [WS, St.guard, St.put, evalO, reduceCtorEq, reduceIte, Nat.reduceAdd, Nat.reduceEqDiff, ls, Int.reduceBNe, bne_self_eq_false]
    refine WP_slice (site := 9) (esz := 1) (len := d.length) (cells := d.map byteAV) (fun a => a) (fun ρ a => rfl) (by
      have := VBase_spec (G := (⟨[], tM J1 x4 (bB d) x8 none none⟩ : Hp).into) (D := D2) (J := J2) (V := V2) HV H.vbase (okM (x4 := x4) (x7 := bB d) (x8 := x8) (x9 := none) (x10 := none)).into h0r hne hbl hrl
      rw [← into_lv okM] at this
      exact this) (by exact gM d4 bB_db dC .z .z) (by exact rfl) fun c x9 hat => ?_
    have e9 : (lv (tM J1 x4 (bB d) x8 none none) tP 5 6 17 D2 J2 V2).set 9 x9 = lv (tM J1 x4 (bB d) x8 x9 none) tP 5 6 17 D2 J2 V2 := rfl
    rw [e9]
    have d9 : DB x9 := hat.data
    have vc := hat.view (G := []) (L := lv (tM J1 x4 (bB d) x8 x9 none) tP 5 6 17 D2 J2 V2) rfl
    simp (disch := first | (simp only [DS, reduceCtorEq]; done) | omega) only [WS, St.guard, St.put, evalO, reduceCtorEq, reduceIte, Nat.reduceAdd, Nat.reduceEqDiff]
    refine (WP_p (x := .bool (decide (d = d))) (by
      exact Bytes_spec H.hbytes (fun L => vc.into bytes_lfs L) (fun L => (sv _).into bytes_lfs L)) (by exact gM d4 bB_db dC d9 .z)).2 ?_
    simp (disch := first | (simp only [DS, reduceCtorEq]; done) | omega) only [WS, St.guard, St.put, evalO, reduceCtorEq, reduceIte, Nat.reduceAdd, Nat.reduceEqDiff, decide_true, Bool.not_true]
    refine WP_of (by exact tUsed HV okM (tM_good d4 bB_db dC d9 .z)) ?_
    rw [Ju, hnd]
    simp (disch := first | (simp only [DS, reduceCtorEq]; done) | omega) only [WS, St.guard, St.put, evalO, reduceCtorEq, reduceIte, Nat.reduceAdd, Nat.reduceEqDiff, (sv _).lenSlice, goInt, hq46, vBin_add_i64, e1, bne_self_eq_false, WK_mvi_normal]
    refine ⟨_, tMove, ?_⟩
    simp only [List.map_cons, List.map_nil]
    have r17 : AV.ren (mvLab TMV) (.ptr (.l 17) 5 0) = .ptr (.l 17) 5 0 := rfl
    have r3 : AV.ren (mvLab TMV) (.ptr (.l 3) 5 0) = .ptr (.l 3) 5 0 := rfl
    simp (disch := first | (simp only [DS, reduceCtorEq]; done) | omega) only [WS, St.guard, St.put, evalO, reduceCtorEq, reduceIte, Nat.reduceAdd, Nat.reduceEqDiff, ren_val, r17, r3, ar, sr, xr, vBin_add_i64]
    exact clear_fre (by simp only [clear_nil, List.foldl_cons, List.foldl_nil, Option.some.injEq, LS, reduceCtorEq, reduceIte, Nat.reduceAdd] <;> rfl) (by rfl) (by simp only [f_law09_VaultTurns_H0, List.all_cons, List.all_nil, noRef_v, noRef_dead, noRef_own, noRef_ptr, noRef_nil, Bool.and_true, Bool.true_and, Bool.and_self, List.contains_cons, List.contains_nil, Bool.or_false, Nat.reduceBEq, Bool.not_false, na]) (by rfl)
  · have I := inv xs.length (by omega)
    generalize tRun xs xs.length = st at *
    obtain ⟨D, J, V⟩ := st
    simp only at I ⊢
    generalize tB xs xs.length = d at *
    have hn20 : xs.length ≤ 20 := by omega
    obtain ⟨o1, o2, o3, o4, o5, o6⟩ := tinv_open hn20 I
    generalize xs.length = N at *
    have hlt : ¬ (N : Int) < (N : Int) := by omega
    have Ju := I.used
    have Jr := I.recs
    have Jv : V.half = N % 2 := by rw [I.v]
    have hdl := I.bl
    have hne : ∀ l : List Txt, l = [1 :: d] → (∀ b ∈ l, b ≠ []) ∧ (∀ b ∈ l, b.length ≤ room) ∧ l.length * 24 ≤ room ∧ l[0]? = some (1 :: d) := fun l e => by
      subst e
      refine ⟨?_, ?_, ?_, rfl⟩
      · intro b hb; simp only [List.mem_singleton] at hb; subst hb; simp
      · intro b hb; simp only [List.mem_singleton] at hb; subst hb; simp only [List.length_cons]; omega
      · simp only [List.length_cons, List.length_nil]; omega
    obtain ⟨n1, n2, n3, n4⟩ := hne _ Jr
    simp (disch := first | (simp only [DS, reduceCtorEq]; done) | omega) only [f_law09_VaultTurns_L0, f_law09_VaultTurns_H0, WS, St.guard, St.put, evalO, reduceCtorEq, reduceIte, Nat.reduceAdd, Nat.reduceEqDiff, lna, hlt, decide_false]
    refine WP_of (by exact tHalf HV (lk _ (by simp)) gZ) ?_
    rw [Jv]
    simp (disch := first | (simp only [DS, reduceCtorEq]; done) | omega) only [WS, St.guard, St.put, evalO, reduceCtorEq, reduceIte, Nat.reduceAdd, Nat.reduceEqDiff]
    refine WP_of (by exact tUsed HV (lk _ (by simp)) gZ) ?_
    rw [Ju]
    simp (disch := first | (simp only [DS, reduceCtorEq]; done) | omega) only [WS, St.guard, St.put, evalO, reduceCtorEq, reduceIte, Nat.reduceAdd, Nat.reduceEqDiff]
    refine WP_slice (site := 10) (esz := 1) (len := d.length) (cells := d.map byteAV) (fun a => a) (fun ρ a => rfl) (by
      have := VBase_spec (G := (⟨[], List.replicate 18 none⟩ : Hp).into) (D := D) (J := J) (V := V) HV H.vbase (lk _ (by simp)).into n4 n1 n2 n3
      rw [← into_lv (lk _ (by simp))] at this
      exact this) (by exact gv) (by exact rfl) fun c x10 hat => ?_
    obtain ⟨L', hL'⟩ : ∃ L' : List (Option Blk), L' = [none, none, none, none, none, none, none, none, none, none, x10, none, none, none, none, recB J.recs, some (sBlk (jC .l 3 15 J) false), vS tP 16 V] := ⟨_, rfl⟩
    have e10 : (lv (List.replicate 18 none) tP 15 16 17 D J V).set 10 x10 = lset L' tP D := by rw [hL']; rfl
    have d10 : DB x10 := hat.data
    have gL : ∀ {Y : Option Blk}, DB Y → Good ⟨[], L'.set 14 Y⟩ := fun {Y} hY => by
      rw [hL']
      show goodL 0 10 _
      refine goodL_opt (fun b e => by rw [d10 b e]; rfl) ?_
      show goodL 0 14 _
      refine goodL_opt (fun b e => by rw [hY b e]; rfl) (goodL_opt (fun b e => by cases e; rfl) (goodL_opt (fun b e => ?_) (goodL_opt (fun b e => ?_) trivial)))
      · injection e with e; subst e
        exact sBlk_good (by rw [jC_labs]; rfl)
      · injection e with e; subst e
        exact sBlk_good (by rw [vC_labs]; rfl)
    have gL0 : Good ⟨[], L'⟩ := by
      have := gL (Y := none) .z
      rwa [show L'.set 14 none = L' by rw [hL']; rfl] at this
    have zb := I.z.b
    have hlen : L'.length = 18 := by rw [hL']; rfl
    have ok := lk11 L' (by omega)
    simp only [e10]
    simp (disch := first | (simp only [DS, reduceCtorEq]; done) | omega) only [WS, St.guard, St.put, evalO, reduceCtorEq, reduceIte, Nat.reduceAdd, Nat.reduceEqDiff]
    refine WP_of (by exact tOpen HV (P := tP) (q := 11) (p := 12) (pv := 13) (D := D) (L := L') (by rw [zb]; exact ok) gL0 (by rw [zb]; exact I.z) (by omega) o1 (by rw [zb]; exact o2) (by rw [hL']; rfl) (by rw [hL']; rfl) (by rw [hL']; rfl)) ?_
    generalize openV D = W at *
    obtain ⟨D2, J2, V2⟩ := W
    simp only at o3 o4 o5 o6
    subst o3
    obtain ⟨n1, n2, n3, n4⟩ := hne _ o6
    simp (disch := first | (simp only [DS, reduceCtorEq]; done) | omega) only [WS, St.guard, St.put, evalO, reduceCtorEq, reduceIte, Nat.reduceAdd, Nat.reduceEqDiff, Int.reduceBEq, isNilV, Hp.isNil, Bool.not_false]
    refine WP_of (by exact tHalf HV ok gL0) ?_
    rw [o4]
    simp (disch := first | (simp only [DS, reduceCtorEq]; done) | omega) only [WS, St.guard, St.put, evalO, reduceCtorEq, reduceIte, Nat.reduceAdd, Nat.reduceEqDiff, beq_self_eq_true]
    refine WP_of (by exact tUsed HV ok gL0) ?_
    rw [o5]
    simp (disch := first | (simp only [DS, reduceCtorEq]; done) | omega) only [WS, St.guard, St.put, evalO, reduceCtorEq, reduceIte, Nat.reduceAdd, Nat.reduceEqDiff, beq_self_eq_true]
    refine WP_slice (site := 14) (esz := 1) (len := d.length) (cells := d.map byteAV) (fun a => a) (fun ρ a => rfl) (by
      have := VBase_spec (G := (⟨[], L'⟩ : Hp).into) (D := D2) (J := J2) (V := V2) HV H.vbase ok.into n4 n1 n2 n3
      rw [← into_lv ok] at this
      exact this) (by exact lvG gL0 ok) (by rw [hL']; exact rfl) fun c2 x14 hat2 => ?_
    have e14 : (lv L' tP 11 12 13 D2 J2 V2).set 14 x14 = lv (L'.set 14 x14) tP 11 12 13 D2 J2 V2 := by rw [hL']; rfl
    rw [e14]
    have d14 : DB x14 := hat2.data
    have ok2 := lk11 (L'.set 14 x14) (by rw [List.length_set]; omega)
    have v1 := hat.view (G := []) (L := lv (L'.set 14 x14) tP 11 12 13 D2 J2 V2) (by rw [hL']; rfl)
    have v2 := hat2.view (G := []) (L := lv (L'.set 14 x14) tP 11 12 13 D2 J2 V2) (by rw [hL']; rfl)
    simp (disch := first | (simp only [DS, reduceCtorEq]; done) | omega) only [WS, St.guard, St.put, evalO, reduceCtorEq, reduceIte, Nat.reduceAdd, Nat.reduceEqDiff]
    refine (WP_p (x := .bool (decide (d = d))) (by
      exact Bytes_spec H.hbytes (fun L => v2.into bytes_lfs L) (fun L => v1.into bytes_lfs L)) (by exact lvG (gL d14) ok2)).2 ?_
    simp (disch := first | (simp only [DS, reduceCtorEq]; done) | omega) only [WS, St.guard, St.put, evalO, reduceCtorEq, reduceIte, Nat.reduceAdd, Nat.reduceEqDiff, decide_true, fin_tmp, leave_v]
    simp
end Go.AM
