import Derived.Test.YtdcnjckkcfoppaaVaultE
set_option linter.unusedVariables false
set_option linter.unusedSimpArgs false
namespace Go.AM
variable {prog : String → Option IFn}
structure Law9E (prog : String → Option IFn) : Prop extends Law9 prog where
  vn : VaultNil prog
  ref : RefV prog
def eN (n : Nat) (D E : DskD) (X : List (Option Blk)) : List (Option Blk) := dk 0 (some n) false D (dk 4 (some n) false E X)
section
variable {n : Nat} {D E : DskD} {X : List (Option Blk)}
theorem eN_0 : (⟨[], eN n D E X⟩ : Hp).into = dset (⟨[], eN n D E X⟩ : Hp).into (dpos 0 (some n) false) D := into_lset (L := eN n D E X) (P := dpos 0 (some n) false) (D := D)
theorem eN_4 : (⟨[], eN n D E X⟩ : Hp).into = dset (⟨[], eN n D E X⟩ : Hp).into (dpos 4 (some n) false) E := into_lset (L := eN n D E X) (P := dpos 4 (some n) false) (D := E)
theorem eN_len : (⟨[], eN n D E X⟩ : Hp).into.length = 8 + X.length := by rw [into_len]; simp [eN, dk]; omega
theorem en_ok0 {D' : DskD} (z : D'.b.length = n) : (dpos 0 (some n) false).Ok (⟨[], eN n D E X⟩ : Hp).into.length D'.b.length := by rw [z]; exact dpos_ok (by rw [eN_len]; omega) le_some
theorem en_ok4 {D' : DskD} (z : D'.b.length = n) : (dpos 4 (some n) false).Ok (⟨[], eN n D E X⟩ : Hp).into.length D'.b.length := by rw [z]; exact dpos_ok (by rw [eN_len]; omega) le_some
theorem en_good (hX : goodL 0 8 X) : Good ⟨[], eN n D E X⟩ := dk_good (dk_good hX)
theorem en_op0 {f xs} {r : AV} {D' : DskD} (hX : goodL 0 8 X) (hr : r.lf = true) (he : Ev prog (.call f (xs.map (AV.ren (up 0))) (dset (⟨[], eN n D E X⟩ : Hp).into (dpos 0 (some n) false) D)) (.ret r (dset (⟨[], eN n D E X⟩ : Hp).into (dpos 0 (some n) false) D'))) :
    Ev prog (.op (.call f []) xs ⟨[], eN n D E X⟩) (.val r ⟨[], eN n D' E X⟩) := by
  refine op_turn ⟨[], eN n D' E X⟩ ?_ hr rfl rfl (en_good hX) (en_good hX)
  rw [← eN_0, ← into_lset (L := eN n D E X) (P := dpos 0 (some n) false) (D := D')] at he
  exact he
theorem en_op4 {f xs} {r : AV} {E' : DskD} (hX : goodL 0 8 X) (hr : r.lf = true) (he : Ev prog (.call f (xs.map (AV.ren (up 0))) (dset (⟨[], eN n D E X⟩ : Hp).into (dpos 4 (some n) false) E)) (.ret r (dset (⟨[], eN n D E X⟩ : Hp).into (dpos 4 (some n) false) E'))) :
    Ev prog (.op (.call f []) xs ⟨[], eN n D E X⟩) (.val r ⟨[], eN n D E' X⟩) := by
  refine op_turn ⟨[], eN n D E' X⟩ ?_ hr rfl rfl (en_good hX) (en_good hX)
  rw [← eN_4, ← into_lset (L := eN n D E X) (P := dpos 4 (some n) false) (D := E')] at he
  exact he
end
def ffA : Txt := [255, 255, 255, 255] ++ List.replicate 60 0
def ffB : Txt := List.replicate 60 0 ++ [255, 255, 255, 255]
theorem view_k {G : List (Option Blk)} {k : Nat} {m : Int} (hk : G[k]? = some (some (dBlk [intAV m] false false))) {P : DPos} (hf : k ≠ P.q0 ∧ k ≠ P.q1 ∧ k ≠ P.q2 ∧ k ≠ P.p) (E : DskD) (X L : List (Option Blk)) : View ⟨dset (G ++ X) P E, L⟩ (.own (.o k) 1 0 1 1 (some 1)) 1 ([m] : List Int).length (([m] : List Int).map intAV) := by
  have g : (dset (G ++ X) P E)[k]? = some (some (dBlk [intAV m] false false)) := by
    unfold dset
    rw [List.getElem?_set, if_neg (by omega), List.getElem?_set, if_neg (by omega), List.getElem?_set, if_neg (by omega), List.getElem?_set, if_neg (by omega), List.getElem?_append_left (lt_of_get hk)]
    exact hk
  refine ⟨rfl, ?_, rfl, rfl, Nat.le_refl _, by omega⟩
  simp only [Hp.sees, Hp.get, g, Option.join_some, dBlk_cells, List.length_cons, List.length_nil, if_true, List.drop_zero]
  rfl
theorem live_write {D : DskD} {i : Int} {s : Sec} (h : Live D) : Live (D.write i s) := by
  unfold DskD.write
  split
  · rw [hit_off (D := D.put _ _) h.2]; exact h
  · exact h
set_option maxRecDepth 100000 in
set_option maxHeartbeats 4000000 in
theorem VaultErrors_law (H : Law9E prog) (hp : prog "haberdash/haberdashlaw09.VaultErrors" = some f_law09_VaultErrors) {args} (h : IsAll [.int .i64, .bool, .int .i64, .bool] args) :
    ∃ G2, Ev prog (.call "haberdash/haberdashlaw09.VaultErrors" args []) (.ret (.v (.bool true)) G2) := by
  rcases args with _ | ⟨a0, _ | ⟨a1, _ | ⟨a2, _ | ⟨a3, _ | _⟩⟩⟩⟩ <;> try (simp [IsAll] at h; done)
  obtain ⟨⟨c0', h0, rfl⟩, ⟨c1', h1, rfl⟩, ⟨c2', h2, rfl⟩, ⟨c3', h3, rfl⟩, _⟩ := h
  obtain ⟨n0, rfl, hn0⟩ := is_i64 h0
  obtain ⟨off, rfl⟩ := h1
  obtain ⟨at0, rfl, hat0⟩ := is_i64 h2
  obtain ⟨last, rfl⟩ := h3
  have HV := H.toVaultLib
  have HD := HV.toJourLib.toDiskLib
  have hn12 := umod_lt (c := n0) (n := 12) (by omega)
  refine ⟨[], call_of_fin hp ?_⟩
  simp only [f_law09_VaultErrors_B, enter, List.length_cons, List.length_nil, List.replicate, Nat.reduceAdd, Nat.reduceSub, List.cons_append, List.nil_append, Ty.arg, intAV]
  have D27 : Dat (List.replicate 27 none) := by intro B hB b e; rw [List.eq_of_mem_replicate hB] at e; cases e
  have gZ : Good ⟨[], List.replicate 27 none⟩ := goodX D27
  simp (disch := first | (simp only [DS, reduceCtorEq]; done) | omega) only [WS, St.guard, St.put, evalO, reduceCtorEq, reduceIte, Nat.reduceAdd, Nat.reduceEqDiff]
  refine (WP_p (x := .int .i64 (umod n0 12 : Nat)) (by exact Mod_spec H.mod 12 rfl (by omega) (by omega)) (by exact gZ)).2 ?_
  obtain ⟨n, hm⟩ : ∃ m : Nat, m = umod n0 12 + 1 := ⟨_, rfl⟩
  have em : (1 : Int) + ((umod n0 12 : Nat) : Int) = ((n : Nat) : Int) := by omega
  simp (disch := first | (simp only [DS, reduceCtorEq]; done) | omega) only [WS, St.guard, St.put, evalO, reduceCtorEq, reduceIte, Nat.reduceAdd, Nat.reduceEqDiff, vBin_add_i64, em]
  have n1 : 1 ≤ n := by omega
  have n2 : n ≤ 12 := by omega
  obtain ⟨at', hat⟩ : ∃ m : Nat, m = umod at0 (2 * n) := ⟨_, rfl⟩
  have zn : Siz (newD n) n := .new
  have g1 : Good ⟨[], dk 0 (some n) false (newD n) (List.replicate 23 none)⟩ := dk_good trivial
  have gz19 : goodL 0 8 (List.replicate 19 none) := trivial
  refine WP_of (h' := ⟨[], dk 0 (some n) false (newD n) (List.replicate 23 none)⟩) (by exact op_dsk (D := newD n) (R := fun a => .tup [a, .v (.int .i64 0)]) (fun ρ a => rfl) (New_spec HD (N := n) (by omega) (by omega)) (by decide) rfl rfl rfl rfl gZ) ?_
  simp (disch := first | (simp only [DS, reduceCtorEq]; done) | omega) only [WS, St.guard, St.put, evalO, reduceCtorEq, reduceIte, Nat.reduceAdd, Nat.reduceEqDiff]
  refine WP_of (h' := ⟨[], eN n (newD n) (newD n).sw (List.replicate 19 none)⟩) (by exact op_dsk (D := newD n) (R := fun a => a) (fun ρ a => rfl) (refNew_spec H.ref.toRefDisk (N := n) (by omega) (by omega)) (by decide) rfl rfl rfl rfl g1) ?_
  simp (disch := first | (simp only [DS, reduceCtorEq]; done) | omega) only [WS, St.guard, St.put, evalO, reduceCtorEq, reduceIte, Nat.reduceAdd, Nat.reduceEqDiff]
  refine (WP_p (x := .bool true) (by exact awake9_spec H.toLaw9) (by exact en_good gz19)).2 ?_
  have bA : ∀ h : Hp, prim h (.build zeros64 [(0, 1), (1, 1), (2, 1), (3, 1)]) [.v (.int .u8 255), .v (.int .u8 255), .v (.int .u8 255), .v (.int .u8 255)] = some (.agg (ffA.map byteAV), h) := fun h => rfl
  have bB : ∀ h : Hp, prim h (.build zeros64 [(60, 1), (61, 1), (62, 1), (63, 1)]) [.v (.int .u8 255), .v (.int .u8 255), .v (.int .u8 255), .v (.int .u8 255)] = some (.agg (ffB.map byteAV), h) := fun h => rfl
  obtain ⟨X, hX⟩ : ∃ X : Option Blk → Option Blk → Option Blk → List (Option Blk), X = fun a b c => a :: b :: c :: List.replicate 16 none := ⟨_, rfl⟩
  have gX : ∀ a b c, DB a → DB b → DB c → goodL 0 8 (X a b c) := fun a b c ha hb hc => by
    rw [hX]
    exact goodL_opt (fun x e => by rw [ha x e]; rfl) (goodL_opt (fun x e => by rw [hb x e]; rfl) (goodL_opt (fun x e => by rw [hc x e]; rfl) trivial))
  have al : ∀ D E, prim ⟨[], eN n D E (List.replicate 19 none)⟩ (.alloc 8 zeros64 []) [] = some (.ptr (.l 8) 64 0, ⟨[], eN n D E (X (some (dBlk (zs64.map byteAV) false false)) none none)⟩) := fun D E => by rw [hX]; exact alloc_zeros rfl
  have st : ∀ D E (u w : Txt), u.length = 64 → w.length = 64 → prim ⟨[], eN n D E (X (some (dBlk (u.map byteAV) false false)) none none)⟩ (.store 64 false) [.ptr (.l 8) 64 0, .agg (w.map byteAV)] = some (.v undef, ⟨[], eN n D E (X (some (dBlk (w.map byteAV) false false)) none none)⟩) := fun D E u w hu hw => by
    rw [hX]; exact store_all (j := 8) (cells := u.map byteAV) (o := false) (v := false) rfl (by simp [hu]) (by rw [List.length_map]; exact hw) bytes_lfs
  have ldw : ∀ D E (w : Txt) b c, w.length = 64 → prim ⟨[], eN n D E (X (some (dBlk (w.map byteAV) false false)) b c)⟩ (.load 64 true) [.ptr (.l 8) 64 0] = some (.agg (w.map byteAV), ⟨[], eN n D E (X (some (dBlk (w.map byteAV) false false)) b c)⟩) := fun D E w b c hw => by
    rw [hX]; exact load_sec (j := 8) (bs := w) (o := false) (v := false) rfl hw
  have bi9 : ∀ D E a m, prim ⟨[], eN n D E (X a none none)⟩ (.buildSlice 9 false 1 1 [.int .i64 0] [(0, 1)]) [.v (.int .i64 m)] = some (.own (.l 9) 1 0 1 1 (some 1), ⟨[], eN n D E (X a (some (dBlk [intAV m] false false)) none)⟩) := fun D E a m => by rw [hX]; exact build_int rfl
  have bi10 : ∀ D E a b m, prim ⟨[], eN n D E (X a b none)⟩ (.buildSlice 10 false 1 1 [.int .i64 0] [(0, 1)]) [.v (.int .i64 m)] = some (.own (.l 10) 1 0 1 1 (some 1), ⟨[], eN n D E (X a b (some (dBlk [intAV m] false false)))⟩) := fun D E a b m => by rw [hX]; exact build_int rfl
  have z64 : zs64.length = 64 := rfl
  simp (disch := first | (simp only [DS, reduceCtorEq]; done) | omega) only [WS, St.guard, St.put, evalO, reduceCtorEq, reduceIte, Nat.reduceAdd, Nat.reduceEqDiff, Bool.not_true, isNilV, Hp.isNil, bA, al, st _ _ zs64 ffA rfl rfl]
  have h2n : vBin .mul (.int .i64 2) (.int .i64 (n : Nat)) = some (.int .i64 ((2 * n : Nat) : Int)) := by
    simp only [vBin, ne_eq, not_true_eq_false, if_false]
    have e : ((2 : Int) * ((n : Nat) : Int)) = ((2 * n : Nat) : Int) := by omega
    rw [e, wrap_i64_nat (by omega)]
  cases last
  case' true =>
    obtain ⟨w, hw⟩ : ∃ w, w = ffB := ⟨_, rfl⟩
    have lw : w.length = 64 := by rw [hw]; rfl
    simp (disch := first | (simp only [DS, reduceCtorEq]; done) | omega) only [WS, St.guard, St.put, evalO, reduceCtorEq, reduceIte, Nat.reduceAdd, Nat.reduceEqDiff, bB, st _ _ ffA ffB rfl rfl]
    rw [← hw]
  case' false =>
    obtain ⟨w, hw⟩ : ∃ w, w = ffA := ⟨_, rfl⟩
    have lw : w.length = 64 := by rw [hw]; rfl
    simp (disch := first | (simp only [DS, reduceCtorEq]; done) | omega) only [WS, St.guard, St.put, evalO, reduceCtorEq, reduceIte, Nat.reduceAdd, Nat.reduceEqDiff]
    rw [← hw]
  all_goals
    have dw : DB (some (dBlk (w.map byteAV) false false)) := .d
    have di : ∀ m : Int, DB (some (dBlk [intAV m] false false)) := fun m => .d
    obtain ⟨D1, hD1⟩ : ∃ D1, D1 = (newD n).write (at' : Nat) ⟨w, lw⟩ := ⟨_, rfl⟩
    have z1 : Siz D1 n := by rw [hD1]; exact zn.write
    have live1 : Live D1 := by rw [hD1]; exact live_write newD_live
    have gw : ∀ {D E b c}, DB b → DB c → Good ⟨[], eN n D E (X (some (dBlk (w.map byteAV) false false)) b c)⟩ := fun hb hc => en_good (gX _ _ _ dw hb hc)
    have evM : ∀ D E, Ev prog (.op (.call "haberdash/haberdashplay.Mod" []) [.v (.int .i64 at0), .v (.int .i64 ((2 * n : Nat) : Int))] ⟨[], eN n D E (X (some (dBlk (w.map byteAV) false false)) none none)⟩) (.val (.v (.int .i64 (at' : Nat))) ⟨[], eN n D E (X (some (dBlk (w.map byteAV) false false)) none none)⟩) := fun D E => by
      rw [hat]
      exact op_same (gw .z .z) (Mod_spec H.mod (2 * n) rfl (by omega) (by omega))
    have xr : ∀ ℓ ρ, [AV.ptr ℓ 5 0, .v (.int .i64 (at' : Nat)), .agg (w.map byteAV)].map (AV.ren ρ) = [(AV.ptr ℓ 5 0).ren ρ, .v (.int .i64 (at' : Nat)), .agg (w.map byteAV)] := fun ℓ ρ => by
      simp only [List.map_cons, List.map_nil]
      rw [show (AV.agg (w.map byteAV)).ren ρ = .agg (w.map byteAV) from ren_bytes]
      rfl
    have w1 : Ev prog (.op (.call "(*haberdash/disk.Disk).Write" []) [.ptr (.l 3) 5 0, .v (.int .i64 (at' : Nat)), .agg (w.map byteAV)] ⟨[], eN n (newD n) (newD n).sw (X (some (dBlk (w.map byteAV) false false)) none none)⟩) (.val (.v (.int .i64 (writeE (newD n) (at' : Nat)))) ⟨[], eN n D1 (newD n).sw (X (some (dBlk (w.map byteAV) false false)) none none)⟩) := by
      refine en_op0 (gX _ _ _ dw .z .z) rfl ?_
      rw [xr, hD1]
      exact Write_spec HD (D := newD n) (P := dpos 0 (some n) false) (s := ⟨w, lw⟩) (en_ok0 zn.b) (by rw [zn.l, zn.b]) zn.armed
    have w2 : Ev prog (.op (.call "(*haberdash/haberdashref06.Disk).Write" []) [.ptr (.l 7) 5 0, .v (.int .i64 (at' : Nat)), .agg (w.map byteAV)] ⟨[], eN n D1 (newD n).sw (X (some (dBlk (w.map byteAV) false false)) none none)⟩) (.val (.v (.int .i64 (writeE (newD n) (at' : Nat)))) ⟨[], eN n D1 D1.sw (X (some (dBlk (w.map byteAV) false false)) none none)⟩) := by
      refine en_op4 (gX _ _ _ dw .z .z) rfl ?_
      rw [xr]
      have e := refWrite_spec H.ref.toRefDisk (D := (newD n).sw) (P := dpos 4 (some n) false) (at' := (at' : Nat)) (s := ⟨w, lw⟩) (en_ok4 (D := D1) (E := (newD n).sw) (X := X (some (dBlk (w.map byteAV) false false)) none none) (D' := newD n) zn.b) (by show (newD n).l.length = (newD n).b.length; rw [zn.l, zn.b]) zn.armed
      rw [rwrite_sw, rwriteE_sw, ← hD1] at e
      exact e
    simp (disch := first | (simp only [DS, reduceCtorEq]; done) | omega) only [WS, St.guard, St.put, evalO, reduceCtorEq, reduceIte, Nat.reduceAdd, Nat.reduceEqDiff, WC_draw, WD_nil, WD_cons, WDG_false, WDG_true, WDP_id, WDP_pick, WDP_build, WDP_bin, WDP_un, WDP_convInt, WDP_strStr, WDP_makeFunc, WDP_sliceStr, WDP_eq, WDP_eqBool, WDP_field, WDP_indexStr, WDP_indexAgg, WDP_extract, WDP_lenStr, WDP_lenSlice, WDP_lenArr, WDP_cap, WDP_min, WDP_max, WDP_nilCheck, WDP_slice, WDP_sliceArr, WDP_fieldAddr, WDP_indexAddr, WDP_indexArr, WDP_load, WDR_some, iP_eq, iN_eq, iG_eq, kI_eq, h2n]
    refine WDP_of (evM _ _) (by exact gw .z .z) (by exact gw .z .z) rfl rfl ?_
    simp (disch := first | (simp only [DS, reduceCtorEq]; done) | omega) only [WS, St.guard, St.put, evalO, reduceCtorEq, reduceIte, Nat.reduceAdd, Nat.reduceEqDiff, WC_draw, WD_nil, WD_cons, WDG_false, WDG_true, WDP_id, WDP_pick, WDP_build, WDP_bin, WDP_un, WDP_convInt, WDP_strStr, WDP_makeFunc, WDP_sliceStr, WDP_eq, WDP_eqBool, WDP_field, WDP_indexStr, WDP_indexAgg, WDP_extract, WDP_lenStr, WDP_lenSlice, WDP_lenArr, WDP_cap, WDP_min, WDP_max, WDP_nilCheck, WDP_slice, WDP_sliceArr, WDP_fieldAddr, WDP_indexAddr, WDP_indexArr, WDP_load, WDR_some, iP_eq, iN_eq, iG_eq, kI_eq, ldw _ _ w _ _ lw]
    refine WDP_of w1 (by exact gw .z .z) (by exact gw .z .z) rfl rfl ?_
    simp (disch := first | (simp only [DS, reduceCtorEq]; done) | omega) only [WS, St.guard, St.put, evalO, reduceCtorEq, reduceIte, Nat.reduceAdd, Nat.reduceEqDiff, WC_draw, WD_nil, WD_cons, WDG_false, WDG_true, WDP_id, WDP_pick, WDP_build, WDP_bin, WDP_un, WDP_convInt, WDP_strStr, WDP_makeFunc, WDP_sliceStr, WDP_eq, WDP_eqBool, WDP_field, WDP_indexStr, WDP_indexAgg, WDP_extract, WDP_lenStr, WDP_lenSlice, WDP_lenArr, WDP_cap, WDP_min, WDP_max, WDP_nilCheck, WDP_slice, WDP_sliceArr, WDP_fieldAddr, WDP_indexAddr, WDP_indexArr, WDP_load, WDR_some, iP_eq, iN_eq, iG_eq, kI_eq, h2n]
    refine WDP_of (evM _ _) (by exact gw .z .z) (by exact gw .z .z) rfl rfl ?_
    simp (disch := first | (simp only [DS, reduceCtorEq]; done) | omega) only [WS, St.guard, St.put, evalO, reduceCtorEq, reduceIte, Nat.reduceAdd, Nat.reduceEqDiff, WC_draw, WD_nil, WD_cons, WDG_false, WDG_true, WDP_id, WDP_pick, WDP_build, WDP_bin, WDP_un, WDP_convInt, WDP_strStr, WDP_makeFunc, WDP_sliceStr, WDP_eq, WDP_eqBool, WDP_field, WDP_indexStr, WDP_indexAgg, WDP_extract, WDP_lenStr, WDP_lenSlice, WDP_lenArr, WDP_cap, WDP_min, WDP_max, WDP_nilCheck, WDP_slice, WDP_sliceArr, WDP_fieldAddr, WDP_indexAddr, WDP_indexArr, WDP_load, WDR_some, iP_eq, iN_eq, iG_eq, kI_eq, ldw _ _ w _ _ lw]
    refine WDP_of w2 (by exact gw .z .z) (by exact gw .z .z) rfl rfl ?_
    simp (disch := first | (simp only [DS, reduceCtorEq]; done) | omega) only [WS, St.guard, St.put, evalO, reduceCtorEq, reduceIte, Nat.reduceAdd, Nat.reduceEqDiff, WC_draw, WD_nil, WD_cons, WDG_false, WDG_true, WDP_id, WDP_pick, WDP_build, WDP_bin, WDP_un, WDP_convInt, WDP_strStr, WDP_makeFunc, WDP_sliceStr, WDP_eq, WDP_eqBool, WDP_field, WDP_indexStr, WDP_indexAgg, WDP_extract, WDP_lenStr, WDP_lenSlice, WDP_lenArr, WDP_cap, WDP_min, WDP_max, WDP_nilCheck, WDP_slice, WDP_sliceArr, WDP_fieldAddr, WDP_indexAddr, WDP_indexArr, WDP_load, WDR_some, iP_eq, iN_eq, iG_eq, kI_eq]
    obtain ⟨xw, hxw⟩ : ∃ xw, xw = some (dBlk (w.map byteAV) false false) := ⟨_, rfl⟩
    rw [← hxw] at dw gw ⊢
    have lX : ∀ a b c, (X a b c).length = 19 := fun a b c => by rw [hX]; rfl
    cases off
    case' true =>
      obtain ⟨D, hD⟩ : ∃ D, D = D1.crash [64] := ⟨_, rfl⟩
      have z : Siz D n := by rw [hD]; exact z1.crash
      have hLv : D.off = true ∨ Live D := by rw [hD]; exact .inl rfl
      obtain ⟨xb, hxb⟩ : ∃ xb, xb = some (dBlk [intAV 64] false false) := ⟨_, rfl⟩
      have db : DB xb := by rw [hxb]; exact .d
      have cr1 : Ev prog (.op (.call "(*haberdash/disk.Disk).Crash" []) [.ptr (.l 3) 5 0, .own (.l 9) 1 0 1 1 (some 1)] ⟨[], eN n D1 D1.sw (X xw xb none)⟩) (.val (.tup []) ⟨[], eN n D D1.sw (X xw xb none)⟩) := by
        refine en_op0 (gX _ _ _ dw db .z) rfl ?_
        rw [hD]
        exact Crash_specG HD (P := dpos 0 (some n) false) (ks := [64]) (a := .own (.o (0 + 9)) 1 0 1 1 (some 1)) (en_ok0 z1.b) (by rw [z1.l, z1.b]) (by rw [z1.a, z1.b]) (by rw [z1.b]; omega) (fun E Y L => view_k (by exact into_at (G := []) (k := 9) (by rw [hX, hxb]; rfl) rfl) (by simp [dpos]) E Y L) rfl (fun g => rfl) (by rw [eN_len, lX]; rfl)
      have cr2 : Ev prog (.op (.call "(*haberdash/haberdashref06.Disk).Crash" []) [.ptr (.l 7) 5 0, .own (.l 10) 1 0 1 1 (some 1)] ⟨[], eN n D D1.sw (X xw xb xb)⟩) (.val (.tup []) ⟨[], eN n D D.sw (X xw xb xb)⟩) := by
        refine en_op4 (gX _ _ _ dw db db) rfl ?_
        rw [hD]
        exact refCrash_specG H.ref.toRefDisk (D := D1) (P := dpos 4 (some n) false) (ks := [64]) (a := .own (.o (0 + 10)) 1 0 1 1 (some 1)) (en_ok4 z1.b) (by rw [z1.l, z1.b]) (by rw [z1.a, z1.b]) (by rw [z1.b]; omega) (fun E L => by
          have := view_k (G := (⟨[], eN n (D1.crash [64]) D1.sw (X xw xb xb)⟩ : Hp).into) (k := 10) (m := 64) (P := dpos 4 (some n) false) (by exact into_at (G := []) (k := 10) (by rw [hX, hxb]; rfl) rfl) (by simp [dpos]) E [] L
          rwa [List.append_nil] at this)
      simp (disch := first | (simp only [DS, reduceCtorEq]; done) | omega) only [WS, St.guard, St.put, evalO, reduceCtorEq, reduceIte, Nat.reduceAdd, Nat.reduceEqDiff]
      refine (WR_eq (bi9 _ _ _ _)).2 ?_
      rw [← hxb]
      simp (disch := first | (simp only [DS, reduceCtorEq]; done) | omega) only [WS, St.guard, St.put, evalO, reduceCtorEq, reduceIte, Nat.reduceAdd, Nat.reduceEqDiff]
      refine WP_of cr1 ?_
      simp (disch := first | (simp only [DS, reduceCtorEq]; done) | omega) only [WS, St.guard, St.put, evalO, reduceCtorEq, reduceIte, Nat.reduceAdd, Nat.reduceEqDiff]
      refine (WR_eq (bi10 _ _ _ _ _)).2 ?_
      rw [← hxb]
      simp (disch := first | (simp only [DS, reduceCtorEq]; done) | omega) only [WS, St.guard, St.put, evalO, reduceCtorEq, reduceIte, Nat.reduceAdd, Nat.reduceEqDiff]
      refine WP_of cr2 ?_
      obtain ⟨xc, hxc⟩ : ∃ xc, xc = xb := ⟨_, rfl⟩
      have dc : DB xc := by rw [hxc]; exact db
      have eH : eN n D D.sw (X xw xb xb) = eN n D D.sw (X xw xb xc) := by rw [hxc]
      simp only [eH]
      simp (disch := first | (simp only [DS, reduceCtorEq]; done) | omega) only [WS, St.guard, St.put, evalO, reduceCtorEq, reduceIte, Nat.reduceAdd, Nat.reduceEqDiff]
    case' false =>
      obtain ⟨D, hD⟩ : ∃ D, D = D1 := ⟨_, rfl⟩
      have z : Siz D n := by rw [hD]; exact z1
      have hLv : D.off = true ∨ Live D := by rw [hD]; exact .inr live1
      obtain ⟨xb, hxb⟩ : ∃ xb : Option Blk, xb = none := ⟨_, rfl⟩
      have db : DB xb := by rw [hxb]; exact .z
      obtain ⟨xc, hxc⟩ : ∃ xc : Option Blk, xc = none := ⟨_, rfl⟩
      have dc : DB xc := by rw [hxc]; exact .z
      have eH : eN n D1 D1.sw (X xw none none) = eN n D D.sw (X xw xb xc) := by rw [hD, hxb, hxc]
      simp only [eH]
      simp (disch := first | (simp only [DS, reduceCtorEq]; done) | omega) only [WS, St.guard, St.put, evalO, reduceCtorEq, reduceIte, Nat.reduceAdd, Nat.reduceEqDiff]
    all_goals
      have zb := z.b
      have gA : goodL 0 8 (X xw xb xc) := gX _ _ _ dw db dc
      by_cases hE : openEr D = 0
      case' pos =>
        have h4 : 4 ≤ n ∧ Live D := by
          unfold openEr at hE
          split at hE
          · simp at hE
          split at hE
          · simp at hE
          · rename_i h1 h2
            exact ⟨by omega, hLv.resolve_left h2⟩
        obtain ⟨D', eb, _, _⟩ := bg_live (D := D) (n := n) (frm := 0) (nn := n / 2) (ep := vEp D) (b := []) h4.2 z (by omega) (by simp) (by show needN 1 ≤ n / 2; unfold needN; omega) (by omega)
        have l0 : LVOk (eN n D D.sw (X xw xb xc)) (dpos 0 (some n) false) 11 12 13 n := lvok1 le_some (by omega) (by omega) (by omega) (by simp [eN, dk, lX])
        have ev1 := tOpen HV (G := []) (L := eN n D D.sw (X xw xb xc)) (P := dpos 0 (some n) false) (q := 11) (p := 12) (pv := 13) (D := D) (by rw [zb]; exact l0) (en_good gA) (by rw [zb]; exact z) (by omega) hE (by rw [zb, eb]) (by rw [hX]; rfl) (by rw [hX]; rfl) (by rw [hX]; rfl)
        obtain ⟨W, hW⟩ : ∃ W, W = openV D := ⟨_, rfl⟩
        rw [← hW] at ev1
        obtain ⟨L1, hL1⟩ : ∃ L1, L1 = lv (eN n D D.sw (X xw xb xc)) (dpos 0 (some n) false) 11 12 13 W.1 W.2.1 W.2.2 := ⟨_, rfl⟩
        rw [← hL1] at ev1
        have gL1 : Good ⟨[], L1⟩ := by rw [hL1]; exact lvG (en_good gA) l0
        have eL1 : L1 = lset L1 (dpos 4 (some n) false) D.sw := by rw [hL1, hX]; rfl
        have lL1 : L1.length = 27 := by rw [hL1, hX]; rfl
        have l4 : LVOk L1 (dpos 4 (some n) false) 14 15 16 n := by
          refine ⟨⟨dpos_ok (by omega) le_some, by omega, by omega, by show 7 < 15; omega, fun k hk => by simp only [dpos, List.mem_cons, List.not_mem_nil, or_false] at hk; omega, fun k hk => by simp only [dpos, List.mem_cons, List.not_mem_nil, or_false] at hk; omega⟩, by omega, by omega, by refine ⟨?_, ?_, ?_, ?_, ?_, ?_⟩ <;> simp [dpos]⟩
        have ev2 := tROpen H.ref (G := []) (L := L1) (P := dpos 4 (some n) false) (q := 14) (p := 15) (pv := 16) (D := D) (by rw [zb]; exact l4) gL1 (by rw [zb]; exact z) (by omega) hE (fun _ => by unfold opBg; rw [zb, eb]) (by rw [hL1, hX]; rfl) (by rw [hL1, hX]; rfl) (by rw [hL1, hX]; rfl)
        rw [← hW, ← eL1] at ev2
        obtain ⟨M, hM⟩ : ∃ M, M = lrv L1 (dpos 4 (some n) false) 14 15 16 W.1 W.2.1 W.2.2 := ⟨_, rfl⟩
        rw [← hM] at ev2
        have gM : Good ⟨[], M⟩ := by
          rw [hM]
          refine Good.setB (Good.setB (Good.setO (lset_good gL1 l4.o.d) (fun b e => by cases e; rfl)) (sBlk_good (by rw [yC_labs']; rfl))) (sBlk_good rfl)
        have kM : ∀ k, 17 ≤ k → k < 27 → M[k]? = some none := fun k h1 h2 => by
          rw [hM, hL1, hX]
          have : k = 17 ∨ k = 18 ∨ k = 19 ∨ k = 20 ∨ k = 21 ∨ k = 22 ∨ k = 23 ∨ k = 24 ∨ k = 25 ∨ k = 26 := by omega
          rcases this with rfl | rfl | rfl | rfl | rfl | rfl | rfl | rfl | rfl | rfl <;> rfl
        have hb : (openEr D != 0) = false := by rw [hE]; rfl
        refine WP_of (by exact ev1) ?_
        simp (disch := first | (simp only [DS, reduceCtorEq]; done) | omega) only [WS, St.guard, St.put, evalO, reduceCtorEq, reduceIte, Nat.reduceAdd, Nat.reduceEqDiff]
        refine WP_of ev2 ?_
        simp (disch := first | (simp only [DS, reduceCtorEq]; done) | omega) only [WS, St.guard, St.put, evalO, reduceCtorEq, reduceIte, Nat.reduceAdd, Nat.reduceEqDiff]
      case' neg =>
        have ev1 : Ev prog (.op (.call "haberdash/vault.Open" [11, 12, 13]) [.ptr (.l 3) 5 0] ⟨[], eN n D D.sw (X xw xb xc)⟩) (.val (.tup [.v (.pointer none), .v (.int .i64 (openEr D))]) ⟨[], eN n D D.sw (X xw xb xc)⟩) := by
          refine op_noneL ?_ rfl (by decide) (by intro k hk; simp at hk; rw [hX]; rcases hk with rfl | rfl | rfl <;> rfl) (en_good gA)
          rw [eN_0]
          exact VOpen_bad HV (P := dpos 0 (some n) false) (en_ok0 zb) (by omega) hE
        have ev2 : Ev prog (.op (.call "haberdash/haberdashref06.OpenVault" [14, 15, 16]) [.ptr (.l 7) 5 0] ⟨[], eN n D D.sw (X xw xb xc)⟩) (.val (.tup [.v (.pointer none), .v (.int .i64 (openEr D))]) ⟨[], eN n D D.sw (X xw xb xc)⟩) := by
          refine op_noneL ?_ rfl (by decide) (by intro k hk; simp at hk; rw [hX]; rcases hk with rfl | rfl | rfl <;> rfl) (en_good gA)
          rw [eN_4]
          have e := ROpen_spec H.ref (G := (⟨[], eN n D D.sw (X xw xb xc)⟩ : Hp).into) (P := dpos 4 (some n) false) (D := D) (en_ok4 zb) (by rw [zb]; exact z) (by omega)
          have eA : rvAns (⟨[], eN n D D.sw (X xw xb xc)⟩ : Hp).into (dpos 4 (some n) false) D = (.tup [.v (.pointer none), .v (.int .i64 (openEr D))], dset (⟨[], eN n D D.sw (X xw xb xc)⟩ : Hp).into (dpos 4 (some n) false) D.sw) := by
            unfold rvAns; rw [if_pos hE]
          rw [eA] at e
          exact e
        obtain ⟨M, hM⟩ : ∃ M, M = eN n D D.sw (X xw xb xc) := ⟨_, rfl⟩
        have gM : Good ⟨[], M⟩ := by rw [hM]; exact en_good gA
        have kM : ∀ k, 17 ≤ k → k < 27 → M[k]? = some none := fun k h1 h2 => by
          rw [hM, hX]
          have : k = 17 ∨ k = 18 ∨ k = 19 ∨ k = 20 ∨ k = 21 ∨ k = 22 ∨ k = 23 ∨ k = 24 ∨ k = 25 ∨ k = 26 := by omega
          rcases this with rfl | rfl | rfl | rfl | rfl | rfl | rfl | rfl | rfl | rfl <;> rfl
        have hb : (openEr D != 0) = true := by rw [bne_iff_ne]; exact hE
        rw [← hM] at ev1 ev2
        simp only [← hM]
        refine WP_of (by exact ev1) ?_
        simp (disch := first | (simp only [DS, reduceCtorEq]; done) | omega) only [WS, St.guard, St.put, evalO, reduceCtorEq, reduceIte, Nat.reduceAdd, Nat.reduceEqDiff]
        refine WP_of ev2 ?_
        simp (disch := first | (simp only [DS, reduceCtorEq]; done) | omega) only [WS, St.guard, St.put, evalO, reduceCtorEq, reduceIte, Nat.reduceAdd, Nat.reduceEqDiff]
      all_goals
        have lsn : ∀ h : Hp, prim h .lenSlice [.v (.slice none 0 0)] = some (.v (.int .i64 0), h) := fun h => rfl
        have g20 : Good ⟨[], M.set 20 (some (dBlk [.v (.int .u8 1)] false false))⟩ := Good.setO (h := ⟨[], M⟩) gM (fun b e => by cases e; rfl)
        have kN : ∀ k, 20 < k → k < 27 → (M.set 20 (some (dBlk [.v (.int .u8 1)] false false)))[k]? = some none := fun k h1 h2 => by rw [List.getElem?_set, if_neg (by omega)]; exact kM k (by omega) h2
        refine WP_of (by exact op_noneL (sites := [17, 18, 19]) (by exact Open_vnil HV) rfl (by decide) (by intro k hk; simp at hk; exact kM k (by omega) (by omega)) gM) ?_
        simp (disch := first | (simp only [DS, reduceCtorEq]; done) | omega) only [WS, St.guard, St.put, evalO, reduceCtorEq, reduceIte, Nat.reduceAdd, Nat.reduceEqDiff, isNilV, Hp.isNil, Int.reduceBEq, Int.reduceBNe, beq_self_eq_true, hb, BEq.rfl]
        refine (WR_eq (build_int (kM 20 (by omega) (by omega)))).2 ?_
        simp (disch := first | (simp only [DS, reduceCtorEq]; done) | omega) only [WS, St.guard, St.put, evalO, reduceCtorEq, reduceIte, Nat.reduceAdd, Nat.reduceEqDiff]
        refine WP_of (by exact op_noneL (sites := []) (by exact Add_vnil HV) rfl (by decide) (by simp) g20) ?_
        simp (disch := first | (simp only [DS, reduceCtorEq]; done) | omega) only [WS, St.guard, St.put, evalO, reduceCtorEq, reduceIte, Nat.reduceAdd, Nat.reduceEqDiff, Int.reduceBEq]
        refine WP_of (by exact op_noneL (sites := []) (by exact Compact_vnil H.vn) rfl (by decide) (by simp) g20) ?_
        simp (disch := first | (simp only [DS, reduceCtorEq]; done) | omega) only [WS, St.guard, St.put, evalO, reduceCtorEq, reduceIte, Nat.reduceAdd, Nat.reduceEqDiff, Int.reduceBEq]
        refine WP_of (by exact op_noneL (sites := [21]) (by exact Base_vnil H.vn) rfl (by decide) (by intro k hk; simp at hk; exact kN k (by omega) (by omega)) g20) ?_
        simp (disch := first | (simp only [DS, reduceCtorEq]; done) | omega) only [WS, St.guard, St.put, evalO, reduceCtorEq, reduceIte, Nat.reduceAdd, Nat.reduceEqDiff, Int.reduceBEq, lsn]
        refine WP_of (by exact op_noneL (sites := [22]) (by exact Records_vnil HV) rfl (by decide) (by intro k hk; simp at hk; exact kN k (by omega) (by omega)) g20) ?_
        simp (disch := first | (simp only [DS, reduceCtorEq]; done) | omega) only [WS, St.guard, St.put, evalO, reduceCtorEq, reduceIte, Nat.reduceAdd, Nat.reduceEqDiff, Int.reduceBEq, lsn]
        refine WP_of (by exact op_noneL (sites := []) (by exact Half_vnil HV) rfl (by decide) (by simp) g20) ?_
        simp (disch := first | (simp only [DS, reduceCtorEq]; done) | omega) only [WS, St.guard, St.put, evalO, reduceCtorEq, reduceIte, Nat.reduceAdd, Nat.reduceEqDiff, Int.reduceBEq]
        refine WP_of (by exact op_noneL (sites := []) (by exact Used_vnil HV) rfl (by decide) (by simp) g20) ?_
        simp (disch := first | (simp only [DS, reduceCtorEq]; done) | omega) only [WS, St.guard, St.put, evalO, reduceCtorEq, reduceIte, Nat.reduceAdd, Nat.reduceEqDiff, Int.reduceBEq]
        refine WP_of (by exact op_noneL (sites := [23, 24, 25, 26]) (by exact Disk_vnil H.vn) rfl (by decide) (by intro k hk; simp at hk; exact kN k (by omega) (by omega)) g20) ?_
        simp (disch := first | (simp only [DS, reduceCtorEq]; done) | omega) only [WS, St.guard, St.put, evalO, reduceCtorEq, reduceIte, Nat.reduceAdd, Nat.reduceEqDiff, isNilV, Hp.isNil, fin_tmp, leave_v]
        simp
end Go.AM
