import Derived.Test.YtdcnjckkcfoppaaVaultC
set_option linter.unusedVariables false
set_option linter.unusedSimpArgs false
namespace Go.AM
variable {prog : String → Option IFn}
structure Law9F (prog : String → Option IFn) : Prop extends Law9 prog where
  compactF : prog "(*haberdash/vault.Vault).Compact#VaultFull" = some f___vault_Vault__Compact_VaultFull
  beginF : prog "(*haberdash/vault.Vault).begin#VaultFull" = some f___vault_Vault__begin_VaultFull
structure FS where
  D : DskD
  J : JD
  V : VD
  u : Nat
  c : Nat
def fullStep (n k : Nat) (s : FS) : FS := if s.u + needN k ≤ n / 2 then ⟨(s.V.add s.D s.J (zT k)).2.1, (s.V.add s.D s.J (zT k)).2.2.1, (s.V.add s.D s.J (zT k)).2.2.2, s.u + needN k, s.c + 1⟩ else s
def fullRun (n : Nat) (xs : List Int) : Nat → FS
  | 0 => ⟨(openV (newD n)).1, (openV (newD n)).2.1, (openV (newD n)).2.2, 1, 0⟩
  | i + 1 => match xs[i]? with
    | some x => fullStep n (umod x 150 + 1) (fullRun n xs i)
    | none => fullRun n xs i
def FS.Ok (n : Nat) (s : FS) : Prop := FullInv n s.D s.J s.V s.u s.c
theorem fullStep_ok {n k : Nat} {s : FS} (h : s.Ok n) (h4 : 4 ≤ n) (h1 : 1 ≤ k) (h2 : k ≤ 200) : (fullStep n k s).Ok n := by
  unfold fullStep
  have hl : (zT k).length = k := by simp [zT]
  split
  · rename_i hf
    have := ((full_step h h4 (b := zT k) (by omega) (by omega)).1 (by rw [hl]; exact hf)).2
    rw [hl] at this
    exact this
  · exact h
theorem fullRun_ok {n : Nat} {xs : List Int} (h4 : 4 ≤ n) : ∀ i, (fullRun n xs i).Ok n
  | 0 => (full_new h4).2
  | i + 1 => by
    show FS.Ok n (match xs[i]? with | some x => _ | none => _)
    cases hx : xs[i]? with
    | none => exact fullRun_ok h4 i
    | some x =>
      have hk := umod_lt (c := x) (n := 150) (by omega)
      exact fullStep_ok (fullRun_ok h4 i) h4 (by omega) (by omega)
theorem view_o {G L : List (Option Blk)} {k : Nat} {b : Txt} {o : Bool} {cap : Option Nat} (hk : G[k]? = some (some (dBlk (b.map byteAV) o false))) (hc : ∀ c, cap = some c → b.length ≤ c) : View ⟨G, L⟩ (.own (.o k) b.length 0 b.length 1 cap) 1 b.length (b.map byteAV) := by
  refine ⟨rfl, ?_, by simp, rfl, ?_, by omega⟩
  · simp only [Hp.sees, Hp.get, hk, Option.join_some, dBlk_cells, List.length_map, if_true, List.drop_zero, Nat.mul_one]
    rw [List.take_of_length_le (by simp)]
  · cases cap with
    | none => exact trivial
    | some c => exact hc c rfl
set_option maxRecDepth 100000 in
set_option maxHeartbeats 4000000 in
theorem VaultFull_law (H : Law9F prog) (hp : prog "haberdash/haberdashlaw09.VaultFull" = some f_law09_VaultFull) {args} (h : IsAll [.int .i64, .slice (.int .i64), .int .i64] args) :
    ∃ G2, Ev prog (.call "haberdash/haberdashlaw09.VaultFull" args []) (.ret (.v (.bool true)) G2) := by
  rcases args with _ | ⟨a0, _ | ⟨a1, _ | ⟨a2, _ | _⟩⟩⟩ <;> try (simp [IsAll] at h; done)
  obtain ⟨⟨c0', h0, rfl⟩, ⟨c1', h1, rfl⟩, ⟨c2', h2, rfl⟩, _⟩ := h
  obtain ⟨n0, rfl, hn⟩ := is_i64 h0
  obtain ⟨b0, rfl, hb0⟩ := is_i64 h2
  obtain ⟨a, xs, rfl, va, ham, hxi⟩ := is_ints h1
  have HV := H.toVaultLib
  have HJ := HV.toJourLib
  have HD := HJ.toDiskLib
  have na : ∀ ks, noRef ks a = true := fun ks => noRef_out (View.out (va ⟨[], []⟩))
  have hn30 := umod_lt (c := n0) (n := 30) (by omega)
  have hb4 := umod_lt (c := b0) (n := 400) (by omega)
  have hroom : room = 140737488355328 := rfl
  refine ⟨[], call_of_fin hp ?_⟩
  simp only [f_law09_VaultFull_B, enter, List.length_cons, List.length_nil, List.replicate, Nat.reduceAdd, Nat.reduceSub, List.cons_append, List.nil_append, Ty.arg, intAV]
  simp (disch := first | (simp only [DS, reduceCtorEq]; done) | omega) only [WS, St.guard, St.put, evalO, reduceCtorEq, reduceIte, Nat.reduceAdd, Nat.reduceEqDiff]
  refine (WP_p (x := .int .i64 (umod n0 30 : Nat)) (by exact Mod_spec H.mod 30 rfl (by omega) (by omega)) (by exact trivial)).2 ?_
  simp (disch := first | (simp only [DS, reduceCtorEq]; done) | omega) only [WS, St.guard, St.put, evalO, reduceCtorEq, reduceIte, Nat.reduceAdd, Nat.reduceEqDiff, vBin_add_i64]
  refine (WP_p (x := .int .i64 (umod b0 400 : Nat)) (by exact Mod_spec H.mod 400 rfl (by omega) (by omega)) (by exact trivial)).2 ?_
  obtain ⟨n, hm⟩ : ∃ m : Nat, m = umod n0 30 + 4 := ⟨_, rfl⟩
  have em : (4 : Int) + ((umod n0 30 : Nat) : Int) = ((n : Nat) : Int) := by omega
  rw [em]
  obtain ⟨bs, hbs⟩ : ∃ m : Nat, m = umod b0 400 := ⟨_, rfl⟩
  rw [← hbs]
  have n4 : 4 ≤ n := by omega
  have n2 : n ≤ 20000 := by omega
  have lk : ∀ X : List (Option Blk), 14 < X.length → LVOk X (dpos 0 (some n) false) 12 13 14 n := fun X hX => lvok1 le_some (by omega) (by omega) (by omega) hX
  have D15 : Dat (List.replicate 15 none) := by intro B hB b e; rw [List.eq_of_mem_replicate hB] at e; cases e
  simp (disch := first | (simp only [DS, reduceCtorEq]; done) | omega) only [WS, St.guard, St.put, evalO, reduceCtorEq, reduceIte, Nat.reduceAdd, Nat.reduceEqDiff]
  refine WP_of (h' := ⟨[], lset (List.replicate 15 none) (dpos 0 (some n) false) (newD n)⟩) (by exact op_dsk (D := newD n) (R := fun a => .tup [a, .v (.int .i64 0)]) (fun ρ a => rfl) (New_spec HD (by omega) n2) (by decide) rfl rfl rfl rfl (dat_good D15)) ?_
  simp (disch := first | (simp only [DS, reduceCtorEq]; done) | omega) only [WS, St.guard, St.put, evalO, reduceCtorEq, reduceIte, Nat.reduceAdd, Nat.reduceEqDiff]
  have eln : (newD n).b.length = n := newD_len
  refine WP_of (by exact tOpen HV (P := dpos 0 (some n) false) (q := 12) (p := 13) (pv := 14) (D := newD n) (by rw [eln]; exact lk _ (by simp)) (dat_good D15) (by rw [eln]; exact .new) (by rw [eln]; exact n2) (openEr_new n4) (by rw [ep_new, eln]; exact (full_new n4).1) rfl rfl rfl) ?_
  have gv : ∀ {D J V}, Good ⟨[], lv (List.replicate 15 none) (dpos 0 (some n) false) 12 13 14 D J V⟩ := lvG (dat_good D15) (lk _ (by simp))
  simp (disch := first | (simp only [DS, reduceCtorEq]; done) | omega) only [WS, St.guard, St.put, evalO, reduceCtorEq, reduceIte, Nat.reduceAdd, Nat.reduceEqDiff]
  refine (WP_p (x := .bool true) (by exact awake9_spec H.toLaw9) (by exact gv)).2 ?_
  simp (disch := first | (simp only [DS, reduceCtorEq]; done) | omega) only [WS, St.guard, St.put, evalO, reduceCtorEq, reduceIte, Nat.reduceAdd, Nat.reduceEqDiff, Int.reduceBNe, isNilV, Hp.isNil]
  have inv := fun i => fullRun_ok (n := n) (xs := xs) n4 i
  refine WC_count (fun i => ⟨f_law09_VaultFull_H0 (.v (.int .i64 (n : Nat))) a (.v (.int .i64 (bs : Nat))) (.ptr (.l 14) 5 0) (.v (.int .i64 ((fullRun n xs i).u : Nat))) (.v (.int .i64 ((fullRun n xs i).c : Nat))) (.v (.int .i64 (i : Nat))), ⟨[], lv (List.replicate 15 none) (dpos 0 (some n) false) 12 13 14 (fullRun n xs i).D (fullRun n xs i).J (fullRun n xs i).V⟩⟩) (min xs.length 30) ?_ (fun i hi => ?_) ?_
  · exact clear_fre (by simp only [clear_nil, List.foldl_cons, List.foldl_nil, Option.some.injEq, LS, reduceCtorEq, reduceIte, Nat.reduceAdd] <;> rfl) (by rfl) (by simp only [f_law09_VaultFull_H0, List.all_cons, List.all_nil, noRef_v, noRef_dead, noRef_own, noRef_ptr, noRef_nil, Bool.and_true, Bool.true_and, Bool.and_self, List.contains_cons, List.contains_nil, Bool.or_false, Nat.reduceBEq, Bool.not_false, na]) (by rfl)
  · have hlt : (i : Int) < (xs.length : Int) := by omega
    have hlt2 : (i : Int) < 30 := by omega
    obtain ⟨x, hx⟩ : ∃ x, xs[i]? = some x := ⟨_, List.getElem?_eq_getElem (show i < xs.length by omega)⟩
    have ix : ∀ h, prim h (.indexAddr 1) [a, .v (.int .i64 (i : Int))] = some (elemPtr a 1 i, h) := fun h => (va h).index (lt_of_get hx)
    have ld : ∀ h, prim h (.load 1 false) [elemPtr a 1 i] = some (intAV x, h) := fun h => (va h).load1 (by rw [List.getElem?_map, hx]; rfl)
    have hk := umod_lt (c := x) (n := 150) (by omega)
    have I := inv i
    have I' := inv (i + 1)
    have hnx : fullRun n xs (i + 1) = fullStep n (umod x 150 + 1) (fullRun n xs i) := by
      show (match xs[i]? with | some x => _ | none => _) = _
      rw [hx]
    rw [hnx] at I' ⊢
    obtain ⟨k, hkk⟩ : ∃ k, k = umod x 150 + 1 := ⟨_, rfl⟩
    have ek : (1 : Int) + ((umod x 150 : Nat) : Int) = ((k : Nat) : Int) := by omega
    have ek2 : ((k : Int) + 45) = ((k + 45 : Nat) : Int) := by omega
    rw [← hkk] at I' ⊢
    generalize fullRun n xs i = s at *
    obtain ⟨D, J, V, u, c⟩ := s
    have I : FullInv n D J V u c := I
    have hzl : (zT k).length = k := by simp [zT]
    obtain ⟨sa, sb⟩ := full_step I n4 (b := zT k) (by omega) (by omega)
    rw [hzl] at sa sb
    have mb : prim ⟨[], lv (List.replicate 15 none) (dpos 0 (some n) false) 12 13 14 D J V⟩ (.makeSlice 4 1 1 [.int .u8 0]) [.v (.int .i64 (k : Int)), .v (.int .i64 (k : Int))] =
        some (.own (.l 4) k 0 k 1 (some k), ⟨[], lv [none, none, none, none, some (dBlk ((zT k).map byteAV) false false), none, none, none, none, none, none, none, none, none, none] (dpos 0 (some n) false) 12 13 14 D J V⟩) := make_bytes (site := 4) (k := k) rfl (by omega)
    have D4 : Dat [none, none, none, none, some (dBlk ((zT k).map byteAV) false false), none, none, none, none, none, none, none, none, none, none] := by
      intro B hB b e; subst e; simp at hB; subst hB; rfl
    have l4 := lk [none, none, none, none, some (dBlk ((zT k).map byteAV) false false), none, none, none, none, none, none, none, none, none, none] (by simp)
    have Ic := I.cnt; have Iu := I.used; have In := I.jn; have If := I.frm; have Il := I.le; have Icl := I.cle
    simp (disch := first | (simp only [DS, reduceCtorEq]; done) | omega) only [f_law09_VaultFull_L0, f_law09_VaultFull_H0, WS, St.guard, St.put, evalO, reduceCtorEq, reduceIte, Nat.reduceAdd, Nat.reduceEqDiff, (va _).lenSlice, goInt, hlt, hlt2, decide_true, ix, ld, intAV]
    refine (WP_p (x := .int .i64 (umod x 150 : Nat)) (by exact Mod_spec H.mod 150 rfl (by omega) (by omega)) (by exact gv)).2 ?_
    simp (disch := first | (simp only [DS, reduceCtorEq]; done) | omega) only [WS, St.guard, St.put, evalO, reduceCtorEq, reduceIte, Nat.reduceAdd, Nat.reduceEqDiff, vBin_add_i64, ek, ek2]
    rw [vBin_quo_i64 (z := 46) 46 rfl (by omega) (by omega)]
    have en : (k + 45) / 46 = needN k := rfl
    rw [en]
    have hnk : needN k ≤ 10 := by unfold needN; omega
    simp (disch := first | (simp only [DS, reduceCtorEq]; done) | omega) only [WS, St.guard, St.put, evalO, reduceCtorEq, reduceIte, Nat.reduceAdd, Nat.reduceEqDiff]
    refine (WR_eq mb).2 ?_
    simp (disch := first | (simp only [DS, reduceCtorEq]; done) | omega) only [WS, St.guard, St.put, evalO, reduceCtorEq, reduceIte, Nat.reduceAdd, Nat.reduceEqDiff]
    refine WP_of (by exact tAdd HV l4 (dat_good D4) I.z (by omega) (a := .own (.l 4) k 0 k 1 (some k)) (b := zT k) (by
      have := argV (G := []) l4 (k := 4) (b := zT k) (o := false) (cap := some k) (X := vob ((dpos 0 (some n) false).sh (List.length ([] : List (Option Blk)))).p (List.length ([] : List (Option Blk)) + 13) V) rfl (by refine ⟨?_, ?_, ?_, ?_, ?_, ?_⟩ <;> simp [dpos]) (by omega) (fun c hc => by cases hc; omega)
      rw [hzl] at this; exact this) (by rw [I.ep]; decide) (by omega) (by omega) (by omega) (by omega)) ?_
    have hq : vBin .quo (.int .i64 (n : Nat)) (.int .i64 2) = some (.int .i64 ((n / 2 : Nat))) := vBin_quo_i64 2 rfl (by omega) (by omega)
    by_cases hf : u + needN k ≤ n / 2
    · have q1 : (u : Int) + (needN k : Int) ≤ ((n / 2 : Nat) : Int) := by omega
      have q2 : (u : Int) + (needN k : Int) = ((u + needN k : Nat) : Int) := by omega
      have q3 : (c : Int) + 1 = ((c + 1 : Nat) : Int) := by omega
      have q1' : ((u + needN k : Nat) : Int) ≤ ((n / 2 : Nat) : Int) := by omega
      have eF : fullStep n k ⟨D, J, V, u, c⟩ = ⟨(V.add D J (zT k)).2.1, (V.add D J (zT k)).2.2.1, (V.add D J (zT k)).2.2.2, u + needN k, c + 1⟩ := if_pos hf
      obtain ⟨a1, I2⟩ := sa hf
      rw [eF, a1]
      generalize (V.add D J (zT k)).2 = R at *
      obtain ⟨D', J', V'⟩ := R
      simp only at I2 ⊢
      have I2u := I2.used; have I2c := I2.cnt; have I2l := I2.le; have I2cl := I2.cle
      simp (disch := first | (simp only [DS, reduceCtorEq]; done) | omega) only [WS, St.guard, St.put, evalO, reduceCtorEq, reduceIte, Nat.reduceAdd, Nat.reduceEqDiff, vBin_add_i64, hq, q2, q1', decide_true, Int.reduceBEq, beq_self_eq_true, Bool.not_true, bne_self_eq_false, q3]
      obtain ⟨m, cp, hR⟩ := tRecs (i := 5) (D := D') (J := J') (V := V') HV l4 (dat_good (G := []) D4) (by omega) (fun b hb => (I2.recs b hb).1) (fun b hb => by have := (I2.recs b hb).2; omega) (by omega) rfl
      have ls : ∀ h, prim h .lenSlice [.own (.l 5) m 0 (J'.recs.length - 1) 1 cp] = some (.v (.int .i64 (c + 1 : Nat)), h) := fun h => by rw [I2c]; rfl
      refine WP_of (by exact tUsed HV l4 (dat_good D4)) ?_
      rw [I2u]
      simp (disch := first | (simp only [DS, reduceCtorEq]; done) | omega) only [WS, St.guard, St.put, evalO, reduceCtorEq, reduceIte, Nat.reduceAdd, Nat.reduceEqDiff, bne_self_eq_false]
      refine WP_of (by exact hR) ?_
      simp (disch := first | (simp only [DS, reduceCtorEq]; done) | omega) only [WS, St.guard, St.put, evalO, reduceCtorEq, reduceIte, Nat.reduceAdd, Nat.reduceEqDiff, ls, bne_self_eq_false, vBin_add_i64]
      exact clear_fre (by simp only [clear_nil, List.foldl_cons, List.foldl_nil, Option.some.injEq, LS, reduceCtorEq, reduceIte, Nat.reduceAdd] <;> rfl) (by rfl) (by simp only [f_law09_VaultFull_H0, List.all_cons, List.all_nil, noRef_v, noRef_dead, noRef_own, noRef_ptr, noRef_nil, Bool.and_true, Bool.true_and, Bool.and_self, List.contains_cons, List.contains_nil, Bool.or_false, Nat.reduceBEq, Bool.not_false, na]) (by rfl)
    · have q1' : ¬ ((u + needN k : Nat) : Int) ≤ ((n / 2 : Nat) : Int) := by omega
      have q2 : (u : Int) + (needN k : Int) = ((u + needN k : Nat) : Int) := by omega
      have eF : fullStep n k ⟨D, J, V, u, c⟩ = ⟨D, J, V, u, c⟩ := if_neg hf
      have a1 := sb (by omega)
      rw [eF, a1]
      obtain ⟨D', hD'⟩ : ∃ D', D' = D := ⟨_, rfl⟩
      obtain ⟨J', hJ'⟩ : ∃ J', J' = J := ⟨_, rfl⟩
      obtain ⟨V', hV'⟩ : ∃ V', V' = V := ⟨_, rfl⟩
      rw [← hD', ← hJ', ← hV'] at I ⊢
      have I2 := I
      have I2u := I2.used; have I2c := I2.cnt; have I2l := I2.le; have I2cl := I2.cle
      simp (disch := first | (simp only [DS, reduceCtorEq]; done) | omega) only [WS, St.guard, St.put, evalO, reduceCtorEq, reduceIte, Nat.reduceAdd, Nat.reduceEqDiff, vBin_add_i64, hq, q2, q1', decide_false, Int.reduceBEq, Int.reduceBNe, beq_self_eq_true, Bool.not_true, bne_self_eq_false]
      obtain ⟨m, cp, hR⟩ := tRecs (i := 5) (D := D') (J := J') (V := V') HV l4 (dat_good (G := []) D4) (by omega) (fun b hb => (I2.recs b hb).1) (fun b hb => by have := (I2.recs b hb).2; omega) (by omega) rfl
      have ls : ∀ h, prim h .lenSlice [.own (.l 5) m 0 (J'.recs.length - 1) 1 cp] = some (.v (.int .i64 (c : Nat)), h) := fun h => by rw [I2c]; rfl
      refine WP_of (by exact tUsed HV l4 (dat_good D4)) ?_
      rw [I2u]
      simp (disch := first | (simp only [DS, reduceCtorEq]; done) | omega) only [WS, St.guard, St.put, evalO, reduceCtorEq, reduceIte, Nat.reduceAdd, Nat.reduceEqDiff, bne_self_eq_false]
      refine WP_of (by exact hR) ?_
      simp (disch := first | (simp only [DS, reduceCtorEq]; done) | omega) only [WS, St.guard, St.put, evalO, reduceCtorEq, reduceIte, Nat.reduceAdd, Nat.reduceEqDiff, ls, bne_self_eq_false, vBin_add_i64]
      exact clear_fre (by simp only [clear_nil, List.foldl_cons, List.foldl_nil, Option.some.injEq, LS, reduceCtorEq, reduceIte, Nat.reduceAdd] <;> rfl) (by rfl) (by simp only [f_law09_VaultFull_H0, List.all_cons, List.all_nil, noRef_v, noRef_dead, noRef_own, noRef_ptr, noRef_nil, Bool.and_true, Bool.true_and, Bool.and_self, List.contains_cons, List.contains_nil, Bool.or_false, Nat.reduceBEq, Bool.not_false, na]) (by rfl)
  · have hend : (¬ ((min xs.length 30 : Nat) : Int) < (xs.length : Int)) ∨ (((min xs.length 30 : Nat) : Int) < (xs.length : Int) ∧ ¬ ((min xs.length 30 : Nat) : Int) < 30) := by omega
    have I := inv (min xs.length 30)
    generalize fullRun n xs (min xs.length 30) = s at *
    obtain ⟨D, J, V, u, c⟩ := s
    have I : FullInv n D J V u c := I
    generalize min xs.length 30 = mm at *
    have hzl : (zT bs).length = bs := by simp [zT]
    obtain ⟨L6, hL6⟩ : ∃ L6 : List (Option Blk), L6 = [none, none, none, none, none, none, some (dBlk ((zT bs).map byteAV) false false), none, none, none, none, none, none, none, none] := ⟨_, rfl⟩
    have mb : prim ⟨[], lv (List.replicate 15 none) (dpos 0 (some n) false) 12 13 14 D J V⟩ (.makeSlice 6 1 1 [.int .u8 0]) [.v (.int .i64 (bs : Int)), .v (.int .i64 (bs : Int))] =
        some (.own (.l 6) bs 0 bs 1 (some bs), ⟨[], lv L6 (dpos 0 (some n) false) 12 13 14 D J V⟩) := by
      rw [hL6]; exact make_bytes (site := 6) (k := bs) rfl (by omega)
    have D6 : Dat L6 := by
      rw [hL6]; intro B hB b e; subst e; simp at hB; subst hB; rfl
    have l6 := lk L6 (by rw [hL6]; simp)
    obtain ⟨L', hL'⟩ : ∃ L', L' = (vt L6 (dpos 0 (some n) false) 12 13 J).set 14 (vS (dpos 0 (some n) false) 13 V) := ⟨_, rfl⟩
    have e' : lv L6 (dpos 0 (some n) false) 12 13 14 D J V = lset L' (dpos 0 (some n) false) D := by rw [hL']; exact lv_vt l6
    have hlen : L'.length = 15 := by rw [hL', hL6]; simp [vt]
    have gL : Good ⟨[], L'⟩ := by
      rw [hL']
      exact Good.setB (Good.setB (Good.setO (h := ⟨[], L6⟩) (dat_good D6) (fun b e => by cases e; rfl)) (sBlk_good (by rw [jC_labs]; rfl))) (sBlk_good (by rw [vC_labs]; rfl))
    have bo : BOk L' (dpos 0 (some n) false) 7 8 9 14 n := by
      refine ⟨lok1 le_some (by omega) (by omega) (by omega), by refine ⟨?_, ?_, ?_, ?_, ?_, ?_⟩ <;> simp [dpos], by refine ⟨?_, ?_, ?_, ?_, ?_, ?_⟩ <;> simp [dpos], by omega, ?_, ?_, ?_, by omega⟩ <;> (rw [hL', hL6]; rfl)
    have hv : L'[14]? = some (vS (dpos 0 (some n) false) 13 V) := by rw [hL', hL6]; rfl
    have k6 : L'[6]? = some (some (dBlk ((zT bs).map byteAV) false false)) := by rw [hL', hL6]; rfl
    have zb := I.z.b
    have hV := I.vd
    have cl := compact_law (prog := prog) (G := []) (nm := "(*haberdash/vault.Vault).Compact#VaultFull") (nb := "(*haberdash/vault.Vault).begin#VaultFull") (P := dpos 0 (some n) false) (D := D) (L := L') (p0 := 13) (V := V) (a := .own (.l 6) bs 0 bs 1 (some bs)) (b := zT bs) HV (by rw [← vCompact_full]; exact H.compactF) (by rw [← vBegin_full]; exact H.beginF) (by rw [zb]; exact bo) gL (by omega) (by rw [zb]; exact I.z) (by omega) I.live.1 (by omega) hv (by rw [hV]) (by rw [hV]; exact Nat.zero_le _) (by rw [hV]; decide) (by omega) (fun h => by rw [hzl]; rfl) (fun M N X Lx hM => by
      have g6 : M[6]? = some (some (dBlk ((zT bs).map byteAV) false false)) := by rw [hM 6 (by simp [dpos])]; exact k6
      have g : (lj M (dpos 0 (some n) false) 7 8 D (recB N.recs) (jC .l (dpos 0 (some n) false).p 7 N))[6]? = some (some (dBlk ((zT bs).map byteAV) false false)) := by
        rw [lj_off (by refine ⟨?_, ?_, ?_, ?_, ?_, ?_⟩ <;> simp [dpos])]; exact g6
      have gi : (⟨[], lj M (dpos 0 (some n) false) 7 8 D (recB N.recs) (jC .l (dpos 0 (some n) false).p 7 N)⟩ : Hp).into[6]? = some (some (dBlk ((zT bs).map byteAV) false false)) := into_at (G := []) g rfl
      have := view_o (G := (⟨[], lj M (dpos 0 (some n) false) 7 8 D (recB N.recs) (jC .l (dpos 0 (some n) false).p 7 N)⟩ : Hp).into ++ X) (L := Lx) (k := 6) (b := zT bs) (o := false) (cap := some bs) (by rw [List.getElem?_append_left (lt_of_get gi)]; exact gi) (fun c hc => by cases hc; omega)
      rw [hzl] at this ⊢
      exact this)
    rw [zb, hzl] at cl
    have hnd : needN (1 + bs) = bs / 46 + 1 := by unfold needN; omega
    have hq : vBin .quo (.int .i64 (n : Nat)) (.int .i64 2) = some (.int .i64 ((n / 2 : Nat))) := vBin_quo_i64 2 rfl (by omega) (by omega)
    have hq46 : vBin .quo (.int .i64 (bs : Nat)) (.int .i64 46) = some (.int .i64 ((bs / 46 : Nat))) := vBin_quo_i64 46 rfl (by omega) (by omega)
    have e1 : ((bs / 46 : Nat) : Int) + 1 = ((bs / 46 + 1 : Nat) : Int) := by omega
    have Iu := I.used; have Ic := I.cnt; have Il := I.le; have Icl := I.cle
    by_cases hf : bs / 46 + 1 ≤ n / 2
    · have hf' : ((bs / 46 + 1 : Nat) : Int) ≤ ((n / 2 : Nat) : Int) := by omega
      obtain ⟨D', e, lD, zD⟩ := bg_live (D := D) (n := n) (frm := (1 - V.half) * (n / 2)) (nn := n / 2) (ep := V.ep + 1#32) (b := zT bs) I.live I.z (by omega) (by omega) (by rw [hzl, hnd]; exact hf) (by rw [hV]; show (1 - 0) * (n / 2) + n / 2 ≤ n; omega)
      have ev := cl.2 (by omega) (by rw [e])
      rw [e] at ev
      obtain ⟨J', hJ'⟩ : ∃ J', J' = (newJ ((1 - V.half) * (n / 2)) (n / 2) (V.ep + 1#32)).note (1 :: zT bs) (needN (1 + (zT bs).length)) := ⟨_, rfl⟩
      have Ju : J'.used = bs / 46 + 1 := by rw [hJ', hzl, hnd]; show 0 + (bs / 46 + 1) = _; omega
      have Jr : J'.recs = [1 :: zT bs] := by rw [hJ']; rfl
      rw [← hJ'] at ev
      obtain ⟨L9, hL9⟩ : ∃ L9, L9 = L'.set 9 (bB (zT bs)) := ⟨_, rfl⟩
      have gL9 : Good ⟨[], L9⟩ := by rw [hL9]; exact Good.setO (h := ⟨[], L'⟩) gL bB_db
      have l9 : LVOk L9 (dpos 0 (some n) false) 7 8 14 n := lvok1 le_some (by omega) (by omega) (by omega) (by rw [hL9, List.length_set, hlen]; omega)
      simp only at ev
      rw [← hL9, lv_of l9, ← e'] at ev
      obtain ⟨m, cp, hR⟩ := tRecs (i := 11) (D := D') (J := J') (V := ⟨1 - V.half, V.ep + 1#32, false⟩) HV l9 gL9 (by rw [Jr]; simp) (by rw [Jr]; intro b hb; simp only [List.mem_singleton] at hb; subst hb; simp) (by rw [Jr]; intro b hb; simp only [List.mem_singleton] at hb; subst hb; simp only [List.length_cons, hzl]; omega) (by rw [Jr]; simp only [List.length_cons, List.length_nil]; omega) (by rw [hL9, hL', hL6]; rfl)
      have ls : ∀ h, prim h .lenSlice [.own (.l 11) m 0 (J'.recs.length - 1) 1 cp] = some (.v (.int .i64 0), h) := fun h => by rw [Jr]; rfl
      rcases hend with q | ⟨q, q2⟩
      case' inl => simp (disch := first | (simp only [DS, reduceCtorEq]; done) | omega) only [f_law09_VaultFull_L0, f_law09_VaultFull_H0, WS, St.guard, St.put, evalO, reduceCtorEq, reduceIte, Nat.reduceAdd, Nat.reduceEqDiff, (va _).lenSlice, goInt, q, decide_false]
      case' inr => simp (disch := first | (simp only [DS, reduceCtorEq]; done) | omega) only [f_law09_VaultFull_L0, f_law09_VaultFull_H0, WS, St.guard, St.put, evalO, reduceCtorEq, reduceIte, Nat.reduceAdd, Nat.reduceEqDiff, (va _).lenSlice, goInt, q, q2, decide_false, decide_true]
      all_goals
        refine (WR_eq mb).2 ?_
        simp (disch := first | (simp only [DS, reduceCtorEq]; done) | omega) only [WS, St.guard, St.put, evalO, reduceCtorEq, reduceIte, Nat.reduceAdd, Nat.reduceEqDiff]
        refine WP_of ev ?_
        simp (disch := first | (simp only [DS, reduceCtorEq]; done) | omega) only [WS, St.guard, St.put, evalO, reduceCtorEq, reduceIte, Nat.reduceAdd, Nat.reduceEqDiff, hq, hq46, vBin_add_i64, e1, hf', decide_true, Int.reduceBEq, Int.reduceBNe, beq_self_eq_true, bne_self_eq_false, Bool.not_true, Bool.not_false]
        refine WP_of (by exact tUsed HV l9 gL9) ?_
        rw [Ju]
        simp (disch := first | (simp only [DS, reduceCtorEq]; done) | omega) only [WS, St.guard, St.put, evalO, reduceCtorEq, reduceIte, Nat.reduceAdd, Nat.reduceEqDiff, beq_self_eq_true, hq46, vBin_add_i64, e1]
        refine WP_of (by exact hR) ?_
        simp (disch := first | (simp only [DS, reduceCtorEq]; done) | omega) only [WS, St.guard, St.put, evalO, reduceCtorEq, reduceIte, Nat.reduceAdd, Nat.reduceEqDiff, ls, Int.reduceBEq, beq_self_eq_true, fin_tmp, leave_v]
        simp
    · have hf' : ¬ ((bs / 46 + 1 : Nat) : Int) ≤ ((n / 2 : Nat) : Int) := by omega
      have ev := cl.1 (by omega)
      rw [← e'] at ev
      obtain ⟨m, cp, hR⟩ := tRecs (i := 10) (D := D) (J := J) (V := V) HV l6 (dat_good (G := []) D6) (by omega) (fun b hb => (I.recs b hb).1) (fun b hb => by have := (I.recs b hb).2; omega) (by omega) (by rw [hL6]; rfl)
      have ls : ∀ h, prim h .lenSlice [.own (.l 10) m 0 (J.recs.length - 1) 1 cp] = some (.v (.int .i64 (c : Nat)), h) := fun h => by rw [Ic]; rfl
      rcases hend with q | ⟨q, q2⟩
      case' inl => simp (disch := first | (simp only [DS, reduceCtorEq]; done) | omega) only [f_law09_VaultFull_L0, f_law09_VaultFull_H0, WS, St.guard, St.put, evalO, reduceCtorEq, reduceIte, Nat.reduceAdd, Nat.reduceEqDiff, (va _).lenSlice, goInt, q, decide_false]
      case' inr => simp (disch := first | (simp only [DS, reduceCtorEq]; done) | omega) only [f_law09_VaultFull_L0, f_law09_VaultFull_H0, WS, St.guard, St.put, evalO, reduceCtorEq, reduceIte, Nat.reduceAdd, Nat.reduceEqDiff, (va _).lenSlice, goInt, q, q2, decide_false, decide_true]
      all_goals
        refine (WR_eq mb).2 ?_
        simp (disch := first | (simp only [DS, reduceCtorEq]; done) | omega) only [WS, St.guard, St.put, evalO, reduceCtorEq, reduceIte, Nat.reduceAdd, Nat.reduceEqDiff]
        refine WP_of ev ?_
        simp (disch := first | (simp only [DS, reduceCtorEq]; done) | omega) only [WS, St.guard, St.put, evalO, reduceCtorEq, reduceIte, Nat.reduceAdd, Nat.reduceEqDiff, hq, hq46, vBin_add_i64, e1, hf', decide_false, Int.reduceBEq, Int.reduceBNe, beq_self_eq_true, bne_self_eq_false, Bool.not_true, Bool.not_false]
        refine WP_of (by exact tUsed HV l6 (dat_good D6)) ?_
        rw [Iu]
        simp (disch := first | (simp only [DS, reduceCtorEq]; done) | omega) only [WS, St.guard, St.put, evalO, reduceCtorEq, reduceIte, Nat.reduceAdd, Nat.reduceEqDiff, bne_self_eq_false]
        refine WP_of (by exact hR) ?_
        simp (disch := first | (simp only [DS, reduceCtorEq]; done) | omega) only [WS, St.guard, St.put, evalO, reduceCtorEq, reduceIte, Nat.reduceAdd, Nat.reduceEqDiff, ls, bne_self_eq_false, fin_tmp, leave_v, Bool.not_false]
        simp
end Go.AM
