import Derived.Test.YtdcnjckkcfoppaaJourG
import Derived.Test.YtdcnjckkcfoppaaJourC
import Derived.Test.YtdcnjckkcfoppaaVaultA
import Derived.Test.YtdcnjckkcfoppaaJourB
set_option linter.unusedVariables false
set_option linter.unusedSimpArgs false
namespace Go.AM
variable {prog : String → Option IFn}
variable {G L : List (Option Blk)} {P : DPos} {D : DskD} {n q p pv : Nat} {B : Option Blk} {cs : List AV} {J : JD}
structure VaultLib (prog : String → Option IFn) : Prop extends JourLib prog where
  vopen : prog "haberdash/vault.Open" = some f_vault_Open
  vbeginO : prog "(*haberdash/vault.Vault).begin#Open" = some f___vault_Vault__begin_Open
  vadd : prog "(*haberdash/vault.Vault).Add" = some f___vault_Vault__Add
  vused : prog "(*haberdash/vault.Vault).Used" = some f___vault_Vault__Used
  vhalf : prog "(*haberdash/vault.Vault).Half" = some f___vault_Vault__Half
  vrecs : prog "(*haberdash/vault.Vault).Records" = some f___vault_Vault__Records
  vbased : prog "haberdash/vault.based" = some f_vault_based
  vgreat : prog "haberdash/vault.greatest" = some f_vault_greatest
  vcounts : prog "haberdash/vault.counts" = some f_vault_counts
  clonerr : prog "slices.Clone[[][]byte,[]byte]" = some f_slices_Clone_____byte___byte_
  vmark : prog "haberdash/leaf.Mark" = some f_leaf_Mark
structure VD where
  half : Nat
  ep : BitVec 32
  dead : Bool
def vC (f : Nat → Lab) (pd pj : Nat) (V : VD) : List AV := [.ptr (f pd) 5 0, .ptr (f pj) 9 0, .v (.int .i64 (V.half : Nat)), .v (u32 V.ep), .v (.bool V.dead)]
def vob (pd pj : Nat) (V : VD) : Option Blk := some (sBlk (vC .o pd pj V) false)
def vj (G : List (Option Blk)) (P : DPos) (q p pv : Nat) (D : DskD) (J : JD) (V : VD) : List (Option Blk) := dj (G.set pv (vob P.p p V)) P q p D (recB J.recs) (jC .o P.p q J)
structure VOk (g : Nat) (P : DPos) (q p pv n : Nat) : Prop where
  o : OOk g P q p n
  v : pv < g
  f : Off P q p pv
theorem VOk.s (h : VOk G.length P q p pv n) {X : Option Blk} : OOk (G.set pv X).length P q p n := by rw [List.length_set]; exact h.o
variable {V : VD}
theorem vj_len : (vj G P q p pv D J V).length = G.length := by unfold vj; rw [dj_len, List.length_set]
theorem vj_v (h : VOk G.length P q p pv n) : (vj G P q p pv D J V)[pv]? = some (vob P.p p V) := by
  unfold vj; rw [dj_off h.f, List.getElem?_set_self h.v]
theorem vj_ld (h : VOk G.length P q p pv n) {i : Nat} {a : AV} (ha : (vC .o P.p p V)[i]? = some a) : prim ⟨vj G P q p pv D J V, L⟩ (.load 1 false) [.ptr (.o pv) 5 i] = some (a, ⟨vj G P q p pv D J V, L⟩) := by
  have hi : i < 5 := lt_of_get ha
  rw [px_load_o, vj_v h]
  show (if (vC .o P.p p V).length = 5 ∧ i + 1 ≤ 5 then (whole false (((vC .o P.p p V).drop i).take 1)).map fun a => (a, _) else none) = _
  refine (if_pos ⟨rfl, by omega⟩).trans ?_
  rw [List.take_one, List.head?_drop, ha]; rfl
theorem vj_set (h : VOk G.length P q p pv n) {X : Option Blk} : (vj G P q p pv D J V).set pv X = dj (G.set pv X) P q p D (recB J.recs) (jC .o P.p q J) := by
  unfold vj; rw [dj_setO h.f, List.set_set]
theorem vj_st4 (h : VOk G.length P q p pv n) {x : Bool} : prim ⟨vj G P q p pv D J V, L⟩ (.store 1 false) [.ptr (.o pv) 5 4, .v (.bool x)] = some (.v undef, ⟨vj G P q p pv D J { V with dead := x }, L⟩) := by
  rw [px_store, cells_bool]
  simp only [Option.bind_some, Hp.mayFreeze, Bool.false_eq_true, if_false, Hp.get, vj_v h, Option.join_some, vob]
  refine (if_pos ⟨rfl, rfl, rfl, by omega, rfl⟩).trans ?_
  have e : (vj G P q p pv D J V).set pv (some (sBlk (vC .o P.p p { V with dead := x }) false)) = vj G P q p pv D J { V with dead := x } := vj_set h
  rw [← e]
  rfl
theorem VHalf_spec (H : VaultLib prog) (h : VOk G.length P q p pv n) : Ev prog (.call "(*haberdash/vault.Vault).Half" [.ptr (.o pv) 5 0] (vj G P q p pv D J V)) (.ret (.v (.int .i64 (V.half : Nat))) (vj G P q p pv D J V)) := by
  refine call_of_fin H.vhalf ?_
  simp only [f___vault_Vault__Half_B, enter, List.length_cons, List.length_nil, List.replicate, Nat.reduceAdd, Nat.reduceSub, List.cons_append, List.nil_append]
  have l2 : ∀ L, prim ⟨vj G P q p pv D J V, L⟩ (.load 1 false) [.ptr (.o pv) 5 2] = some (.v (.int .i64 (V.half : Nat)), ⟨vj G P q p pv D J V, L⟩) := fun L => vj_ld h rfl
  simp (disch := first | (simp only [DS, reduceCtorEq]; done) | omega) only [WS, St.guard, St.put, evalO, reduceCtorEq, reduceIte, Nat.reduceAdd, Nat.reduceEqDiff, isNilV, Hp.isNil, l2, fin_tmp, leave_v]
  simp
theorem VUsed_spec (H : VaultLib prog) (h : VOk G.length P q p pv n) : Ev prog (.call "(*haberdash/vault.Vault).Used" [.ptr (.o pv) 5 0] (vj G P q p pv D J V)) (.ret (.v (.int .i64 (J.used : Nat))) (vj G P q p pv D J V)) := by
  refine call_of_fin H.vused ?_
  simp only [f___vault_Vault__Used_B, enter, List.length_cons, List.length_nil, List.replicate, Nat.reduceAdd, Nat.reduceSub, List.cons_append, List.nil_append]
  have l1 : ∀ L, prim ⟨vj G P q p pv D J V, L⟩ (.load 1 false) [.ptr (.o pv) 5 1] = some (.ptr (.o p) 9 0, ⟨vj G P q p pv D J V, L⟩) := fun L => vj_ld h rfl
  simp (disch := first | (simp only [DS, reduceCtorEq]; done) | omega) only [WS, St.guard, St.put, evalO, reduceCtorEq, reduceIte, Nat.reduceAdd, Nat.reduceEqDiff, isNilV, Hp.isNil, l1]
  refine (WP_p (x := .int .i64 (J.used : Nat)) (by rw [into_nil]; exact Used_spec H.toJourLib h.s) (by exact trivial)).2 ?_
  simp (disch := first | (simp only [DS, reduceCtorEq]; done) | omega) only [WS, St.guard, St.put, evalO, reduceCtorEq, reduceIte, Nat.reduceAdd, Nat.reduceEqDiff, fin_tmp, leave_v]
  simp
def VD.add (V : VD) (D : DskD) (J : JD) (b : Txt) : Int × DskD × JD × VD :=
  if V.dead then (9, D, J, V) else ((J.add D b).1, (J.add D b).2.1, (J.add D b).2.2, { V with dead := (J.add D b).1 == 9 })
theorem VAdd_spec (H : VaultLib prog) (h : VOk G.length P q p pv n) (z : Siz D n) (hN : n ≤ 20000) {a : AV} {b : Txt} (A : Arg (G.set pv (vob P.p p V)) P q p a b) (he : J.ep ≠ 0#32) (hf : J.frm + J.n ≤ 20000) (hu : J.used ≤ J.n) (hr : J.recs.length ≤ J.used) (hbl : b.length < 2 ^ 62) :
    Ev prog (.call "(*haberdash/vault.Vault).Add" [.ptr (.o pv) 5 0, a] (vj G P q p pv D J V)) (.ret (.v (.int .i64 (V.add D J b).1)) (vj G P q p pv (V.add D J b).2.1 (V.add D J b).2.2.1 (V.add D J b).2.2.2)) := by
  refine call_of_fin H.vadd ?_
  simp only [f___vault_Vault__Add_B, enter, List.length_cons, List.length_nil, List.replicate, Nat.reduceAdd, Nat.reduceSub, List.cons_append, List.nil_append]
  have l4 : ∀ L, prim ⟨vj G P q p pv D J V, L⟩ (.load 1 false) [.ptr (.o pv) 5 4] = some (.v (.bool V.dead), ⟨vj G P q p pv D J V, L⟩) := fun L => vj_ld h rfl
  have l1 : ∀ L, prim ⟨vj G P q p pv D J V, L⟩ (.load 1 false) [.ptr (.o pv) 5 1] = some (.ptr (.o p) 9 0, ⟨vj G P q p pv D J V, L⟩) := fun L => vj_ld h rfl
  unfold VD.add
  simp (disch := first | (simp only [DS, reduceCtorEq]; done) | omega) only [WS, St.guard, St.put, evalO, reduceCtorEq, reduceIte, Nat.reduceAdd, Nat.reduceEqDiff, isNilV, Hp.isNil, l4]
  cases hd : V.dead with
  | true =>
    simp (disch := first | (simp only [DS, reduceCtorEq]; done) | omega) only [WS, St.guard, St.put, evalO, reduceCtorEq, reduceIte, Nat.reduceAdd, Nat.reduceEqDiff, fin_tmp, leave_v]
    simp
  | false =>
    simp (disch := first | (simp only [DS, reduceCtorEq]; done) | omega) only [WS, St.guard, St.put, evalO, reduceCtorEq, reduceIte, Nat.reduceAdd, Nat.reduceEqDiff, l1]
    refine WP_of (a := .v (.int .i64 (J.add D b).1)) (h' := ⟨vj G P q p pv (J.add D b).2.1 (J.add D b).2.2 V, []⟩) (by
      refine opJ0 rfl (fun g => by simp only [List.map_cons, List.map_nil, A.up]; rfl) ?_
      exact Add_spec H.toJourLib h.s z hN A he hf hu hr hbl) ?_
    simp (disch := first | (simp only [DS, reduceCtorEq]; done) | omega) only [WS, St.guard, St.put, evalO, reduceCtorEq, reduceIte, Nat.reduceAdd, Nat.reduceEqDiff, vj_st4 h, fin_tmp, leave_v]
    simp
end Go.AM
namespace Go.AM
variable {prog : String → Option IFn}
variable {G L : List (Option Blk)} {P : DPos} {D : DskD} {n q p pv : Nat} {B : Option Blk} {cs : List AV} {J : JD} {V : VD}
def markS (s : Sec) : BitVec 32 := maxU (get4 s.1 0) (get4 s.1 60)
def grF (A : List Sec) : Nat → BitVec 32
  | 0 => 0#32
  | i + 1 => maxU (grF A i) (markS (secAt A (i : Nat)))
theorem vBin_eq_max {x : BitVec 32} : vBin .eql (u32 x) (.int .u32 4294967295) = some (.bool (decide (x = BitVec.allOnes 32))) := by
  have : vBin .eql (u32 x) (.int .u32 4294967295) = vBin .eql (u32 x) (u32 (BitVec.allOnes 32)) := rfl
  rw [this, vBin_eql_u32]
  congr 2
theorem greatest_spec (H : VaultLib prog) (h : P.Ok G.length D.b.length) (ho : D.off = false) (hl : D.b.length ≤ 20000) :
    Ev prog (.call "haberdash/vault.greatest" [.ptr (.o P.p) 5 0] (dset G P D)) (.ret (.tup (if grF D.b D.b.length = BitVec.allOnes 32 then [.v (u32 0#32), .v (.int .i64 6)] else [.v (u32 (grF D.b D.b.length)), .v (.int .i64 0)])) (dset G P D)) := by
  refine call_of_fin H.vgreat ?_
  have HD := H.toDiskLib
  simp only [f_vault_greatest_B, enter, List.length_cons, List.length_nil, List.replicate, Nat.reduceAdd, Nat.reduceSub, List.cons_append, List.nil_append]
  have d1 : ∀ {B}, DB B → Dat [B] := fun hB => by intro C hC b e; simp at hC; subst hC; exact hB b e
  have gd : ∀ {B}, DB B → Good ⟨dset G P D, [B]⟩ := fun hB => goodX (d1 hB)
  have il : ∀ {B}, DB B → (⟨dset G P D, [B]⟩ : Hp).into = dset (G ++ [B]) P D := fun hB => by rw [into_dat (d1 hB), dset_app h]
  have np : ∀ ks, noRef ks (.ptr (.o P.p) 5 0) = true := fun ks => by simp [noRef, AV.labs, labNot]
  have z0 : (.int .u32 0 : Value) = u32 0#32 := rfl
  rw [z0]
  simp (disch := first | (simp only [DS, reduceCtorEq]; done) | omega) only [WS, St.guard, St.put, evalO, reduceCtorEq, reduceIte, Nat.reduceAdd, Nat.reduceEqDiff]
  refine (WP_p (x := .int .i64 (D.b.length : Nat)) (by rw [il DB.z]; exact Len_spec HD h.app) (by exact gd DB.z)).2 ?_
  simp (disch := first | (simp only [DS, reduceCtorEq]; done) | omega) only [WS, St.guard, St.put, evalO, reduceCtorEq, reduceIte, Nat.reduceAdd, Nat.reduceEqDiff]
  refine WC_count (fun i => ⟨f_vault_greatest_H0 (.ptr (.o P.p) 5 0) (.v (u32 (grF D.b i))) (.v (.int .i64 (D.b.length : Nat))) (.v (.int .i64 (i : Nat))), ⟨dset G P D, [none]⟩⟩) D.b.length ?_ (fun i hi => ?_) ?_
  · exact clear_fre (by simp only [clear_nil, List.foldl_cons, List.foldl_nil, Option.some.injEq, LS, reduceCtorEq, reduceIte, Nat.reduceAdd] <;> rfl) (by rfl) (by simp only [f_vault_greatest_H0, List.all_cons, List.all_nil, noRef_v, noRef_dead, noRef_own, noRef_ptr, noRef_nil, Bool.and_true, Bool.true_and, Bool.and_self, List.contains_cons, List.contains_nil, Bool.or_false, Nat.reduceBEq, Bool.not_false, np]) (by rfl)
  · have hlt : (i : Int) < (D.b.length : Int) := by omega
    have hm : mayE D (i : Nat) = 0 := mayE_on ho hi
    have hrv : readV D (i : Nat) = secAt D.b (i : Nat) := by unfold readV; rw [if_pos hm]
    obtain ⟨w, hw⟩ : ∃ w, w = secAt D.b (i : Nat) := ⟨_, rfl⟩
    have hg : grF D.b (i + 1) = maxU (grF D.b i) (markS w) := by rw [hw]; rfl
    have al : prim ⟨dset G P D, [none]⟩ (.alloc 0 zeros64 []) [] = some (.ptr (.l 0) 64 0, ⟨dset G P D, [some (dBlk (zs64.map byteAV) false false)]⟩) := alloc_zeros rfl
    have st : prim ⟨dset G P D, [some (dBlk (zs64.map byteAV) false false)]⟩ (.store 64 false) [.ptr (.l 0) 64 0, .agg (w.1.map byteAV)] = some (.v undef, ⟨dset G P D, [some (dBlk (w.1.map byteAV) false false)]⟩) :=
      store_all (L := [some (dBlk (zs64.map byteAV) false false)]) (j := 0) rfl rfl (by rw [List.length_map]; exact w.2) bytes_lfs
    have ls : prim ⟨dset G P D, [some (dBlk (w.1.map byteAV) false false)]⟩ (.load 64 true) [.ptr (.l 0) 64 0] = some (.agg (w.1.map byteAV), ⟨dset G P D, [some (dBlk (w.1.map byteAV) false false)]⟩) := load_sec (L := [some (dBlk (w.1.map byteAV) false false)]) (j := 0) rfl w.2
    simp (disch := first | (simp only [DS, reduceCtorEq]; done) | omega) only [f_vault_greatest_L0, f_vault_greatest_H0, WS, St.guard, St.put, evalO, reduceCtorEq, reduceIte, Nat.reduceAdd, Nat.reduceEqDiff, hlt, decide_true]
    refine WP_of (a := .tup [.agg (w.1.map byteAV), .v (.int .i64 0)]) (h' := ⟨dset G P D, [none]⟩) (by
      refine op_turn ⟨dset G P D, [none]⟩ ?_ (by simp [AV.lf, AV.lf.lfs, bytes_lfs]) rfl rfl (gd DB.z) (gd DB.z)
      rw [il DB.z, hw, ← hrv]
      have := Read_op HD (h.app (X := [none])) (at' := (i : Nat))
      rw [hm] at this
      exact this) ?_
    simp (disch := first | (simp only [DS, reduceCtorEq]; done) | omega) only [WS, St.guard, St.put, evalO, reduceCtorEq, reduceIte, Nat.reduceAdd, Nat.reduceEqDiff, al, st, Int.reduceBNe, ls]
    refine (WP_p (x := u32 (markS w)) (by
      simp only [List.map_cons, List.map_nil, ren_sec]
      exact Mark_spec H.vmark H.get w.2) (by exact gd DB.d)).2 ?_
    simp (disch := first | (simp only [DS, reduceCtorEq]; done) | omega) only [WS, St.guard, St.put, evalO, reduceCtorEq, reduceIte, Nat.reduceAdd, Nat.reduceEqDiff, max_u32, vBin_add_i64]
    rw [hg]
    exact clear_fre (by simp only [clear_nil, List.foldl_cons, List.foldl_nil, Option.some.injEq, LS, reduceCtorEq, reduceIte, Nat.reduceAdd] <;> rfl) (by rfl) (by simp only [f_vault_greatest_H0, List.all_cons, List.all_nil, noRef_v, noRef_dead, noRef_own, noRef_ptr, noRef_nil, Bool.and_true, Bool.true_and, Bool.and_self, List.contains_cons, List.contains_nil, Bool.or_false, Nat.reduceBEq, Bool.not_false, np]) (by rfl)
  · simp (disch := first | (simp only [DS, reduceCtorEq]; done) | omega) only [f_vault_greatest_L0, f_vault_greatest_H0, WS, St.guard, St.put, evalO, reduceCtorEq, reduceIte, Nat.reduceAdd, Nat.reduceEqDiff, Int.lt_irrefl, decide_false, vBin_eq_max]
    by_cases hM : grF D.b D.b.length = BitVec.allOnes 32
    · simp (disch := first | (simp only [DS, reduceCtorEq]; done) | omega) only [WS, St.guard, St.put, evalO, reduceCtorEq, reduceIte, Nat.reduceAdd, Nat.reduceEqDiff, hM, decide_true, fin_tmp2]
      refine ⟨by simp, ?_⟩
      exact leave_lf rfl
    · simp (disch := first | (simp only [DS, reduceCtorEq]; done) | omega) only [WS, St.guard, St.put, evalO, reduceCtorEq, reduceIte, Nat.reduceAdd, Nat.reduceEqDiff, hM, decide_false, fin_tmp2]
      refine ⟨by simp, ?_⟩
      exact leave_lf rfl
theorem based_spec (H : VaultLib prog) {a : AV} {b : Txt} (va : ∀ X L, View ⟨G ++ X, L⟩ a 1 b.length (b.map byteAV)) (hb : b.length < 2 ^ 40) :
    Ev prog (.call "haberdash/vault.based" [a] G) (.ret (if b = [] then .own (.o G.length) 1 0 1 1 (some 1) else .own (.o G.length) ((1 :: b).length * 1) 0 (1 :: b).length 1 none) (G ++ [if b = [] then some (dBlk [byteAV 1] false false) else some (dBlk ((1 :: b).map byteAV) true false)])) := by
  have hroom : room = 140737488355328 := rfl
  have v : ∀ L, View ⟨G, L⟩ a 1 b.length (b.map byteAV) := fun L => by have := va [] L; rwa [List.append_nil] at this
  refine call_of_fin H.vbased ?_
  simp only [f_vault_based_B, enter, List.length_cons, List.length_nil, List.replicate, Nat.reduceAdd, Nat.reduceSub, List.cons_append, List.nil_append]
  simp (disch := first | (simp only [DS, reduceCtorEq]; done) | omega) only [WS, St.guard, St.put, evalO, reduceCtorEq, reduceIte, Nat.reduceAdd, Nat.reduceEqDiff]
  refine (WR_eq (build1 (n := 1) (xs := [byteAV 1]) (by rfl) (by rfl) (by rfl) (cells_bytes (bs := [1])) (by rfl))).2 ?_
  simp (disch := first | (simp only [DS, reduceCtorEq]; done) | omega) only [WS, St.guard, St.put, evalO, reduceCtorEq, reduceIte, Nat.reduceAdd, Nat.reduceEqDiff]
  by_cases hb0 : b = []
  · subst hb0
    have e : prim ⟨G, [some (dBlk [byteAV 1] false false), none]⟩ (.append 1 false 1 1) [.own (.l 0) 1 0 1 1 (some 1), a] = some (.own (.l 0) 1 0 1 1 (some 1), ⟨G, [some (dBlk [byteAV 1] false false), none]⟩) := by
      simp only [prim, (v _).source, Option.bind_some]
      simp only [Hp.mayFreeze, Bool.false_eq_true, if_false, Hp.append, List.length_nil, List.map_nil, Nat.zero_mul, if_true, Hp.get, List.getElem?_cons_zero, Option.join_some, dBlk_cells, List.length_cons, Option.bind_some]
      rw [if_pos ⟨trivial, trivial, by omega, rfl⟩]
    refine (WR_eq e).2 ?_
    simp (disch := first | (simp only [DS, reduceCtorEq]; done) | omega) only [WS, St.guard, St.put, evalO, reduceCtorEq, reduceIte, Nat.reduceAdd, Nat.reduceEqDiff, fin_tmp]
    refine ⟨by simp, ?_⟩
    exact leave_own1 (j := 0) rfl rfl
  · have e : prim ⟨G, [some (dBlk [byteAV 1] false false), none]⟩ (.append 1 false 1 1) [.own (.l 0) 1 0 1 1 (some 1), a] = some (.own (.l 1) ((1 :: b).length * 1) 0 (1 :: b).length 1 none, ⟨G, [some (dBlk [byteAV 1] false false), some (dBlk ((1 :: b).map byteAV) true false)]⟩) := by
      have h0 : 0 < b.length := by cases b with | nil => exact absurd rfl hb0 | cons => simp
      have hdl : AV.lf.lfs (b.map byteAV) = true := bytes_lfs
      have hv := v [some (dBlk [byteAV 1] false false), none]
      simp only [prim, hv.source, Option.bind_some]
      simp only [Hp.mayFreeze, Bool.false_eq_true, if_false, Hp.append, hv.hclen, if_true, Hp.get, List.getElem?_cons_zero, Option.join_some, dBlk_cells, List.length_cons, List.length_nil, Option.bind_some]
      rw [if_pos ⟨trivial, trivial, by omega, rfl⟩, if_neg (by omega), if_neg (by omega)]
      simp only [Hp.new, List.getElem?_cons_succ, List.getElem?_cons_zero, Option.map_some, List.drop_zero, dBlk, hdl, Bool.and_true, List.set_cons_succ, List.set_cons_zero, List.map_cons, Nat.mul_one, Nat.zero_add]
      rw [show 1 + b.length = b.length + 1 by omega]
      rfl
    refine (WR_eq e).2 ?_
    simp (disch := first | (simp only [DS, reduceCtorEq]; done) | omega) only [WS, St.guard, St.put, evalO, reduceCtorEq, reduceIte, Nat.reduceAdd, Nat.reduceEqDiff, fin_tmp]
    refine ⟨by simp, ?_⟩
    rw [if_neg hb0, if_neg hb0]
    exact leave_own1 (j := 1) rfl rfl
end Go.AM
namespace Go.AM
variable {prog : String → Option IFn}
variable {G L : List (Option Blk)} {P : DPos} {D : DskD} {n q p pv i j : Nat} {B : Option Blk} {cs : List AV} {J : JD} {V : VD}
def jX (P : DPos) (i : Nat) (J : JD) : List AV := jC (fun k => if k = 0 then .l i else .o (k - 1)) (P.p + 1) 0 J
theorem jX_up {g : Nat} : AV.ren.rens (up g) (jX P i J) = jC .o P.p (g + i) J := by
  simp [jX, jC, AV.ren.rens, AV.ren, up]
theorem jX_labs : AV.labs.labss (jX P i J) = [.o P.p, .l i] := by simp [jX, jC_labs]
def fj (L : List (Option Blk)) (P : DPos) (i j : Nat) (J : JD) : List (Option Blk) := (L.set i (recB J.recs)).set j (some (sBlk (jX P i J) false))
theorem fj_len : (fj L P i j J).length = L.length := by simp [fj]
theorem into_dsetL (h : P.Ok G.length n) : (⟨dset G P D, L⟩ : Hp).into = dset (⟨G, L⟩ : Hp).into P D := by
  unfold Hp.into
  simp only [dset_len]
  rw [← dset_app h]
theorem into_fj (h : P.Ok G.length n) : (⟨dset G P D, fj L P i j J⟩ : Hp).into = dj (⟨G, L⟩ : Hp).into P (G.length + i) (G.length + j) D (recB J.recs) (jC .o P.p (G.length + i) J) := by
  rw [into_dsetL h]
  have s : ∀ (M : List (Option Blk)) (k : Nat) (x : Option Blk), (G ++ M).set (G.length + k) x = G ++ M.set k x := fun M k x => by rw [List.set_append_right _ _ (by omega)]; simp
  have e2 : (some (sBlk (jX P i J) false)).map (Blk.ren (up G.length)) = some (sBlk (jC .o P.p (G.length + i) J) false) := by
    simp only [Option.map_some, Blk.ren, sBlk, Bool.false_eq_true, if_false, jX_up]
  have e1 : (recB J.recs).map (Blk.ren (up G.length)) = recB J.recs := rfl
  have ei : (⟨G, fj L P i j J⟩ : Hp).into = ((⟨G, L⟩ : Hp).into.set (G.length + i) (recB J.recs)).set (G.length + j) (some (sBlk (jC .o P.p (G.length + i) J) false)) := by
    unfold Hp.into fj
    simp only [List.map_set, e1, e2]
    rw [s, s]
  rw [ei]
  unfold dj oset
  have hg : G.length ≤ (⟨G, L⟩ : Hp).into.length := by rw [into_len]; simp
  have hp := h.hp; have h0 := h.h0; have h1 := h.h1; have h2 := h.h2
  have far : ∀ (M : List (Option Blk)) (k : Nat) (x : Option Blk), G.length ≤ k → dset (M.set k x) P D = (dset M P D).set k x := fun M k x hk => by
    unfold dset
    rw [List.set_comm x _ (by omega : k ≠ P.q0), List.set_comm x _ (by omega : k ≠ P.q1), List.set_comm x _ (by omega : k ≠ P.q2), List.set_comm x _ (by omega : k ≠ P.p)]
  rw [far _ _ _ (by omega), far _ _ _ (by omega)]
theorem f_ok (h : P.Ok G.length n) (hij : i < j) (hj : j < L.length) : OOk (⟨G, L⟩ : Hp).into.length P (G.length + i) (G.length + j) n := by
  have hp := h.hp; have h0 := h.h0; have h1 := h.h1; have h2 := h.h2
  have hl : (⟨G, L⟩ : Hp).into.length = G.length + L.length := into_len
  exact ⟨by rw [hl]; exact ⟨h0, h1, h2, by omega, h.n01, h.n02, h.n12, h.k0, h.k1, h.k2⟩, by omega, by omega, by omega, fun k hk => by simp only [List.mem_cons, List.not_mem_nil, or_false] at hk; omega, fun k hk => by simp only [List.mem_cons, List.not_mem_nil, or_false] at hk; omega⟩
theorem f_good (hg : Good ⟨dset G P D, L⟩) (h : P.Ok G.length n) (hij : i < j) : Good ⟨dset G P D, fj L P i j J⟩ := by
  have hp := h.hp
  have g1 : Good ⟨dset G P D, L.set i (recB J.recs)⟩ := Good.setO (h := ⟨dset G P D, L⟩) hg (fun b hb => by cases hb; rfl)
  refine Good.setB g1 ?_
  show (AV.labs.labss (jX P i J)).all _ = true
  rw [jX_labs]
  simp [refLt, dset_len]; omega
theorem good_D {D' : DskD} (hg : Good ⟨dset G P D, L⟩) : Good ⟨dset G P D', L⟩ := by
  unfold Good at hg ⊢
  simp only [dset_len] at hg ⊢
  exact hg
theorem fop {f xs} {r : AV} {D' : DskD} {J' : JD} (h : P.Ok G.length n) (hij : i < j) (hj : j < L.length) (hg : Good ⟨dset G P D, L⟩) (hr : r.lf = true)
    (he : Ev prog (.call f (xs.map (AV.ren (up G.length))) (dj (⟨G, L⟩ : Hp).into P (G.length + i) (G.length + j) D (recB J.recs) (jC .o P.p (G.length + i) J))) (.ret r (dj (⟨G, L⟩ : Hp).into P (G.length + i) (G.length + j) D' (recB J'.recs) (jC .o P.p (G.length + i) J')))) :
    Ev prog (.op (.call f []) xs ⟨dset G P D, fj L P i j J⟩) (.val r ⟨dset G P D', fj L P i j J'⟩) := by
  refine op_turn ⟨dset G P D', fj L P i j J'⟩ ?_ hr (by simp only [dset_len]) (by simp only [fj_len]) (f_good hg h hij) (f_good (good_D hg) h hij)
  rw [into_fj h, into_fj h]
  simp only [dset_len]
  exact he
theorem fopD {f xs} {r : AV} {D' : DskD} (h : P.Ok G.length n) (hg : Good ⟨dset G P D, L⟩) (hr : r.lf = true) (hx : ∀ g, xs.map (AV.ren (up g)) = xs) (he : ∀ G', P.Ok G'.length n → Ev prog (.call f xs (dset G' P D)) (.ret r (dset G' P D'))) :
    Ev prog (.op (.call f []) xs ⟨dset G P D, L⟩) (.val r ⟨dset G P D', L⟩) := by
  refine op_turn ⟨dset G P D', L⟩ ?_ hr (by simp only [dset_len]) rfl hg (good_D hg)
  rw [into_dsetL h, into_dsetL h, hx]
  exact he _ (by rw [into_len]; exact ⟨h.h0, h.h1, h.h2, by have := h.hp; simp only; omega, h.n01, h.n02, h.n12, h.k0, h.k1, h.k2⟩)
theorem fobj {f xs} {J' : JD} (h : P.Ok G.length n) (hg : Good ⟨dset G P D, L⟩) (hij : i ≠ j) (hi : L[i]? = some none) (hj : L[j]? = some none) (hx : ∀ g, xs.map (AV.ren (up g)) = xs)
    (he : Ev prog (.call f xs (dset (⟨G, L⟩ : Hp).into P D)) (.ret (.tup [.ptr (.o ((⟨G, L⟩ : Hp).into.length + 1)) 9 0, .v (.int .i64 0)]) (dset (⟨G, L⟩ : Hp).into P D ++ newJO (⟨G, L⟩ : Hp).into.length P.p J'))) :
    Ev prog (.op (.call f [i, j]) xs ⟨dset G P D, L⟩) (.val (.tup [.ptr (.l j) 9 0, .v (.int .i64 0)]) ⟨dset G P D, fj L P i j J'⟩) := by
  have hp := h.hp
  have hil : (⟨dset G P D, L⟩ : Hp).into.length = (⟨G, L⟩ : Hp).into.length := by rw [into_len, into_len]; simp only [dset_len]
  refine op_obj (h := ⟨dset G P D, L⟩) (Bq := dBlk (recE.row J'.recs) true J'.recs.isEmpty) (cs := jC .o P.p (⟨dset G P D, L⟩ : Hp).into.length J') (cs2 := jX P i J') (fun a => .tup [a, .v (.int .i64 0)]) (fun ρ a => rfl) ?_ hij hi hj hg rfl ?_
  · rw [hx, hil, into_dsetL h]; exact he
  · have d0 : down (dset G P D).length L.length [i, j] (.o P.p) = some (.o P.p) := by simp only [down, dset_len]; rw [if_pos hp]
    have d1 : down (dset G P D).length L.length [i, j] (.o (⟨dset G P D, L⟩ : Hp).into.length) = some (.l i) := down_into0 (h := ⟨dset G P D, L⟩) (sites := [i, j])
    show AV.ren.rens (down (dset G P D).length L.length [i, j]) _ = _
    simp only [jC, jX, AV.ren.rens, AV.ren, d0, d1]
    simp
end Go.AM
namespace Go.AM
variable {prog : String → Option IFn}
variable {G L : List (Option Blk)} {P : DPos} {D : DskD} {n q p pv i j : Nat} {B : Option Blk} {cs : List AV} {J J0 J1 : JD} {V : VD}
theorem first_at (H : JourLib prog) {G : List (Option Blk)} {a : Nat} {fi : BitVec 32} (ha : G[a]? = some (some (sBlk cs false))) (hl : cs.length = 9) (h5 : cs[5]? = some (.v (u32 fi))) :
    Ev prog (.call "(*haberdash/journal.Journal).First" [.ptr (.o a) 9 0] G) (.ret (.v (u32 fi)) G) := by
  refine call_of_fin H.jfirst ?_
  simp only [f___journal_Journal__First_B, enter, List.length_cons, List.length_nil, List.replicate, Nat.reduceAdd, Nat.reduceSub, List.cons_append, List.nil_append]
  have l5 : ∀ L, prim ⟨G, L⟩ (.load 1 false) [.ptr (.o a) 9 5] = some (.v (u32 fi), ⟨G, L⟩) := fun L => by
    rw [px_load_o, ha]
    show (if cs.length = 9 ∧ 5 + 1 ≤ 9 then (whole false ((cs.drop 5).take 1)).map fun a => (a, _) else none) = _
    refine (if_pos ⟨hl, by omega⟩).trans ?_
    rw [List.take_one, List.head?_drop, h5]; rfl
  simp (disch := first | (simp only [DS, reduceCtorEq]; done) | omega) only [WS, St.guard, St.put, evalO, reduceCtorEq, reduceIte, Nat.reduceAdd, Nat.reduceEqDiff, isNilV, Hp.isNil, l5, fin_tmp, leave_v]
  simp
def fnF (ℓ : Lab) : AV := .fn "(*haberdash/journal.Journal).First" [.ptr ℓ 9 0] []
theorem counts_spec (H : VaultLib prog) {G : List (Option Blk)} {a b : Nat} {fi gi : BitVec 32} {cs ds : List AV} (ha : G[a]? = some (some (sBlk cs false))) (hl : cs.length = 9) (h5 : cs[5]? = some (.v (u32 fi)))
    (hb : G[b]? = some (some (sBlk ds false))) (hl' : ds.length = 9) (h5' : ds[5]? = some (.v (u32 gi))) :
    Ev prog (.call "haberdash/vault.counts" [fnF (.o a), fnF (.o b)] G) (.ret (.v (.bool (decide (gi.toNat > fi.toNat)))) G) := by
  refine call_of_fin H.vcounts ?_
  simp only [f_vault_counts_B, enter, List.length_cons, List.length_nil, List.replicate, Nat.reduceAdd, Nat.reduceSub, List.cons_append, List.nil_append, fnF]
  have o1 : Ev prog (.op (.callV []) [.fn "(*haberdash/journal.Journal).First" [.ptr (.o a) 9 0] []] ⟨G, []⟩) (.val (.v (u32 fi)) ⟨G, []⟩) := by
    refine .opCallV (r := .v (u32 fi)) (G2 := G) rfl ?_ ?_
    · rw [into_nil]; exact first_at H.toJourLib ha hl h5
    · have := back_pure (h := ⟨G, []⟩) (r := .v (u32 fi)) rfl
      rw [into_nil] at this; exact this
  have o2 : Ev prog (.op (.callV []) [.fn "(*haberdash/journal.Journal).First" [.ptr (.o b) 9 0] []] ⟨G, []⟩) (.val (.v (u32 gi)) ⟨G, []⟩) := by
    refine .opCallV (r := .v (u32 gi)) (G2 := G) rfl ?_ ?_
    · rw [into_nil]; exact first_at H.toJourLib hb hl' h5'
    · have := back_pure (h := ⟨G, []⟩) (r := .v (u32 gi)) rfl
      rw [into_nil] at this; exact this
  simp (disch := first | (simp only [DS, reduceCtorEq]; done) | omega) only [WS, St.guard, St.put, evalO, reduceCtorEq, reduceIte, Nat.reduceAdd, Nat.reduceEqDiff]
  refine WP_of o2 ?_
  simp (disch := first | (simp only [DS, reduceCtorEq]; done) | omega) only [WS, St.guard, St.put, evalO, reduceCtorEq, reduceIte, Nat.reduceAdd, Nat.reduceEqDiff]
  refine WP_of o1 ?_
  have gt : vBin .gtr (u32 gi) (u32 fi) = some (.bool (decide (gi.toNat > fi.toNat))) := by simp [vBin, u32]
  simp (disch := first | (simp only [DS, reduceCtorEq]; done) | omega) only [WS, St.guard, St.put, evalO, reduceCtorEq, reduceIte, Nat.reduceAdd, Nat.reduceEqDiff, gt, fin_tmp, leave_v]
  simp
def vB (P : DPos) (jp : AV) (half : Nat) (ep : BitVec 32) (dead : Bool) : Option Blk := some (sBlk [.ptr (.o P.p) 5 0, jp, .v (.int .i64 (half : Nat)), .v (u32 ep), .v (.bool dead)] false)
def jB (P : DPos) (i : Nat) (J : JD) : Option Blk := some (sBlk (jX P i J) false)
def baseB : Option Blk := some (dBlk [byteAV 1] false false)
end Go.AM
namespace Go.AM
variable {prog : String → Option IFn}
variable {G L : List (Option Blk)} {P : DPos} {D : DskD} {n q p pv i j : Nat} {B : Option Blk} {cs : List AV} {J J0 J1 : JD} {V : VD}
def bL (P : DPos) (J0 J1 : JD) (Y0 Y1 Y2 V : Option Blk) : List (Option Blk) := [recB J0.recs, jB P 0 J0, recB J1.recs, jB P 2 J1, some (sBlk [.ptr (.l 1) 9 0, .ptr (.l 3) 9 0] false), Y0, Y1, Y2, V]
def jpOk (a : AV) : Bool := a.labs.all (refLt 0 8)
theorem refLt_mono {g k : Nat} {x : Lab} (h : refLt 0 k x = true) : refLt g k x = true := by
  cases x with
  | o i => simp [refLt] at h
  | l i => exact h
theorem jB_good {g k i : Nat} (hp : P.p < g) (hi : i < k) : ∀ b, jB P i J = some b → b.labs.all (refLt g k) = true := fun b e => by
  injection e with e; subst e
  refine sBlk_good ?_
  rw [jX_labs]
  simp [refLt, hp, hi]
theorem good_bL (hp : P.p < G.length) {Y0 Y2 : Option Blk} {jp : AV} {half : Nat} {ep : BitVec 32} {dead : Bool} (h0 : ∀ b, Y0 = some b → b.labs = []) (h2 : ∀ b, Y2 = some b → b.labs = []) (hj : jpOk jp = true) {Y1 : Option Blk} (h1 : Y1 = none ∨ ∃ J, Y1 = jB P 5 J) :
    Good ⟨dset G P D, bL P J0 J1 Y0 Y1 Y2 (vB P jp half ep dead)⟩ := by
  have hl : (dset G P D).length = G.length := dset_len
  have d : ∀ {Y : Option Blk} {k}, (∀ b, Y = some b → b.labs = []) → ∀ b, Y = some b → b.labs.all (refLt G.length k) = true := fun h b e => by rw [h b e]; rfl
  have rb : ∀ (J : JD) k, ∀ b, recB J.recs = some b → b.labs.all (refLt G.length k) = true := fun J k b e => by cases e; rfl
  unfold Good bL
  rw [hl]
  refine goodL_opt (rb _ _) (goodL_opt (jB_good hp (by omega)) (goodL_opt (rb _ _) (goodL_opt (jB_good hp (by omega)) (goodL_opt (fun b e => ?_) (goodL_opt (d h0) (goodL_opt ?_ (goodL_opt (d h2) (goodL_opt (fun b e => ?_) trivial))))))))
  · injection e with e; subst e
    exact sBlk_good (by simp [AV.labs.labss, AV.labs, refLt])
  · rcases h1 with h1 | ⟨J, h1⟩
    · rw [h1]; intro b e; cases e
    · rw [h1]; exact jB_good hp (by omega)
  · injection e with e; subst e
    refine sBlk_good ?_
    have hj' : jp.labs.all (refLt G.length 8) = true := by
      unfold jpOk at hj
      rw [List.all_eq_true] at hj ⊢
      exact fun x hx => refLt_mono (hj x hx)
    simp [AV.labs.labss, AV.labs, refLt, hp] at hj' ⊢
    exact hj'
def bgJ (D : DskD) (frm nn : Nat) (ep : BitVec 32) (b : Txt) : Int × DskD × JD := (newJ frm nn ep).add D (1 :: b)
theorem begin_walk (H : VaultLib prog) (h : P.Ok G.length D.b.length) (z : Siz D D.b.length) (hl : D.b.length ≤ 20000) (ho : D.off = false) (h4 : 4 ≤ D.b.length) {jp : AV} (hj : jpOk jp = true) {ep : BitVec 32} (he : ep ≠ 0#32)
    (hok : (bgJ D 0 (D.b.length / 2) ep []).1 = 0) :
    Ev prog (.op (.callIn "(*haberdash/vault.Vault).begin#Open" [5, 6, 7]) [.ptr (.l 8) 5 0, .v (.int .i64 0), .v (.slice none 0 0)] ⟨dset G P D, bL P J0 J1 none none none (vB P jp 0 ep false)⟩)
      (.val (.v (.int .i64 0)) ⟨dset G P (bgJ D 0 (D.b.length / 2) ep []).2.1, bL P J0 J1 (recB (bgJ D 0 (D.b.length / 2) ep []).2.2.recs) (jB P 5 (bgJ D 0 (D.b.length / 2) ep []).2.2) baseB (vB P (.ptr (.l 6) 9 0) 0 ep false)⟩) := by
  have hp := h.hp
  refine op_callIn H.vbeginO (by rfl) rfl ?_
  simp only [f___vault_Vault__begin_Open, f___vault_Vault__begin_Open_B, enter, List.length_cons, List.length_nil, List.replicate, Nat.reduceAdd, Nat.reduceSub, List.cons_append, List.nil_append]
  have gb : ∀ {D'} {Y0 Y2 : Option Blk} {jp : AV} {half : Nat} (h0 : ∀ b, Y0 = some b → b.labs = []) (h2 : ∀ b, Y2 = some b → b.labs = []) (hj : jpOk jp = true) {Y1 : Option Blk} (h1 : Y1 = none ∨ ∃ J, Y1 = jB P 5 J), Good ⟨dset G P D', bL P J0 J1 Y0 Y1 Y2 (vB P jp half ep false)⟩ := fun h0 h2 hj _ h1 => good_bL hp h0 h2 hj h1
  have nn : ∀ b, (none : Option Blk) = some b → b.labs = [] := fun b e => by cases e
  have ld0 : ∀ {D' Y0 Y1 Y2 jp half}, prim ⟨dset G P D', bL P J0 J1 Y0 Y1 Y2 (vB P jp half ep false)⟩ (.load 1 false) [.ptr (.l 8) 5 0] = some (.ptr (.o P.p) 5 0, ⟨dset G P D', bL P J0 J1 Y0 Y1 Y2 (vB P jp half ep false)⟩) := fun {D' Y0 Y1 Y2 jp half} => by
    simp (disch := first | (simp only [DS, reduceCtorEq]; done) | omega) only [bL, vB, new_s, virtBlk_eq, box_s, box_vs, box_vi, box_vb, px_load_l, px_load_o, loadB_s, storeX, storeB_s, alloc_s, lay, whole, Option.join_some, List.drop_zero, List.drop_succ_cons, List.take_succ_cons, List.take_zero, List.drop_nil, List.nil_append, List.cons_append, Nat.reduceLeDiff, Nat.zero_add, and_self, and_true, cells_int, cells_bool, cells_str, cells_string, cells_agg, cells_own, cells_ro, cells_ptr, cells_nil, AV.lf.lfs, AV.lf, px_build, fills, build_string, build_str, build_int, WDR_some, Nat.reduceLeDiff, Nat.le_refl, Bool.and_self]
    rfl
  simp (disch := first | (simp only [DS, reduceCtorEq]; done) | omega) only [WS, St.guard, St.put, evalO, reduceCtorEq, reduceIte, Nat.reduceAdd, Nat.reduceEqDiff, ld0]
  have hLen : ∀ L, Good ⟨dset G P D, L⟩ → Ev prog (.op (.call "(*haberdash/disk.Disk).Len" []) [.ptr (.o P.p) 5 0] ⟨dset G P D, L⟩) (.val (.v (.int .i64 (D.b.length : Nat))) ⟨dset G P D, L⟩) := fun L hg =>
    fopD h hg rfl (fun g => rfl) (fun G' h' => Len_spec H.toDiskLib h')
  refine WP_of (hLen _ (gb nn nn hj (.inl rfl))) ?_
  have hq : vBin .quo (.int .i64 (D.b.length : Nat)) (.int .i64 2) = some (.int .i64 ((D.b.length / 2 : Nat))) := by
    exact vBin_quo_i64 2 rfl (by omega) (by omega)
  have ld3 : ∀ {D' Y0 Y1 Y2 jp half}, prim ⟨dset G P D', bL P J0 J1 Y0 Y1 Y2 (vB P jp half ep false)⟩ (.load 1 false) [.ptr (.l 8) 5 3] = some (.v (u32 ep), ⟨dset G P D', bL P J0 J1 Y0 Y1 Y2 (vB P jp half ep false)⟩) := fun {D' Y0 Y1 Y2 jp half} => by
    simp (disch := first | (simp only [DS, reduceCtorEq]; done) | omega) only [bL, vB, new_s, virtBlk_eq, box_s, box_vs, box_vi, box_vb, px_load_l, px_load_o, loadB_s, storeX, storeB_s, alloc_s, lay, whole, Option.join_some, List.drop_zero, List.drop_succ_cons, List.take_succ_cons, List.take_zero, List.drop_nil, List.nil_append, List.cons_append, Nat.reduceLeDiff, Nat.zero_add, and_self, and_true, cells_int, cells_bool, cells_str, cells_string, cells_agg, cells_own, cells_ro, cells_ptr, cells_nil, AV.lf.lfs, AV.lf, px_build, fills, build_string, build_str, build_int, WDR_some, Nat.reduceLeDiff, Nat.le_refl, Bool.and_self]
    rfl
  have mz : vBin .mul (.int .i64 0) (.int .i64 (D.b.length / 2 : Nat)) = some (.int .i64 (0 : Nat)) := by
    simp only [vBin, Int.zero_mul]; rfl
  have hE : newE D (0 : Nat) (D.b.length / 2 : Nat) ep = 0 := by
    unfold newE; rw [if_neg (by simp only [he, or_false]; omega), if_neg (by rw [ho]; simp)]
  have hil : ∀ L, (⟨G, L⟩ : Hp).into.length = G.length + L.length := fun L => into_len
  have ok' : ∀ L, P.Ok (⟨G, L⟩ : Hp).into.length D.b.length := fun L => ⟨h.h0, h.h1, h.h2, by rw [hil]; omega, h.n01, h.n02, h.n12, h.k0, h.k1, h.k2⟩
  obtain ⟨N, eN⟩ : ∃ N, N = newJ 0 (D.b.length / 2) ep := ⟨_, rfl⟩
  simp (disch := first | (simp only [DS, reduceCtorEq]; done) | omega) only [WS, St.guard, St.put, evalO, reduceCtorEq, reduceIte, Nat.reduceAdd, Nat.reduceEqDiff, hq, WC_draw, WD_nil, WD_cons, WDG_false, WDG_true, WDP_id, WDP_pick, WDP_build, WDP_bin, WDP_un, WDP_convInt, WDP_strStr, WDP_makeFunc, WDP_sliceStr, WDP_eq, WDP_eqBool, WDP_field, WDP_indexStr, WDP_indexAgg, WDP_extract, WDP_lenStr, WDP_lenSlice, WDP_lenArr, WDP_cap, WDP_min, WDP_max, WDP_nilCheck, WDP_slice, WDP_sliceArr, WDP_fieldAddr, WDP_indexAddr, WDP_indexArr, WDP_load, WDR_some, iP_eq, iN_eq, iG_eq, kI_eq, ld0, ld3, mz]
  refine WDP_of (h' := ⟨dset G P D, bL P J0 J1 (recB N.recs) (jB P 5 N) none (vB P jp 0 ep false)⟩) (by
    subst eN
    exact fobj (i := 5) (j := 6) h (gb nn nn hj (.inl rfl)) (by decide) rfl rfl (fun g => rfl) (newJ_ok H.toJourLib (ok' _) hl hE)) (gb nn nn hj (.inl rfl)) (gb (fun b e => by cases e; rfl) nn hj (.inr ⟨_, rfl⟩)) rfl rfl ?_
  simp (disch := first | (simp only [DS, reduceCtorEq]; done) | omega) only [WS, St.guard, St.put, evalO, reduceCtorEq, reduceIte, Nat.reduceAdd, Nat.reduceEqDiff, hq, WC_draw, WD_nil, WD_cons, WDG_false, WDG_true, WDP_id, WDP_pick, WDP_build, WDP_bin, WDP_un, WDP_convInt, WDP_strStr, WDP_makeFunc, WDP_sliceStr, WDP_eq, WDP_eqBool, WDP_field, WDP_indexStr, WDP_indexAgg, WDP_extract, WDP_lenStr, WDP_lenSlice, WDP_lenArr, WDP_cap, WDP_min, WDP_max, WDP_nilCheck, WDP_slice, WDP_sliceArr, WDP_fieldAddr, WDP_indexAddr, WDP_indexArr, WDP_load, WDR_some, iP_eq, iN_eq, iG_eq, kI_eq, ld0, ld3, mz, Int.reduceBNe]
  refine WP_of (a := .own (.l 7) 1 0 1 1 (some 1)) (h' := ⟨dset G P D, bL P J0 J1 (recB N.recs) (jB P 5 N) baseB (vB P jp 0 ep false)⟩) (by
    have hs := based_spec H (G := (⟨dset G P D, bL P J0 J1 (recB N.recs) (jB P 5 N) none (vB P jp 0 ep false)⟩ : Hp).into) (a := .v (.slice none 0 0)) (b := []) (fun X L => view_nil (by omega)) (by simp)
    exact op_news (Bs := [baseB]) hs (by intro B hB b e; simp only [List.mem_singleton] at hB; subst hB; cases e; rfl) rfl (by decide) rfl (gb (fun b e => by cases e; rfl) nn hj (.inr ⟨_, rfl⟩)) ren_own1) ?_
  simp (disch := first | (simp only [DS, reduceCtorEq]; done) | omega) only [WS, St.guard, St.put, evalO, reduceCtorEq, reduceIte, Nat.reduceAdd, Nat.reduceEqDiff]
  have hN : ∀ x, N.add D x = (newJ 0 (D.b.length / 2) ep).add D x := fun x => by rw [eN]
  obtain ⟨R, eR⟩ : ∃ R, R = bgJ D 0 (D.b.length / 2) ep [] := ⟨_, rfl⟩
  have eR' : N.add D [1] = R := by rw [eR, hN]; rfl
  rw [← eR] at hok ⊢
  refine WP_of (a := .v (.int .i64 R.1)) (h' := ⟨dset G P R.2.1, bL P J0 J1 (recB R.2.2.recs) (jB P 5 R.2.2) baseB (vB P jp 0 ep false)⟩) (by
    have := Add_spec (G := (⟨G, bL P J0 J1 none none baseB (vB P jp 0 ep false)⟩ : Hp).into) (P := P) (q := G.length + 5) (p := G.length + 6) (J := N) H.toJourLib (f_ok h (by omega) (by show 6 < 9; omega)) z hl
      (arg_blk (k := G.length + 7) (b := [1]) (cap := some 1) (X := dBlk [byteAV 1] false false) (by have := h.h0; have := h.h1; have := h.h2; exact ⟨by omega, by omega, by omega, by omega, by omega, by omega⟩) (by exact into_at (k := 7) rfl rfl) rfl rfl (by intro c hc; cases hc; simp))
      (by rw [eN]; exact he) (by rw [eN]; show 0 + D.b.length / 2 ≤ 20000; omega) (by rw [eN]; show 0 ≤ D.b.length / 2; omega) (by rw [eN]; show 0 ≤ 0; omega) (by show 1 < 2 ^ 62; omega)
    rw [eR'] at this
    exact fop (L := bL P J0 J1 none none baseB (vB P jp 0 ep false)) (i := 5) (j := 6) h (by omega) (by show 6 < 9; omega) (gb nn (fun b e => by cases e; rfl) hj (.inl rfl)) rfl this) ?_
  have st1 : ∀ {D' Y0 Y1 Y2}, prim ⟨dset G P D', bL P J0 J1 Y0 Y1 Y2 (vB P jp 0 ep false)⟩ (.store 1 false) [.ptr (.l 8) 5 1, .ptr (.l 6) 9 0] = some (.v undef, ⟨dset G P D', bL P J0 J1 Y0 Y1 Y2 (vB P (.ptr (.l 6) 9 0) 0 ep false)⟩) := fun {D' Y0 Y1 Y2} => by
    simp (disch := first | (simp only [DS, reduceCtorEq]; done) | omega) only [bL, vB, new_s, virtBlk_eq, box_s, box_vs, box_vi, box_vb, px_load_l, px_load_o, loadB_s, storeX, storeB_s, alloc_s, lay, whole, Option.join_some, List.drop_zero, List.drop_succ_cons, List.take_succ_cons, List.take_zero, List.drop_nil, List.nil_append, List.cons_append, Nat.reduceLeDiff, Nat.zero_add, and_self, and_true, cells_int, cells_bool, cells_str, cells_string, cells_agg, cells_own, cells_ro, cells_ptr, cells_nil, AV.lf.lfs, AV.lf, px_build, fills, build_string, build_str, build_int, WDR_some, Nat.reduceLeDiff, Nat.le_refl, Bool.and_self]
    rfl
  have st2 : ∀ {D' Y0 Y1 Y2 jp}, prim ⟨dset G P D', bL P J0 J1 Y0 Y1 Y2 (vB P jp 0 ep false)⟩ (.store 1 false) [.ptr (.l 8) 5 2, .v (.int .i64 0)] = some (.v undef, ⟨dset G P D', bL P J0 J1 Y0 Y1 Y2 (vB P jp 0 ep false)⟩) := fun {D' Y0 Y1 Y2 jp} => by
    simp (disch := first | (simp only [DS, reduceCtorEq]; done) | omega) only [bL, vB, new_s, virtBlk_eq, box_s, box_vs, box_vi, box_vb, px_load_l, px_load_o, loadB_s, storeX, storeB_s, alloc_s, lay, whole, Option.join_some, List.drop_zero, List.drop_succ_cons, List.take_succ_cons, List.take_zero, List.drop_nil, List.nil_append, List.cons_append, Nat.reduceLeDiff, Nat.zero_add, and_self, and_true, cells_int, cells_bool, cells_str, cells_string, cells_agg, cells_own, cells_ro, cells_ptr, cells_nil, AV.lf.lfs, AV.lf, px_build, fills, build_string, build_str, build_int, WDR_some, Nat.reduceLeDiff, Nat.le_refl, Bool.and_self]
    rfl
  simp (disch := first | (simp only [DS, reduceCtorEq]; done) | omega) only [WS, St.guard, St.put, evalO, reduceCtorEq, reduceIte, Nat.reduceAdd, Nat.reduceEqDiff, hok, Int.reduceBNe, st1, st2]
  exact ⟨.inr trivial, _, rfl, rfl⟩
end Go.AM
namespace Go.AM
variable {prog : String → Option IFn}
variable {G L : List (Option Blk)} {P : DPos} {D : DskD} {n q p pv i j : Nat} {B : Option Blk} {cs : List AV} {J J0 J1 : JD} {V : VD}
def vEp (D : DskD) : BitVec 32 := grF D.b D.b.length + 1#32
def vJ0 (D : DskD) : JD := openJ D 0 (D.b.length / 2) (vEp D)
def vJ1 (D : DskD) : JD := openJ D (D.b.length / 2) (D.b.length / 2) (vEp D)
def vHalf (D : DskD) : Nat := if (vJ1 D).fi.toNat > (vJ0 D).fi.toNat then 1 else 0
def openV (D : DskD) : DskD × JD × VD :=
  if (vJ0 D).fi = 0#32 ∧ vHalf D = 0 then ((bgJ D 0 (D.b.length / 2) (vEp D) []).2.1, (bgJ D 0 (D.b.length / 2) (vEp D) []).2.2, ⟨0, vEp D, false⟩)
  else (D, if vHalf D = 1 then vJ1 D else vJ0 D, ⟨vHalf D, vEp D, false⟩)
def newVO (g pd : Nat) (J : JD) (V : VD) : List (Option Blk) := [recB J.recs, some (sBlk (jC .o pd g J) false), some (sBlk (vC .o pd (g + 1) V) false)]
def openEr (D : DskD) : Int := if D.b.length < 4 then 2 else if D.off then 9 else if grF D.b D.b.length = BitVec.allOnes 32 then 6 else 0
def oL (P : DPos) (D : DskD) : Nat → List (Option Blk)
  | 0 => [none, none, none, none, some (sBlk [.v (.pointer none), .v (.pointer none)] true), none, none, none, vB P (.v (.pointer none)) 0 (vEp D) false]
  | 1 => [recB (vJ0 D).recs, jB P 0 (vJ0 D), none, none, some (sBlk [.ptr (.l 1) 9 0, .v (.pointer none)] false), none, none, none, vB P (.v (.pointer none)) 0 (vEp D) false]
  | _ => bL P (vJ0 D) (vJ1 D) none none none (vB P (.v (.pointer none)) 0 (vEp D) false)
abbrev VMV : List (Nat × Nat) := [(2, 0), (3, 1)]
theorem vMove {env} {g : List (Option Blk)} {ep : BitVec 32} : mvIf (4, (0, 3)) VMV ⟨env, ⟨g, [none, none, recB J.recs, jB P 2 J, some (sBlk [.ptr (.l 3) 9 0, .v (.pointer none)] false), none, none, none, vB P (.v (.pointer none)) 0 ep false]⟩⟩ =
    some ⟨env.map (AV.ren (mvLab VMV)), ⟨g, [recB J.recs, jB P 0 J, none, none, some (sBlk [.ptr (.l 1) 9 0, .v (.pointer none)] false), none, none, none, vB P (.v (.pointer none)) 0 ep false]⟩⟩ := by
  rfl
theorem vStay {env} {g : List (Option Blk)} {Y0 Y1 Y2 X : Option Blk} : mvIf (4, (0, 3)) VMV ⟨env, ⟨g, bL P J0 J1 Y0 Y1 Y2 X⟩⟩ = some ⟨env, ⟨g, bL P J0 J1 Y0 Y1 Y2 X⟩⟩ := rfl
theorem leave_v3 {g : List (Option Blk)} {half : Nat} {ep : BitVec 32} {dead : Bool} {x : Value} (hc : i = 0 ∧ j = 1 ∨ i = 2 ∧ j = 3 ∨ i = 5 ∧ j = 6) (hi : L[i]? = some (recB J.recs)) (hj : L[j]? = some (jB P i J)) (hv : L[8]? = some (vB P (.ptr (.l j) 9 0) half ep dead)) (hp : P.p < g.length) :
    (⟨g, L⟩ : Hp).leave (.tup [.ptr (.l 8) 5 0, .v x]) = some (.tup [.ptr (.o (g.length + 2)) 5 0, .v x], g ++ [recB J.recs, some (sBlk (jC .o P.p g.length J) false), some (sBlk (vC .o P.p (g.length + 1) ⟨half, ep, dead⟩) false)]) := by
  have h1 : (⟨g, L⟩ : Hp).get (.l i) = some (dBlk (recE.row J.recs) true J.recs.isEmpty) := by
    show (L[i]?).join = _; rw [hi]; rfl
  have h2 : (⟨g, L⟩ : Hp).get (.l j) = some (sBlk (jX P i J) false) := by
    show (L[j]?).join = _; rw [hj]; rfl
  have h3 : (⟨g, L⟩ : Hp).get (.l 8) = some (sBlk [.ptr (.o P.p) 5 0, .ptr (.l j) 9 0, .v (.int .i64 (half : Nat)), .v (u32 ep), .v (.bool dead)] false) := by
    show (L[8]?).join = _; rw [hv]; rfl
  have s1 : (dBlk (recE.row J.recs) true J.recs.isEmpty).labs = [] := rfl
  have s2 : (sBlk (jX P i J) false).labs = [.o P.p, .l i] := jX_labs
  have s3 : (sBlk [.ptr (.o P.p) 5 0, .ptr (.l j) 9 0, .v (.int .i64 (half : Nat)), .v (u32 ep), .v (.bool dead)] false).labs = [.o P.p, .l j] := by
    show AV.labs.labss _ = _
    simp [sBlk, AV.labs.labss, AV.labs]
  have hcol : collect (⟨g, L⟩ : Hp) 40 [.l 8] [] = [8, j, i] := by
    rcases hc with ⟨rfl, rfl⟩ | ⟨rfl, rfl⟩ | ⟨rfl, rfl⟩ <;> simp [collect, h1, h2, h3, s1, s2, s3]
  have k0 : keepMap g.length [i, j, 8] (.l i) = some (.o g.length) := by
    rcases hc with ⟨rfl, rfl⟩ | ⟨rfl, rfl⟩ | ⟨rfl, rfl⟩ <;> rfl
  have k1 : keepMap g.length [i, j, 8] (.l j) = some (.o (g.length + 1)) := by
    rcases hc with ⟨rfl, rfl⟩ | ⟨rfl, rfl⟩ | ⟨rfl, rfl⟩ <;> rfl
  have k2 : keepMap g.length [i, j, 8] (.l 8) = some (.o (g.length + 2)) := by
    rcases hc with ⟨rfl, rfl⟩ | ⟨rfl, rfl⟩ | ⟨rfl, rfl⟩ <;> rfl
  have kp : keepMap g.length [i, j, 8] (.o P.p) = some (.o P.p) := rfl
  have r2 : AV.ren.rens (keepMap g.length [i, j, 8]) (jX P i J) = jC .o P.p g.length J := by
    simp [jX, jC, AV.ren.rens, AV.ren, k0, kp]
  have r3 : (sBlk [.ptr (.o P.p) 5 0, .ptr (.l j) 9 0, .v (.int .i64 (half : Nat)), .v (u32 ep), .v (.bool dead)] false).ren (keepMap g.length [i, j, 8]) = sBlk (vC .o P.p (g.length + 1) ⟨half, ep, dead⟩) false := by
    simp [Blk.ren, sBlk, vC, AV.ren.rens, AV.ren, k1, kp]
  have r2' : (sBlk (jX P i J) false).ren (keepMap g.length [i, j, 8]) = sBlk (jC .o P.p g.length J) false := by
    simp only [Blk.ren, sBlk, Bool.false_eq_true, if_false, r2]
  have r1 : ∀ ρ, (dBlk (recE.row J.recs) true J.recs.isEmpty).ren ρ = dBlk (recE.row J.recs) true J.recs.isEmpty := fun ρ => rfl
  have hl : (AV.tup [.ptr (.l 8) 5 0, .v x]).labs = [.l 8] := by simp [AV.labs, AV.labs.labss]
  have hr : (AV.tup [.ptr (.l 8) 5 0, .v x]).ren (keepMap g.length [i, j, 8]) = .tup [.ptr (.o (g.length + 2)) 5 0, .v x] := by
    simp [AV.ren, AV.ren.rens, k2]
  have e1 : L[i]?.join = some (dBlk (recE.row J.recs) true J.recs.isEmpty) := h1
  have e2 : L[j]?.join = some (sBlk (jX P i J) false) := h2
  have e3 : L[8]?.join = _ := h3
  unfold Hp.leave
  simp only [hl, hcol, List.reverse_cons, List.reverse_nil, List.nil_append, List.cons_append, List.map_cons, List.map_nil, e1, e2, e3, Option.map_some, r1, r2', r3, hr]
  rw [if_pos]
  · rfl
  · refine ⟨?_, by rcases hc with ⟨rfl, rfl⟩ | ⟨rfl, rfl⟩ | ⟨rfl, rfl⟩ <;> decide⟩
    have l2 : (sBlk (jC .o P.p g.length J) false).labs = [.o P.p, .o g.length] := jC_labs
    have l3 : (sBlk (vC .o P.p (g.length + 1) ⟨half, ep, dead⟩) false).labs = [.o P.p, .o (g.length + 1)] := by
      show AV.labs.labss _ = _
      simp [sBlk, vC, AV.labs.labss, AV.labs]
    simp only [outBlks, s1, l2, l3, List.all_nil, List.all_cons, Bool.and_true, Bool.true_and, labLt]
    simp
    omega
theorem into_jB (h : P.Ok G.length n) {k : Nat} (hk : L[k]? = some (jB P i J)) : (⟨dset G P D, L⟩ : Hp).into[G.length + k]? = some (some (sBlk (jC .o P.p (G.length + i) J) false)) := by
  rw [into_mk, if_neg (by rw [dset_len]; omega), dset_len, Nat.add_sub_cancel_left, hk]
  show some (some (sBlk (AV.ren.rens (up G.length) (jX P i J)) false)) = _
  rw [jX_up]
set_option maxHeartbeats 1000000 in
theorem VOpen_ok (H : VaultLib prog) (h : P.Ok G.length D.b.length) (z : Siz D D.b.length) (hl : D.b.length ≤ 20000) (hE : openEr D = 0) (hok : (bgJ D 0 (D.b.length / 2) (vEp D) []).1 = 0) :
    Ev prog (.call "haberdash/vault.Open" [.ptr (.o P.p) 5 0] (dset G P D)) (.ret (.tup [.ptr (.o (G.length + 2)) 5 0, .v (.int .i64 0)]) (dset G P (openV D).1 ++ newVO G.length P.p (openV D).2.1 (openV D).2.2)) := by
  have hp := h.hp
  have HD := H.toDiskLib
  have h4 : 4 ≤ D.b.length ∧ D.off = false ∧ grF D.b D.b.length ≠ BitVec.allOnes 32 := by
    unfold openEr at hE
    split at hE
    · simp at hE
    split at hE
    · simp at hE
    split at hE
    · simp at hE
    exact ⟨by omega, by simp_all, by assumption⟩
  obtain ⟨h4, ho, hM⟩ := h4
  have hEp : vEp D ≠ 0#32 := fun e => by
    refine hM (BitVec.eq_of_toNat_eq ?_)
    have e := congrArg BitVec.toNat e
    unfold vEp at e
    rw [BitVec.toNat_add] at e
    simp only [BitVec.toNat_ofNat] at e
    rw [BitVec.toNat_allOnes]
    have := (grF D.b D.b.length).isLt
    omega
  refine call_of_fin H.vopen ?_
  simp only [f_vault_Open_B, enter, List.length_cons, List.length_nil, List.replicate, Nat.reduceAdd, Nat.reduceSub, List.cons_append, List.nil_append]
  have nn : ∀ b, (none : Option Blk) = some b → b.labs = [] := fun b e => by cases e
  have g0 : Good ⟨dset G P D, [none, none, none, none, none, none, none, none, none]⟩ := by unfold Good; exact trivial
  have c4 : decide ((D.b.length : Int) < 4) = false := decide_eq_false (by omega)
  simp (disch := first | (simp only [DS, reduceCtorEq]; done) | omega) only [WS, St.guard, St.put, evalO, reduceCtorEq, reduceIte, Nat.reduceAdd, Nat.reduceEqDiff, isNilV, Hp.isNil]
  refine WP_of (fopD h g0 rfl (fun g => rfl) (fun G' h' => Len_spec HD h')) ?_
  simp (disch := first | (simp only [DS, reduceCtorEq]; done) | omega) only [WS, St.guard, St.put, evalO, reduceCtorEq, reduceIte, Nat.reduceAdd, Nat.reduceEqDiff, c4]
  refine WP_of (fopD h g0 rfl (fun g => rfl) (fun G' h' => Down_spec HD h')) ?_
  rw [ho]
  simp (disch := first | (simp only [DS, reduceCtorEq]; done) | omega) only [WS, St.guard, St.put, evalO, reduceCtorEq, reduceIte, Nat.reduceAdd, Nat.reduceEqDiff]
  refine WP_of (fopD h g0 (r := .tup [.v (u32 (grF D.b D.b.length)), .v (.int .i64 0)]) rfl (fun g => rfl) (fun G' h' => by
    have := greatest_spec H h' ho hl
    rwa [if_neg hM] at this)) ?_
  have hq : vBin .quo (.int .i64 (D.b.length : Nat)) (.int .i64 2) = some (.int .i64 ((D.b.length / 2 : Nat))) := vBin_quo_i64 2 rfl (by omega) (by omega)
  have ha : vBin .add (u32 (grF D.b D.b.length)) (.int .u32 1) = some (u32 (vEp D)) := by
    simp only [vBin, u32, vEp, ne_eq, not_true_eq_false, if_false, Option.some.injEq, Value.int.injEq, true_and]
    show ((grF D.b D.b.length).toNat + 1 : Int) % 4294967296 = _
    rw [BitVec.toNat_add]
    simp only [BitVec.toNat_ofNat]
    omega
  have bd : ∀ h : Hp, prim h (.build [.pointer none, .pointer none, .int .i64 0, .int .u32 0, .bool false] [(0, 1), (3, 1)]) [.ptr (.o P.p) 5 0, .v (u32 (vEp D))] =
    some (.agg [.ptr (.o P.p) 5 0, .v (.pointer none), .v (.int .i64 0), .v (u32 (vEp D)), .v (.bool false)], h) := fun h => rfl
  have bx : ∀ G, prim ⟨G, [none, none, none, none, none, none, none, none, none]⟩ (.box 8) [.agg [.ptr (.o P.p) 5 0, .v (.pointer none), .v (.int .i64 0), .v (u32 (vEp D)), .v (.bool false)]] =
    some (.ptr (.l 8) 5 0, ⟨G, [none, none, none, none, none, none, none, none, vB P (.v (.pointer none)) 0 (vEp D) false]⟩) := fun G => rfl
  simp (disch := first | (simp only [DS, reduceCtorEq]; done) | omega) only [WS, St.guard, St.put, evalO, reduceCtorEq, reduceIte, Nat.reduceAdd, Nat.reduceEqDiff, Int.reduceBNe, ha, bd, bx]
  have g1 : Good ⟨dset G P D, [none, none, none, none, none, none, none, none, vB P (.v (.pointer none)) 0 (vEp D) false]⟩ := by
    unfold Good
    refine goodL_opt (k := 8) (fun b e => ?_) trivial
    injection e with e; subst e
    exact sBlk_good (by simp [AV.labs.labss, AV.labs, refLt, dset_len, hp])
  refine WP_of (fopD h g1 rfl (fun g => rfl) (fun G' h' => Len_spec HD h')) ?_
  have al : prim ⟨dset G P D, [none, none, none, none, none, none, none, none, vB P (.v (.pointer none)) 0 (vEp D) false]⟩ (.alloc 4 [.pointer none, .pointer none] []) [] = some (.ptr (.l 4) 2 0, ⟨dset G P D, oL P D 0⟩) := rfl
  simp (disch := first | (simp only [DS, reduceCtorEq]; done) | omega) only [WS, St.guard, St.put, evalO, reduceCtorEq, reduceIte, Nat.reduceAdd, Nat.reduceEqDiff, hq, al]
  refine WC_count (fun i => ⟨f_vault_Open_H0 (.ptr (.o P.p) 5 0) (.ptr (.l 8) 5 0) (.v (.int .i64 (D.b.length / 2 : Nat))) (.ptr (.l 4) 2 0) (.v (.int .i64 (i : Nat))), ⟨dset G P D, oL P D i⟩⟩) 2 ?_ (fun i hi => ?_) ?_
  · exact clear_fre (by simp only [clear_nil, List.foldl_cons, List.foldl_nil, Option.some.injEq, LS, reduceCtorEq, reduceIte, Nat.reduceAdd] <;> rfl) (by rfl) (by simp only [f_vault_Open_H0, List.all_cons, List.all_nil, noRef_v, noRef_dead, noRef_own, noRef_ptr, noRef_nil, Bool.and_true, Bool.true_and, Bool.and_self, List.contains_cons, List.contains_nil, Bool.or_false, Nat.reduceBEq, Bool.not_false]) (by rfl)
  · have hE0 : newE D (0 : Nat) (D.b.length / 2 : Nat) (vEp D) = 0 := by
      unfold newE; rw [if_neg (by simp only [hEp, or_false]; omega), if_neg (by rw [ho]; simp)]
    have hE1 : newE D (D.b.length / 2 : Nat) (D.b.length / 2 : Nat) (vEp D) = 0 := by
      unfold newE; rw [if_neg (by simp only [hEp, or_false]; omega), if_neg (by rw [ho]; simp)]
    have hil : ∀ L, (⟨G, L⟩ : Hp).into.length = G.length + L.length := fun L => into_len
    have ok' : ∀ L, P.Ok (⟨G, L⟩ : Hp).into.length D.b.length := fun L => ⟨h.h0, h.h1, h.h2, by rw [hil]; omega, h.n01, h.n02, h.n12, h.k0, h.k1, h.k2⟩
    have ld3 : ∀ i, prim ⟨dset G P D, oL P D i⟩ (.load 1 false) [.ptr (.l 8) 5 3] = some (.v (u32 (vEp D)), ⟨dset G P D, oL P D i⟩) := fun i => by
      rcases i with _ | _ | i <;> (simp (disch := first | (simp only [DS, reduceCtorEq]; done) | omega) only [oL, bL, vB, new_s, virtBlk_eq, box_s, box_vs, box_vi, box_vb, px_load_l, px_load_o, loadB_s, storeX, storeB_s, alloc_s, lay, whole, Option.join_some, List.drop_zero, List.drop_succ_cons, List.take_succ_cons, List.take_zero, List.drop_nil, List.nil_append, List.cons_append, Nat.reduceLeDiff, Nat.zero_add, and_self, and_true, cells_int, cells_bool, cells_str, cells_string, cells_agg, cells_own, cells_ro, cells_ptr, cells_nil, AV.lf.lfs, AV.lf, px_build, fills, build_string, build_str, build_int, WDR_some, Nat.reduceLeDiff, Nat.le_refl, Bool.and_self]; rfl)
    have m0 : vBin .mul (.int .i64 0) (.int .i64 (D.b.length / 2 : Nat)) = some (.int .i64 (0 : Nat)) := by
      simp only [vBin, Int.zero_mul]; rfl
    have m1 : vBin .mul (.int .i64 1) (.int .i64 (D.b.length / 2 : Nat)) = some (.int .i64 (D.b.length / 2 : Nat)) := by
      simp only [vBin, Int.one_mul, ne_eq, not_true_eq_false, if_false]
      congr 2
      exact wrap_i64_nat (by omega)
    have hi2 : i = 0 ∨ i = 1 := by omega
    rcases hi2 with rfl | rfl
    · have z2 : decide ((0 : Int) < 2) = true := rfl
      have g2 : Good ⟨dset G P D, oL P D 0⟩ := by
        show Good ⟨dset G P D, [none, none, none, none, some (sBlk [.v (.pointer none), .v (.pointer none)] true), none, none, none, vB P (.v (.pointer none)) 0 (vEp D) false]⟩
        unfold Good
        refine goodL_opt (k := 4) (fun b e => ?_) (goodL_opt (k := 8) (fun b e => ?_) trivial)
        · injection e with e; subst e; rfl
        · injection e with e; subst e
          exact sBlk_good (by simp [AV.labs.labss, AV.labs, refLt, dset_len, hp])
      simp (disch := first | (simp only [DS, reduceCtorEq]; done) | omega) only [f_vault_Open_L0, f_vault_Open_H0, WS, St.guard, St.put, evalO, reduceCtorEq, reduceIte, Nat.reduceAdd, Nat.reduceEqDiff, ld3, m0, z2, WC_postIf]
      refine WP_of (by exact fobj (i := 2) (j := 3) h g2 (by decide) rfl rfl (fun g => rfl) (openJ_ok H.toJourLib (ok' _) hl hE0)) ?_
      have ix : ∀ h, prim h (.indexArr 2 1) [.ptr (.l 4) 2 0, .v (.int .i64 0)] = some (.ptr (.l 4) 2 0, h) := fun h => rfl
      have st : ∀ X, prim ⟨dset G P D, [none, none, recB (vJ0 D).recs, jB P 2 (vJ0 D), some (sBlk [.v (.pointer none), .v (.pointer none)] true), none, none, none, X]⟩ (.store 1 false) [.ptr (.l 4) 2 0, .ptr (.l 3) 9 0] = some (.v undef, ⟨dset G P D, [none, none, recB (vJ0 D).recs, jB P 2 (vJ0 D), some (sBlk [.ptr (.l 3) 9 0, .v (.pointer none)] false), none, none, none, X]⟩) := fun X => rfl
      have e0 : fj (oL P D 0) P 2 3 (vJ0 D) = [none, none, recB (vJ0 D).recs, jB P 2 (vJ0 D), some (sBlk [.v (.pointer none), .v (.pointer none)] true), none, none, none, vB P (.v (.pointer none)) 0 (vEp D) false] := rfl
      have e0' : fj (oL P D 0) P 2 3 (openJ D 0 (D.b.length / 2) (vEp D)) = [none, none, recB (vJ0 D).recs, jB P 2 (vJ0 D), some (sBlk [.v (.pointer none), .v (.pointer none)] true), none, none, none, vB P (.v (.pointer none)) 0 (vEp D) false] := rfl
      rw [e0']
      simp (disch := first | (simp only [DS, reduceCtorEq]; done) | omega) only [WS, St.guard, St.put, evalO, reduceCtorEq, reduceIte, Nat.reduceAdd, Nat.reduceEqDiff, ix, st, WK_mvi_normal]
      refine ⟨_, vMove, ?_⟩
      have r8 : AV.ren (mvLab VMV) (.ptr (.l 8) 5 0) = .ptr (.l 8) 5 0 := rfl
      have r4 : AV.ren (mvLab VMV) (.ptr (.l 4) 2 0) = .ptr (.l 4) 2 0 := rfl
      have r3 : AV.ren (mvLab VMV) (.ptr (.l 3) 9 0) = .ptr (.l 1) 9 0 := rfl
      have rP : AV.ren (mvLab VMV) (.ptr (.o P.p) 5 0) = .ptr (.o P.p) 5 0 := rfl
      have rt : ∀ x, AV.ren (mvLab VMV) (.tup [.ptr (.l 3) 9 0, .v x]) = .tup [.ptr (.l 1) 9 0, .v x] := fun x => rfl
      have rd : AV.ren (mvLab VMV) .dead = .dead := rfl
      simp only [List.map_cons, List.map_nil]
      simp (disch := first | (simp only [DS, reduceCtorEq]; done) | omega) only [WS, St.guard, St.put, evalO, reduceCtorEq, reduceIte, Nat.reduceAdd, Nat.reduceEqDiff, r8, r4, r3, rP, rt, rd, ren_val, Int.reduceBNe, vBin_add_i64]
      exact clear_fre (by simp only [clear_nil, List.foldl_cons, List.foldl_nil, Option.some.injEq, LS, reduceCtorEq, reduceIte, Nat.reduceAdd] <;> rfl) (by rfl) (by simp only [f_vault_Open_H0, List.all_cons, List.all_nil, noRef_v, noRef_dead, noRef_own, noRef_ptr, noRef_nil, Bool.and_true, Bool.true_and, Bool.and_self, List.contains_cons, List.contains_nil, Bool.or_false, Nat.reduceBEq, Bool.not_false]) (by rfl)
    · have z2 : decide ((1 : Int) < 2) = true := rfl
      have hl' : (dset G P D).length = G.length := dset_len
      have g2 : Good ⟨dset G P D, oL P D 1⟩ := by
        show Good ⟨dset G P D, [recB (vJ0 D).recs, jB P 0 (vJ0 D), none, none, some (sBlk [.ptr (.l 1) 9 0, .v (.pointer none)] false), none, none, none, vB P (.v (.pointer none)) 0 (vEp D) false]⟩
        unfold Good
        rw [hl']
        refine goodL_opt (fun b e => by cases e; rfl) (goodL_opt (jB_good hp (by omega)) (goodL_opt (k := 4) (fun b e => ?_) (goodL_opt (k := 8) (fun b e => ?_) trivial)))
        · injection e with e; subst e
          exact sBlk_good (by simp [AV.labs.labss, AV.labs, refLt])
        · injection e with e; subst e
          exact sBlk_good (by simp [AV.labs.labss, AV.labs, refLt, hp])
      simp (disch := first | (simp only [DS, reduceCtorEq]; done) | omega) only [f_vault_Open_L0, f_vault_Open_H0, WS, St.guard, St.put, evalO, reduceCtorEq, reduceIte, Nat.reduceAdd, Nat.reduceEqDiff, ld3, m1, z2, WC_postIf]
      refine WP_of (by exact fobj (i := 2) (j := 3) h g2 (by decide) rfl rfl (fun g => rfl) (openJ_ok H.toJourLib (ok' _) hl hE1)) ?_
      have ix : ∀ h, prim h (.indexArr 2 1) [.ptr (.l 4) 2 0, .v (.int .i64 1)] = some (.ptr (.l 4) 2 1, h) := fun h => rfl
      have st : ∀ X, prim ⟨dset G P D, [recB (vJ0 D).recs, jB P 0 (vJ0 D), recB (vJ1 D).recs, jB P 2 (vJ1 D), some (sBlk [.ptr (.l 1) 9 0, .v (.pointer none)] false), none, none, none, X]⟩ (.store 1 false) [.ptr (.l 4) 2 1, .ptr (.l 3) 9 0] = some (.v undef, ⟨dset G P D, bL P (vJ0 D) (vJ1 D) none none none X⟩) := fun X => rfl
      have e1 : fj (oL P D 1) P 2 3 (openJ D (D.b.length / 2) (D.b.length / 2) (vEp D)) = [recB (vJ0 D).recs, jB P 0 (vJ0 D), recB (vJ1 D).recs, jB P 2 (vJ1 D), some (sBlk [.ptr (.l 1) 9 0, .v (.pointer none)] false), none, none, none, vB P (.v (.pointer none)) 0 (vEp D) false] := rfl
      rw [e1]
      simp (disch := first | (simp only [DS, reduceCtorEq]; done) | omega) only [WS, St.guard, St.put, evalO, reduceCtorEq, reduceIte, Nat.reduceAdd, Nat.reduceEqDiff, ix, st, WK_mvi_normal]
      refine ⟨_, vStay, ?_⟩
      simp (disch := first | (simp only [DS, reduceCtorEq]; done) | omega) only [WS, St.guard, St.put, evalO, reduceCtorEq, reduceIte, Nat.reduceAdd, Nat.reduceEqDiff, Int.reduceBNe, vBin_add_i64]
      exact clear_fre (by simp only [clear_nil, List.foldl_cons, List.foldl_nil, Option.some.injEq, LS, reduceCtorEq, reduceIte, Nat.reduceAdd] <;> rfl) (by rfl) (by simp only [f_vault_Open_H0, List.all_cons, List.all_nil, noRef_v, noRef_dead, noRef_own, noRef_ptr, noRef_nil, Bool.and_true, Bool.true_and, Bool.and_self, List.contains_cons, List.contains_nil, Bool.or_false, Nat.reduceBEq, Bool.not_false]) (by rfl)
  · have eo : oL P D 2 = bL P (vJ0 D) (vJ1 D) none none none (vB P (.v (.pointer none)) 0 (vEp D) false) := rfl
    have ix0 : ∀ h, prim h (.indexArr 2 1) [.ptr (.l 4) 2 0, .v (.int .i64 0)] = some (.ptr (.l 4) 2 0, h) := fun h => rfl
    have ix1 : ∀ h, prim h (.indexArr 2 1) [.ptr (.l 4) 2 0, .v (.int .i64 1)] = some (.ptr (.l 4) 2 1, h) := fun h => rfl
    have la0 : ∀ {g X}, prim ⟨g, bL P (vJ0 D) (vJ1 D) none none none X⟩ (.load 1 false) [.ptr (.l 4) 2 0] = some (.ptr (.l 1) 9 0, ⟨g, bL P (vJ0 D) (vJ1 D) none none none X⟩) := rfl
    have la1 : ∀ {g X}, prim ⟨g, bL P (vJ0 D) (vJ1 D) none none none X⟩ (.load 1 false) [.ptr (.l 4) 2 1] = some (.ptr (.l 3) 9 0, ⟨g, bL P (vJ0 D) (vJ1 D) none none none X⟩) := rfl
    simp (disch := first | (simp only [DS, reduceCtorEq]; done) | omega) only [f_vault_Open_L0, f_vault_Open_H0, WS, St.guard, St.put, evalO, reduceCtorEq, reduceIte, Nat.reduceAdd, Nat.reduceEqDiff, decide_false, eo, ix0, ix1, la0, la1, Nat.le_refl, if_true, List.take_succ_cons, List.take_zero, List.drop_succ_cons, List.drop_zero]
    have gb : ∀ {Y0 Y2 : Option Blk} {jp : AV} {half : Nat} {Y1 : Option Blk}, (∀ b, Y0 = some b → b.labs = []) → (∀ b, Y2 = some b → b.labs = []) → jpOk jp = true → (Y1 = none ∨ ∃ J, Y1 = jB P 5 J) → Good ⟨dset G P D, bL P (vJ0 D) (vJ1 D) Y0 Y1 Y2 (vB P jp half (vEp D) false)⟩ := fun h0 h2 hj h1 => good_bL hp h0 h2 hj h1
    have hd : (dset G P D).length = G.length := dset_len
    obtain ⟨S, hS⟩ : ∃ S, S = (⟨dset G P D, bL P (vJ0 D) (vJ1 D) none none none (vB P (.v (.pointer none)) 0 (vEp D) false)⟩ : Hp) := ⟨_, rfl⟩
    refine (WP_p (x := .bool (decide ((vJ1 D).fi.toNat > (vJ0 D).fi.toNat))) (by
      have := counts_spec H (G := (⟨dset G P D, bL P (vJ0 D) (vJ1 D) none none none (vB P (.v (.pointer none)) 0 (vEp D) false)⟩ : Hp).into) (a := G.length + 1) (b := G.length + 3) (into_jB (i := 0) h rfl) rfl rfl (into_jB (i := 2) h rfl) rfl rfl
      rw [← hd] at this
      exact this) (by exact gb nn nn rfl (.inl rfl))).2 ?_
    have sh : ∀ {x : Nat} {jp : AV}, prim ⟨dset G P D, bL P (vJ0 D) (vJ1 D) none none none (vB P jp x (vEp D) false)⟩ (.store 1 false) [.ptr (.l 8) 5 2, .v (.int .i64 1)] = some (.v undef, ⟨dset G P D, bL P (vJ0 D) (vJ1 D) none none none (vB P jp 1 (vEp D) false)⟩) := rfl
    have lh : ∀ {x : Nat} {jp : AV}, prim ⟨dset G P D, bL P (vJ0 D) (vJ1 D) none none none (vB P jp x (vEp D) false)⟩ (.load 1 false) [.ptr (.l 8) 5 2] = some (.v (.int .i64 (x : Nat)), ⟨dset G P D, bL P (vJ0 D) (vJ1 D) none none none (vB P jp x (vEp D) false)⟩) := rfl
    have sj : ∀ {x k : Nat} {jp : AV}, prim ⟨dset G P D, bL P (vJ0 D) (vJ1 D) none none none (vB P jp x (vEp D) false)⟩ (.store 1 false) [.ptr (.l 8) 5 1, .ptr (.l k) 9 0] = some (.v undef, ⟨dset G P D, bL P (vJ0 D) (vJ1 D) none none none (vB P (.ptr (.l k) 9 0) x (vEp D) false)⟩) := rfl
    have lj : ∀ {x : Nat} {jp : AV}, prim ⟨dset G P D, bL P (vJ0 D) (vJ1 D) none none none (vB P jp x (vEp D) false)⟩ (.load 1 false) [.ptr (.l 8) 5 1] = some (jp, ⟨dset G P D, bL P (vJ0 D) (vJ1 D) none none none (vB P jp x (vEp D) false)⟩) := rfl
    by_cases hc : (vJ1 D).fi.toNat > (vJ0 D).fi.toNat
    · have hh : vHalf D = 1 := by unfold vHalf; rw [if_pos hc]
      have hf : (vJ1 D).fi ≠ 0#32 := fun e => by rw [e] at hc; simp at hc
      have eO : openV D = (D, vJ1 D, ⟨1, vEp D, false⟩) := by unfold openV; rw [hh]; rw [if_neg (by simp), if_pos rfl]
      rw [eO]
      simp (disch := first | (simp only [DS, reduceCtorEq]; done) | omega) only [WS, St.guard, St.put, evalO, reduceCtorEq, reduceIte, Nat.reduceAdd, Nat.reduceEqDiff, hc, decide_true, sh, lh, Int.cast_ofNat_Int, ix1, la1, sj, lj]
      refine (WP_p (x := u32 (vJ1 D).fi) (by
        have := first_at H.toJourLib (G := (⟨dset G P D, bL P (vJ0 D) (vJ1 D) none none none (vB P (.ptr (.l 3) 9 0) 1 (vEp D) false)⟩ : Hp).into) (a := G.length + 3) (fi := (vJ1 D).fi) (into_jB (i := 2) h rfl) rfl rfl
        rw [← hd] at this
        exact this) (by exact gb nn nn rfl (.inl rfl))).2 ?_
      simp (disch := first | (simp only [DS, reduceCtorEq]; done) | omega) only [WS, St.guard, St.put, evalO, reduceCtorEq, reduceIte, Nat.reduceAdd, Nat.reduceEqDiff, u32_eq0, hf, decide_false, fin_tmp2]
      refine ⟨by simp, ?_⟩
      have := leave_v3 (g := dset G P D) (L := bL P (vJ0 D) (vJ1 D) none none none (vB P (.ptr (.l 3) 9 0) 1 (vEp D) false)) (J := vJ1 D) (x := .int .i64 0) (.inr (.inl ⟨rfl, rfl⟩)) rfl rfl rfl (by rw [hd]; exact hp)
      rw [hd] at this
      exact this
    · have hh : vHalf D = 0 := by unfold vHalf; rw [if_neg hc]
      simp (disch := first | (simp only [DS, reduceCtorEq]; done) | omega) only [WS, St.guard, St.put, evalO, reduceCtorEq, reduceIte, Nat.reduceAdd, Nat.reduceEqDiff, hc, decide_false, sh, lh, Int.cast_ofNat_Int, ix0, la0, sj, lj]
      refine (WP_p (x := u32 (vJ0 D).fi) (by
        have := first_at H.toJourLib (G := (⟨dset G P D, bL P (vJ0 D) (vJ1 D) none none none (vB P (.ptr (.l 1) 9 0) 0 (vEp D) false)⟩ : Hp).into) (a := G.length + 1) (fi := (vJ0 D).fi) (into_jB (i := 0) h rfl) rfl rfl
        rw [← hd] at this
        exact this) (by exact gb nn nn rfl (.inl rfl))).2 ?_
      by_cases hf : (vJ0 D).fi = 0#32
      · have eO : openV D = ((bgJ D 0 (D.b.length / 2) (vEp D) []).2.1, (bgJ D 0 (D.b.length / 2) (vEp D) []).2.2, ⟨0, vEp D, false⟩) := by unfold openV; rw [if_pos ⟨hf, hh⟩]
        rw [eO]
        simp (disch := first | (simp only [DS, reduceCtorEq]; done) | omega) only [WS, St.guard, St.put, evalO, reduceCtorEq, reduceIte, Nat.reduceAdd, Nat.reduceEqDiff, u32_eq0, hf, decide_true]
        refine WP_of (begin_walk H h z hl ho h4 rfl hEp hok) ?_
        simp (disch := first | (simp only [DS, reduceCtorEq]; done) | omega) only [WS, St.guard, St.put, evalO, reduceCtorEq, reduceIte, Nat.reduceAdd, Nat.reduceEqDiff, Int.reduceBNe, fin_tmp2]
        refine ⟨by simp, ?_⟩
        have hd2 : ∀ D', (dset G P D').length = G.length := fun D' => dset_len
        have := leave_v3 (g := dset G P (bgJ D 0 (D.b.length / 2) (vEp D) []).2.1) (L := bL P (vJ0 D) (vJ1 D) (recB (bgJ D 0 (D.b.length / 2) (vEp D) []).2.2.recs) (jB P 5 (bgJ D 0 (D.b.length / 2) (vEp D) []).2.2) baseB (vB P (.ptr (.l 6) 9 0) 0 (vEp D) false)) (J := (bgJ D 0 (D.b.length / 2) (vEp D) []).2.2) (x := .int .i64 0) (.inr (.inr ⟨rfl, rfl⟩)) rfl rfl rfl (by rw [hd2]; exact hp)
        rw [hd2] at this
        exact this
      · have eO : openV D = (D, vJ0 D, ⟨0, vEp D, false⟩) := by unfold openV; rw [if_neg (fun e => hf e.1), hh]; rfl
        rw [eO]
        simp (disch := first | (simp only [DS, reduceCtorEq]; done) | omega) only [WS, St.guard, St.put, evalO, reduceCtorEq, reduceIte, Nat.reduceAdd, Nat.reduceEqDiff, u32_eq0, hf, decide_false, fin_tmp2]
        refine ⟨by simp, ?_⟩
        have := leave_v3 (g := dset G P D) (L := bL P (vJ0 D) (vJ1 D) none none none (vB P (.ptr (.l 1) 9 0) 0 (vEp D) false)) (J := vJ0 D) (x := .int .i64 0) (.inl ⟨rfl, rfl⟩) rfl rfl rfl (by rw [hd]; exact hp)
        rw [hd] at this
        exact this
end Go.AM
namespace Go.AM
variable {prog : String → Option IFn}
variable {G L : List (Option Blk)} {P : DPos} {D : DskD} {n q p pv i j : Nat} {B : Option Blk} {cs : List AV} {J J0 J1 : JD} {V : VD}
theorem freezes_rec {h : Hp} : ∀ l : List Txt, h.freezes (recE.row l) = some (recE.row l, h)
  | [] => rfl
  | b :: l => by
    have e : recE.row (b :: l) = roAV b :: recE.row l := rfl
    rw [e]
    simp only [Hp.freezes, Hp.freeze, roAV, Option.bind_some, freezes_rec l, Option.map_some]
def clR (g : Nat) (l : List Txt) : AV := if l = [] then .own (.o g) 0 0 0 1 (some 0) else .own (.o g) l.length 0 l.length 1 none
def clB (l : List Txt) : Option Blk := if l = [] then some (dBlk [] false false) else recB l
theorem row_drop1 (l : List Txt) : (recE.row l).drop 1 = recE.row (l.drop 1) := by cases l <;> rfl
theorem clone_rec (H : VaultLib prog) {k : Nat} {l : List Txt} (hk : G[k]? = some (recB l)) (h1 : 1 ≤ l.length) (hr : l.length * 24 ≤ room) :
    Ev prog (.call "slices.Clone[[][]byte,[]byte]" [.own (.o k) l.length 1 (l.length - 1) 1 none] G) (.ret (clR G.length (l.drop 1)) (G ++ [clB (l.drop 1)])) := by
  refine call_of_fin H.clonerr ?_
  simp only [f_slices_Clone_____byte___byte__B, enter, List.length_cons, List.length_nil, List.replicate, Nat.reduceAdd, Nat.reduceSub, List.cons_append, List.nil_append]
  have he : l.isEmpty = false := by cases l with | nil => simp at h1 | cons => rfl
  have w : ∀ L, View ⟨G, L⟩ (.own (.o k) l.length 1 (l.length - 1) 1 none) 1 (l.length - 1) (recE.row (l.drop 1)) := fun L => by
    refine ⟨rfl, ?_, by rw [rec_len, List.length_drop]; omega, rfl, trivial, by omega⟩
    simp only [Hp.sees, Hp.get, hk, recB, Option.join_some, dBlk_cells, rec_len, if_true, Nat.mul_one]
    rw [row_drop1, List.take_of_length_le (by rw [rec_len, List.length_drop]; exact Nat.le_refl _)]
  have hn : ∀ L, (⟨G, L⟩ : Hp).isNil .slice (.own (.o k) l.length 1 (l.length - 1) 1 none) = some false := fun L => by
    simp only [Hp.isNil, Hp.get, hk, recB, Option.join_some, dBlk_cells, rec_len, if_true]
    show some l.isEmpty = _
    rw [he]
  have b0 : prim ⟨G, [none, none]⟩ (.buildSlice 0 true 1 0 [.slice none 0 0] []) [] = some (.own (.l 0) 0 0 0 1 (some 0), ⟨G, [some (dBlk [] false false), none]⟩) := rfl
  simp (disch := first | (simp only [DS, reduceCtorEq]; done) | omega) only [WS, St.guard, St.put, evalO, reduceCtorEq, reduceIte, Nat.reduceAdd, Nat.reduceEqDiff, isNilV, hn, b0]
  by_cases hd : l.drop 1 = []
  · have e0 : l.length - 1 = 0 := by have := congrArg List.length hd; rw [List.length_drop] at this; exact this
    have e : prim ⟨G, [some (dBlk [] false false), none]⟩ (.append 1 true 1 24) [.own (.l 0) 0 0 0 1 (some 0), .own (.o k) l.length 1 (l.length - 1) 1 none] = some (.own (.l 0) 0 0 0 1 (some 0), ⟨G, [some (dBlk [] false false), none]⟩) := by
      have hv := w [some (dBlk [] false false), none]
      rw [e0, hd] at hv
      rw [e0]
      simp only [prim, hv.source, Option.bind_some, Hp.mayFreeze, if_true, freezes_rec, Hp.append, rec_len, List.length_nil, Nat.zero_mul, Hp.get, List.getElem?_cons_zero, Option.join_some, dBlk_cells]
      exact if_pos ⟨trivial, trivial, by omega, rfl⟩
    refine (WR_eq e).2 ?_
    simp (disch := first | (simp only [DS, reduceCtorEq]; done) | omega) only [WS, St.guard, St.put, evalO, reduceCtorEq, reduceIte, Nat.reduceAdd, Nat.reduceEqDiff, fin_tmp]
    refine ⟨by simp, ?_⟩
    unfold clR clB
    rw [if_pos hd, if_pos hd]
    exact leave_own1 (j := 0) rfl rfl
  · have h0 : 0 < l.length - 1 := by
      rw [← List.length_drop]
      cases hh : l.drop 1 with
      | nil => exact absurd hh hd
      | cons => simp
    have e : prim ⟨G, [some (dBlk [] false false), none]⟩ (.append 1 true 1 24) [.own (.l 0) 0 0 0 1 (some 0), .own (.o k) l.length 1 (l.length - 1) 1 none] = some (.own (.l 1) (l.length - 1) 0 (l.length - 1) 1 none, ⟨G, [some (dBlk [] false false), recB (l.drop 1)]⟩) := by
      have hv := w [some (dBlk [] false false), none]
      have hE : (l.drop 1).isEmpty = false := by cases hh : l.drop 1 with | nil => exact absurd hh hd | cons => rfl
      have hlf : AV.lf.lfs (recE.row (l.drop 1)) = true := recE.row_lf _
      simp only [prim, hv.source, Option.bind_some, Hp.mayFreeze, if_true, freezes_rec, Hp.append, rec_len, List.length_drop, Nat.mul_one, Hp.get, List.getElem?_cons_zero, Option.join_some, dBlk_cells, List.length_nil, Nat.zero_add]
      refine (if_pos ⟨trivial, trivial, by omega, rfl⟩).trans ?_
      rw [if_neg (by omega), if_neg (by omega)]
      simp only [Hp.new, List.getElem?_cons_succ, List.getElem?_cons_zero, Option.map_some, Nat.zero_mul, List.take_zero, List.drop_zero, List.nil_append, recB, hE, dBlk, hlf, Bool.and_self, List.set_cons_succ, List.set_cons_zero]
    refine (WR_eq e).2 ?_
    simp (disch := first | (simp only [DS, reduceCtorEq]; done) | omega) only [WS, St.guard, St.put, evalO, reduceCtorEq, reduceIte, Nat.reduceAdd, Nat.reduceEqDiff, fin_tmp]
    refine ⟨by simp, ?_⟩
    unfold clR clB
    rw [if_neg hd, if_neg hd, List.length_drop]
    exact leave_own1 (j := 1) rfl rfl
theorem clB_db {l : List Txt} : ∀ b, clB l = some b → b.labs = [] := fun b e => by
  unfold clB at e
  split at e <;> (cases e; rfl)
theorem VRecords_spec (H : VaultLib prog) (h : VOk G.length P q p pv n) (h1 : 1 ≤ J.recs.length) (hne : ∀ b ∈ J.recs, b ≠ []) (hbl : ∀ b ∈ J.recs, b.length ≤ room) (hrl : J.recs.length * 24 ≤ room) :
    Ev prog (.call "(*haberdash/vault.Vault).Records" [.ptr (.o pv) 5 0] (vj G P q p pv D J V)) (.ret (clR G.length (J.recs.drop 1)) (vj G P q p pv D J V ++ [clB (J.recs.drop 1)])) := by
  refine call_of_fin H.vrecs ?_
  simp only [f___vault_Vault__Records_B, enter, List.length_cons, List.length_nil, List.replicate, Nat.reduceAdd, Nat.reduceSub, List.cons_append, List.nil_append]
  have l1 : ∀ L, prim ⟨vj G P q p pv D J V, L⟩ (.load 1 false) [.ptr (.o pv) 5 1] = some (.ptr (.o p) 9 0, ⟨vj G P q p pv D J V, L⟩) := fun L => vj_ld h rfl
  have nn : ∀ b, (none : Option Blk) = some b → b.labs = [] := fun b e => by cases e
  have rb : ∀ b, recB J.recs = some b → b.labs = [] := fun b e => by cases e; rfl
  have g1 : Good ⟨vj G P q p pv D J V, [none, none]⟩ := trivial
  have g2 : Good ⟨vj G P q p pv D J V, [recB J.recs, none]⟩ := goodD rb trivial
  have i1 : (⟨vj G P q p pv D J V, [none, none]⟩ : Hp).into = dj (G.set pv (vob P.p p V) ++ [none, none]) P q p D (recB J.recs) (jC .o P.p q J) := by
    rw [into_dat (by intro B hB b e; subst e; simp at hB), dj_app h.s]; rfl
  have i2 : (⟨vj G P q p pv D J V, [recB J.recs, none]⟩ : Hp).into = vj G P q p pv D J V ++ [recB J.recs, none] := into_dat (by intro B hB b e; subst e; simp at hB; exact rb _ hB.symm)
  simp (disch := first | (simp only [DS, reduceCtorEq]; done) | omega) only [WS, St.guard, St.put, evalO, reduceCtorEq, reduceIte, Nat.reduceAdd, Nat.reduceEqDiff, isNilV, Hp.isNil, l1]
  have hR : Ev prog (.op (.call "(*haberdash/journal.Journal).Records" [0]) [.ptr (.o p) 9 0] ⟨vj G P q p pv D J V, [none, none]⟩) (.val (.own (.l 0) J.recs.length 0 J.recs.length 1 none) ⟨vj G P q p pv D J V, [recB J.recs, none]⟩) := by
    refine op_news (h := ⟨vj G P q p pv D J V, [none, none]⟩) (sites := [0]) (Bs := [recB J.recs]) (r := .own (.o (⟨vj G P q p pv D J V, [none, none]⟩ : Hp).into.length) J.recs.length 0 J.recs.length 1 none) ?_ (by intro B hB b e; simp only [List.mem_singleton] at hB; subst hB; exact rb b e) rfl (by decide) rfl g1 ren_own1
    have := Records_spec (G := G.set pv (vob P.p p V) ++ [none, none]) H.toJourLib (D := D) ((h.s (X := vob P.p p V)).app (X := [none, none])) hne hbl hrl
    rw [i1, dj_len]
    exact this
  refine WP_of hR ?_
  have mn : ∀ h, prim h .min [.v (.int .i64 1), .v (.int .i64 (J.recs.length : Nat))] = some (.v (.int .i64 1), h) := fun h => by
    rw [px_min]
    have : mins IntKind.i64 1 [.v (.int .i64 (J.recs.length : Nat))] = some 1 := by
      simp only [mins, Option.some.injEq]; omega
    rw [this]; rfl
  have sl : ∀ h, prim h (.slice 1 true false false) [.own (.l 0) J.recs.length 0 J.recs.length 1 none, .v (.int .i64 1)] = some (.own (.l 0) J.recs.length 1 (J.recs.length - 1) 1 none, h) := fun h => by
    rw [px_slice_own, if_pos rfl]
    have : bounds J.recs.length none true false false [.v (.int .i64 1)] = some (1, J.recs.length, none) := if_pos h1
    rw [this]
    exact if_pos h1
  have ln : ∀ h, prim h .lenSlice [.own (.l 0) J.recs.length 0 J.recs.length 1 none] = some (.v (.int .i64 (J.recs.length : Nat)), h) := fun h => rfl
  simp (disch := first | (simp only [DS, reduceCtorEq]; done) | omega) only [WS, St.guard, St.put, evalO, reduceCtorEq, reduceIte, Nat.reduceAdd, Nat.reduceEqDiff, ln, mn, sl]
  have hC : Ev prog (.op (.call "slices.Clone[[][]byte,[]byte]" [1]) [.own (.l 0) J.recs.length 1 (J.recs.length - 1) 1 none] ⟨vj G P q p pv D J V, [recB J.recs, none]⟩) (.val (if J.recs.drop 1 = [] then .own (.l 1) 0 0 0 1 (some 0) else .own (.l 1) (J.recs.drop 1).length 0 (J.recs.drop 1).length 1 none) ⟨vj G P q p pv D J V, [recB J.recs, clB (J.recs.drop 1)]⟩) := by
    refine op_news (h := ⟨vj G P q p pv D J V, [recB J.recs, none]⟩) (sites := [1]) (Bs := [clB (J.recs.drop 1)]) (r := clR (⟨vj G P q p pv D J V, [recB J.recs, none]⟩ : Hp).into.length (J.recs.drop 1)) ?_ (by intro B hB b e; simp only [List.mem_singleton] at hB; subst hB; exact clB_db b e) rfl (by decide) rfl g2 ?_
    · exact clone_rec H (k := (vj G P q p pv D J V).length + 0) (by rw [i2, List.getElem?_append_right (by omega)]; simp) h1 hrl
    · unfold clR; split <;> exact ren_own1
  refine WP_of hC ?_
  simp (disch := first | (simp only [DS, reduceCtorEq]; done) | omega) only [WS, St.guard, St.put, evalO, reduceCtorEq, reduceIte, Nat.reduceAdd, Nat.reduceEqDiff, fin_tmp]
  refine ⟨by simp, ?_⟩
  unfold clR clB
  have hl : (vj G P q p pv D J V).length = G.length := vj_len
  rw [← hl]
  by_cases hd : J.recs.drop 1 = []
  · rw [if_pos hd, if_pos hd, if_pos hd]
    exact leave_own1 (j := 1) rfl rfl
  · rw [if_neg hd, if_neg hd, if_neg hd]
    exact leave_own1 (j := 1) rfl rfl
end Go.AM
namespace Go.AM
variable {prog : String → Option IFn}
variable {G L : List (Option Blk)} {P : DPos} {D : DskD} {n q p pv i j : Nat} {B : Option Blk} {cs : List AV} {J J0 J1 : JD} {V : VD}
def lv (L : List (Option Blk)) (P : DPos) (q p pv : Nat) (D : DskD) (J : JD) (V : VD) : List (Option Blk) := (lj L P q p D (recB J.recs) (jC .l P.p q J)).set pv (some (sBlk (vC .l P.p p V) false))
structure LVOk (L : List (Option Blk)) (P : DPos) (q p pv n : Nat) : Prop where
  o : LOk L P q p n
  v : pv < L.length
  lt : p < pv
  f : Off P q p pv
theorem vC_up {g pd pj : Nat} : AV.ren.rens (up g) (vC .l pd pj V) = vC .o (g + pd) (g + pj) V := rfl
theorem vC_labs {f : Nat → Lab} {pd pj : Nat} : AV.labs.labss (vC f pd pj V) = [f pd, f pj] := rfl
theorem LVOk.off (h : LVOk L P q p pv n) {g : Nat} : Off (P.sh g) (g + q) (g + p) (g + pv) := by
  obtain ⟨h0, h1, h2, h3, h4, h5⟩ := h.f
  refine ⟨?_, ?_, ?_, ?_, by omega, by omega⟩
  · show g + pv ≠ g + P.q0; omega
  · show g + pv ≠ g + P.q1; omega
  · show g + pv ≠ g + P.q2; omega
  · show g + pv ≠ g + P.p; omega
theorem LVOk.into (h : LVOk L P q p pv n) : VOk (⟨G, L⟩ : Hp).into.length (P.sh G.length) (G.length + q) (G.length + p) (G.length + pv) n :=
  ⟨h.o.into, by rw [into_len]; have := h.v; simp only; omega, h.off⟩
theorem into_lv (h : LVOk L P q p pv n) : (⟨G, lv L P q p pv D J V⟩ : Hp).into = vj (⟨G, L⟩ : Hp).into (P.sh G.length) (G.length + q) (G.length + p) (G.length + pv) D J V := by
  have s : ∀ (M : List (Option Blk)) (k : Nat) (x : Option Blk), (G ++ M).set (G.length + k) x = G ++ M.set k x := fun M k x => by rw [List.set_append_right _ _ (by omega)]; simp
  have e2 : (some (sBlk (vC .l P.p p V) false)).map (Blk.ren (up G.length)) = vob (P.sh G.length).p (G.length + p) V := by
    simp only [Option.map_some, Blk.ren, sBlk, Bool.false_eq_true, if_false, vC_up]
    rfl
  unfold vj lv
  rw [← dj_setO h.off]
  have e := into_lj (G := G) (L := L) (P := P) (q := q) (p := p) (D := D) (B := recB J.recs) (cs := jC .l P.p q J) recB_data
  rw [jC_up] at e
  show _ = (dj _ _ _ _ _ _ (jC .o (G.length + P.p) (G.length + q) J)).set _ _
  rw [← e]
  simp only [Hp.into, List.map_set, e2]
  rw [s]
theorem lvG (hL : Good ⟨G, L⟩) (h : LVOk L P q p pv n) : Good ⟨G, lv L P q p pv D J V⟩ := by
  have h1 := h.lt; have h2 := h.o.pp
  refine Good.setB (jG hL h.o) (sBlk_good ?_)
  rw [vC_labs]
  simp [refLt]; omega
theorem lv_len : (lv L P q p pv D J V).length = L.length := by simp [lv, lj, lset]
theorem lopV (hL : Good ⟨G, L⟩) (h : LVOk L P q p pv n) {f xs} {r : AV} {D' : DskD} {J' : JD} {V' : VD} (hr : r.lf = true)
    (he : Ev prog (.call f (xs.map (AV.ren (up G.length))) (vj (⟨G, L⟩ : Hp).into (P.sh G.length) (G.length + q) (G.length + p) (G.length + pv) D J V))
      (.ret r (vj (⟨G, L⟩ : Hp).into (P.sh G.length) (G.length + q) (G.length + p) (G.length + pv) D' J' V'))) :
    Ev prog (.op (.call f []) xs ⟨G, lv L P q p pv D J V⟩) (.val r ⟨G, lv L P q p pv D' J' V'⟩) := by
  refine op_turn ⟨G, lv L P q p pv D' J' V'⟩ ?_ hr rfl (by rw [lv_len, lv_len]) (lvG hL h) (lvG hL h)
  rw [into_lv h, into_lv h]
  exact he
section
variable (H : VaultLib prog) (h : LVOk L P q p pv n) (hL : Good ⟨G, L⟩)
include H h hL
theorem tUsed : Ev prog (.op (.call "(*haberdash/vault.Vault).Used" []) [.ptr (.l pv) 5 0] ⟨G, lv L P q p pv D J V⟩) (.val (.v (.int .i64 (J.used : Nat))) ⟨G, lv L P q p pv D J V⟩) :=
  lopV hL h rfl (VUsed_spec H h.into)
theorem tHalf : Ev prog (.op (.call "(*haberdash/vault.Vault).Half" []) [.ptr (.l pv) 5 0] ⟨G, lv L P q p pv D J V⟩) (.val (.v (.int .i64 (V.half : Nat))) ⟨G, lv L P q p pv D J V⟩) :=
  lopV hL h rfl (VHalf_spec H h.into)
theorem tAdd (z : Siz D n) (hN : n ≤ 20000) {a : AV} {b : Txt} (A : Arg ((⟨G, L⟩ : Hp).into.set (G.length + pv) (vob (P.sh G.length).p (G.length + p) V)) (P.sh G.length) (G.length + q) (G.length + p) (a.ren (up G.length)) b) (he : J.ep ≠ 0#32) (hf : J.frm + J.n ≤ 20000) (hu : J.used ≤ J.n) (hr : J.recs.length ≤ J.used) (hbl : b.length < 2 ^ 62) :
    Ev prog (.op (.call "(*haberdash/vault.Vault).Add" []) [.ptr (.l pv) 5 0, a] ⟨G, lv L P q p pv D J V⟩)
      (.val (.v (.int .i64 (V.add D J b).1)) ⟨G, lv L P q p pv (V.add D J b).2.1 (V.add D J b).2.2.1 (V.add D J b).2.2.2⟩) :=
  lopV hL h rfl (VAdd_spec H h.into z hN A he hf hu hr hbl)
theorem tRecs {i : Nat} (h1 : 1 ≤ J.recs.length) (hne : ∀ b ∈ J.recs, b ≠ []) (hbl : ∀ b ∈ J.recs, b.length ≤ room) (hrl : J.recs.length * 24 ≤ room) (hi : (lv L P q p pv D J V)[i]? = some none) :
    ∃ m c, Ev prog (.op (.call "(*haberdash/vault.Vault).Records" [i]) [.ptr (.l pv) 5 0] ⟨G, lv L P q p pv D J V⟩)
      (.val (.own (.l i) m 0 (J.recs.length - 1) 1 c) ⟨G, (lv L P q p pv D J V).set i (clB (J.recs.drop 1))⟩) := by
  have hs := VRecords_spec (G := (⟨G, L⟩ : Hp).into) (D := D) (V := V) H h.into h1 hne hbl hrl
  rw [← into_lv h] at hs
  have hl : (⟨G, lv L P q p pv D J V⟩ : Hp).into.length = (⟨G, L⟩ : Hp).into.length := by rw [into_len, into_len]; simp only [lv_len]
  rw [← hl] at hs
  have hd : ∀ B ∈ [clB (J.recs.drop 1)], ∀ b, B = some b → b.labs = [] := by intro B hB b e; simp only [List.mem_singleton] at hB; subst hB; exact clB_db b e
  unfold clR at hs
  by_cases e : J.recs.drop 1 = []
  · have e0 : J.recs.length - 1 = 0 := by have := congrArg List.length e; rw [List.length_drop] at this; exact this
    rw [if_pos e] at hs
    refine ⟨0, some 0, ?_⟩
    rw [e0]
    exact op_news (h := ⟨G, lv L P q p pv D J V⟩) (sites := [i]) hs hd rfl (by simp) (by simp [free_of_get hi]) (lvG hL h) ren_own1
  · rw [if_neg e] at hs
    refine ⟨(J.recs.drop 1).length, none, ?_⟩
    rw [← List.length_drop]
    exact op_news (h := ⟨G, lv L P q p pv D J V⟩) (sites := [i]) hs hd rfl (by simp) (by simp [free_of_get hi]) (lvG hL h) ren_own1
end
end Go.AM
namespace Go.AM
variable {prog : String → Option IFn}
variable {G L : List (Option Blk)} {P : DPos} {D : DskD} {n q p pv i j : Nat} {B : Option Blk} {cs : List AV} {J J0 J1 : JD} {V : VD}
theorem Siz.eq (z : Siz D n) : D.b.length = n := z.b
theorem tOpen (H : VaultLib prog) (h : LVOk L P q p pv D.b.length) (hL : Good ⟨G, L⟩) (z : Siz D D.b.length) (hl : D.b.length ≤ 20000) (hE : openEr D = 0) (hok : (bgJ D 0 (D.b.length / 2) (vEp D) []).1 = 0)
    (hq : L[q]? = some none) (hp : L[p]? = some none) (hv : L[pv]? = some none) :
    Ev prog (.op (.call "haberdash/vault.Open" [q, p, pv]) [.ptr (.l P.p) 5 0] ⟨G, lset L P D⟩) (.val (.tup [.ptr (.l pv) 5 0, .v (.int .i64 0)]) ⟨G, lv L P q p pv (openV D).1 (openV D).2.1 (openV D).2.2⟩) := by
  have hqp := h.o.qp; have hpg := h.o.pg; have hpp := h.o.pp; have hvv := h.v; have hlt := h.lt
  obtain ⟨f0, f1, f2, f3, f4, f5⟩ := h.f
  have ls : ∀ D k, k ∉ [P.q0, P.q1, P.q2, P.p] → (lset L P D)[k]? = L[k]? := fun D k hk => by
    simp only [List.mem_cons, List.not_mem_nil, or_false, not_or] at hk
    unfold lset; rw [List.getElem?_set, if_neg (by omega), List.getElem?_set, if_neg (by omega), List.getElem?_set, if_neg (by omega), List.getElem?_set, if_neg (by omega)]
  have kq : ∀ D, (lset L P D)[q]? = some none := fun D => by rw [ls D q (fun hk => h.o.fq q hk rfl)]; exact hq
  have kp : ∀ D, (lset L P D)[p]? = some none := fun D => by rw [ls D p (fun hk => h.o.fp p hk rfl)]; exact hp
  have kv : ∀ D, (lset L P D)[pv]? = some none := fun D => by rw [ls D pv (by simp; omega)]; exact hv
  have hi := (h.o.into (G := G)).d
  have hlen : (⟨G, L⟩ : Hp).into.length = G.length + L.length := into_len
  have hll : ∀ D, (lset L P D).length = L.length := fun D => by simp [lset]
  have hil : (⟨G, lset L P D⟩ : Hp).into.length = G.length + L.length := by rw [into_lsetG, dset_len, hlen]
  have hg : ∀ D, Good ⟨G, lset L P D⟩ := fun D => lset_good hL h.o.d
  have hs := VOpen_ok (G := (⟨G, L⟩ : Hp).into) (P := P.sh G.length) H hi z hl hE hok
  obtain ⟨W, hW⟩ : ∃ W, W = openV D := ⟨_, rfl⟩
  rw [← hW] at hs ⊢
  rw [← into_lsetG, ← into_lsetG] at hs
  have hfr : ∀ D, [q, p, pv].all (free (lset L P D)) = true := fun D => by simp [free_of_get (kq D), free_of_get (kp D), free_of_get (kv D)]
  refine .opCall (hg D).okBlks hs ?_
  rw [back_into (h := ⟨G, lset L P D⟩) (h' := ⟨G, lset L P W.1⟩) rfl (by simp only [hll]) (hg W.1).refsOK (by simp [newVO]) (by simp; omega) (hfr D) (hfr W.1)]
  have ep : padTo [q, p, pv].length (newVO (⟨G, L⟩ : Hp).into.length (P.sh G.length).p W.2.1 W.2.2) = newVO (⟨G, L⟩ : Hp).into.length (P.sh G.length).p W.2.1 W.2.2 := rfl
  have d0 : down G.length (lset L P D).length [q, p, pv] (.o (G.length + P.p)) = some (.l P.p) := by
    simp only [down]; rw [if_neg (by omega), if_pos (by rw [hll]; omega)]; congr 2; omega
  have dk : ∀ k, down G.length (lset L P D).length [q, p, pv] (.o (G.length + L.length + k)) = ([q, p, pv][k]?).map .l := fun k => by
    simp only [down]; rw [if_neg (by omega), if_neg (by rw [hll]; omega), hll]; congr 2; omega
  have d1 : down G.length (lset L P D).length [q, p, pv] (.o (G.length + L.length)) = some (.l q) := dk 0
  have d2 : down G.length (lset L P D).length [q, p, pv] (.o (G.length + L.length + 1)) = some (.l p) := dk 1
  have d3 : down G.length (lset L P D).length [q, p, pv] (.o (G.length + L.length + 2)) = some (.l pv) := dk 2
  rw [ep]
  have eP : (P.sh G.length).p = G.length + P.p := rfl
  have er : ∀ ρ, (recB W.2.1.recs).map (Blk.ren ρ) = recB W.2.1.recs := fun ρ => rfl
  have e1 : (sBlk (jC .o (G.length + P.p) (G.length + L.length) W.2.1) false).ren (down G.length (lset L P D).length [q, p, pv]) = sBlk (jC .l P.p q W.2.1) false := by
    simp only [Blk.ren, sBlk, Bool.false_eq_true, if_false, jC, AV.ren.rens, AV.ren, d0, d1]
  have e2 : (sBlk (vC .o (G.length + P.p) (G.length + L.length + 1) W.2.2) false).ren (down G.length (lset L P D).length [q, p, pv]) = sBlk (vC .l P.p p W.2.2) false := by
    simp only [Blk.ren, sBlk, Bool.false_eq_true, if_false, vC, AV.ren.rens, AV.ren, d0, d2]
  simp only [newVO, hlen, eP, List.map_cons, List.map_nil, er, Option.map_some, e1, e2, AM.putAll, AV.ren, AV.ren.rens, d3]
  rfl
end Go.AM
