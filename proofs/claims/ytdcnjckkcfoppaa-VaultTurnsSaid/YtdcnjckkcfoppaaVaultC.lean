import Derived.Test.YtdcnjckkcfoppaaVaultB
import Derived.Test.YtdcnjckkcfoppaaJourD
import Derived.Test.YtdcnjckkcfoppaaLawJour
set_option linter.unusedVariables false
set_option linter.unusedSimpArgs false
namespace Go.AM
variable {prog : String → Option IFn}
variable {G L M : List (Option Blk)} {P : DPos} {D : DskD} {n q p pv i j s0 s1 s2 : Nat} {B : Option Blk} {cs : List AV} {J J0 J1 : JD} {V : VD}
def vBegin (s0 s1 s2 : Nat) : ICode :=
 (.seq
 (.ops [ iP 6 .id [kI 0]])
 (.seq
 (.ops [ iP 11 .id [.t 0], iP 12 .nilCheck [.t 11], iP 13 (.fieldAddr 0) [.t 12], iP 14 (.load 1 false) [.t 13], iP 15 (.call "(*haberdash/disk.Disk).Len" []) [.t 14], iP 16 (.bin .quo) [.t 15, kI 2], iP 7 .id [.t 16]])
 (.seq
 (.draw [ iP 18 .id [.t 0], iP 19 .nilCheck [.t 18], iP 20 (.fieldAddr 0) [.t 19], iP 21 (.load 1 false) [.t 20], iP 22 .id [.t 1], iP 23 .id [.t 7], iP 24 (.bin .mul) [.t 22, .t 23], iP 25 .id [.t 7], iP 26 .id [.t 0], iP 27 .nilCheck [.t 26], iP 28 (.fieldAddr 3) [.t 27], iP 29 (.load 1 false) [.t 28], iP 30 (.call "haberdash/journal.New" [s0, s1]) [.t 21, .t 24, .t 25, .t 29], iP 17 .id [.t 30], iP 31 (.extract 0) [.t 17], iP 32 (.extract 1) [.t 17], iP 8 .id [.t 31], iP 9 .id [.t 32]])
 (.seq
 (.seq
 (.ops [ iP 33 .id [.t 9], iP 34 (.bin .neq) [.t 33, kI 0]])
 (.cond (.t 34)
 (.seq
 (.ops [ iP 35 .id [.t 9], iP 6 .id [.t 35]])
 .ret)
 .skip))
 (.seq
 (.seq
 (.ops [ iP 36 .id [.t 8], iP 37 .id [.t 2], iP 38 (.call "haberdash/vault.based" [s2]) [.t 37], iP 39 (.call "(*haberdash/journal.Journal).Add" []) [.t 36, .t 38], iP 10 .id [.t 39]])
 (.seq
 (.ops [ iP 40 .id [.t 10], iP 41 (.bin .neq) [.t 40, kI 0]])
 (.cond (.t 41)
 (.seq
 (.ops [ iP 42 .id [.t 10], iP 6 .id [.t 42]])
 .ret)
 .skip)))
 (.seq
 (.ops [ iP 43 .id [.t 0], iP 44 .id [.t 0], iP 45 .id [.t 8], iP 46 .id [.t 1], iP 47 .nilCheck [.t 43], iP 48 (.fieldAddr 1) [.t 47], iN (.store 1 false) [.t 48, .t 45], iP 49 .nilCheck [.t 44], iP 50 (.fieldAddr 2) [.t 49], iN (.store 1 false) [.t 50, .t 46]])
 (.seq
 (.ops [ iP 6 .id [kI 0]])
 .ret)))))))
def vCompact (nm : String) (s0 s1 s2 : Nat) : ICode :=
 (.seq
 (.ops [ iP 4 .id [kI 0]])
 (.seq
 (.block 0
 (.seq
 (.ops [ iP 7 .id [.t 0], iP 8 (.eqNil false .ptr) [.t 7, .c (.pointer none)], iP 6 .id [.t 8]])
 (.cond (.t 6)
 (.seq
 (.ops [ iP 4 .id [kI 1]])
 .ret)
 (.seq
 (.ops [ iP 10 .id [.t 0], iP 11 .nilCheck [.t 10], iP 12 (.fieldAddr 4) [.t 11], iP 13 (.load 1 false) [.t 12], iP 14 .id [.t 13], iG 14 false 15 .id [.t 0], iG 14 false 16 .nilCheck [.t 15], iG 14 false 17 (.fieldAddr 0) [.t 16], iG 14 false 18 (.load 1 false) [.t 17], iG 14 false 19 (.call "(*haberdash/disk.Disk).Down" []) [.t 18], iP 20 .pick [.t 14, .c (.bool true), .t 19], iP 9 .id [.t 20]])
 (.cond (.t 9)
 (.seq
 (.ops [ iP 21 .id [.t 0], iP 22 .nilCheck [.t 21], iP 23 (.fieldAddr 4) [.t 22], iN (.store 1 false) [.t 23, .c (.bool true)]])
 (.seq
 (.ops [ iP 4 .id [kI 9]])
 .ret))
 (.seq
 (.ops [ iP 25 .id [.t 1], iP 26 .lenSlice [.t 25], iP 27 (.bin .geq) [.t 26, kI 400000], iP 24 .id [.t 27]])
 (.cond (.t 24)
 (.seq
 (.ops [ iP 4 .id [kI 2]])
 .ret)
 (.seq
 (.draw [ iP 29 .id [.t 0], iP 30 .nilCheck [.t 29], iP 31 (.fieldAddr 3) [.t 30], iP 32 (.load 1 false) [.t 31], iP 33 (.bin .eql) [.t 32, .c (.int .u32 4294967295)], iP 34 .id [.t 33], iG 34 false 35 .id [.t 1], iG 34 false 36 .lenSlice [.t 35], iG 34 false 37 (.bin .add) [kI 1, .t 36], iG 34 false 38 (.call "haberdash/journal.Need" []) [.t 37], iG 34 false 39 .id [.t 0], iG 34 false 40 .nilCheck [.t 39], iG 34 false 41 (.fieldAddr 0) [.t 40], iG 34 false 42 (.load 1 false) [.t 41], iG 34 false 43 (.call "(*haberdash/disk.Disk).Len" []) [.t 42], iG 34 false 44 (.bin .quo) [.t 43, kI 2], iG 34 false 45 (.bin .gtr) [.t 38, .t 44], iP 46 .pick [.t 34, .c (.bool true), .t 45], iP 28 .id [.t 46]])
 (.cond (.t 28)
 (.seq
 (.ops [ iP 4 .id [kI 6]])
 .ret)
 .skip)))))))))
 (.seq
 (.ops [ iP 47 .id [.t 0], iP 48 .nilCheck [.t 47], iP 49 (.fieldAddr 3) [.t 48], iP 50 (.load 1 false) [.t 49], iP 51 (.bin .add) [.t 50, .c (.int .u32 1)], iP 52 .nilCheck [.t 47], iP 53 (.fieldAddr 3) [.t 52], iN (.store 1 false) [.t 53, .t 51]])
 (.seq
 (.ops [ iP 54 .id [.t 0], iP 55 .id [.t 0], iP 56 .nilCheck [.t 55], iP 57 (.fieldAddr 2) [.t 56], iP 58 (.load 1 false) [.t 57], iP 59 (.bin .sub) [kI 1, .t 58], iP 60 .id [.t 1], iP 61 (.callIn nm [s0, s1, s2]) [.t 54, .t 59, .t 60], iP 5 .id [.t 61]])
 (.seq
 (.ops [ iP 62 .id [.t 0], iP 63 .id [.t 5], iP 64 (.bin .eql) [.t 63, kI 9], iP 65 .nilCheck [.t 62], iP 66 (.fieldAddr 4) [.t 65], iN (.store 1 false) [.t 66, .t 64]])
 (.seq
 (.ops [ iP 67 .id [.t 5], iP 4 .id [.t 67]])
 .ret))))))
theorem vBegin_turns : f___vault_Vault__begin_VaultTurns = ⟨51, 3, [.tmp 6], vBegin 5 6 7⟩ := rfl
theorem vCompact_turns : f___vault_Vault__Compact_VaultTurns = ⟨68, 3, [.tmp 4], vCompact "(*haberdash/vault.Vault).begin#VaultTurns" 5 6 7⟩ := rfl
def vt (L : List (Option Blk)) (P : DPos) (q p : Nat) (J : JD) : List (Option Blk) := (L.set q (recB J.recs)).set p (some (sBlk (jC .l P.p q J) false))
def vS (P : DPos) (p : Nat) (V : VD) : Option Blk := some (sBlk (vC .l P.p p V) false)
theorem lset_set {k : Nat} {X : Option Blk} (h : k ∉ [P.q0, P.q1, P.q2, P.p]) : lset (L.set k X) P D = (lset L P D).set k X := by
  simp only [List.mem_cons, List.not_mem_nil, or_false, not_or] at h
  unfold lset
  rw [List.set_comm _ _ (by omega : k ≠ P.q0), List.set_comm _ _ (by omega : k ≠ P.q1), List.set_comm _ _ (by omega : k ≠ P.q2), List.set_comm _ _ (by omega : k ≠ P.p)]
theorem lv_vt (h : LVOk L P q p pv n) : lv L P q p pv D J V = lset ((vt L P q p J).set pv (vS P p V)) P D := by
  obtain ⟨f0, f1, f2, f3, f4, f5⟩ := h.f
  unfold vt vS
  rw [lset_set (by simp; omega), lset_set (fun hk => h.o.fp _ hk rfl), lset_set (fun hk => h.o.fq _ hk rfl)]
  rfl
theorem lv_of (h : LVOk M P s0 s1 pv n) {N : JD} {V' : VD} : lj (M.set pv (vS P s1 V')) P s0 s1 D (recB N.recs) (jC .l P.p s0 N) = lv M P s0 s1 pv D N V' := by
  obtain ⟨f0, f1, f2, f3, f4, f5⟩ := h.f
  unfold lv lj vS
  rw [lset_set (by simp; omega), List.set_comm _ _ (by omega : pv ≠ s0), List.set_comm _ _ (by omega : pv ≠ s1)]
theorem vld {pd pj : Nat} (hM : M[pv]? = some (some (sBlk (vC .l pd pj V) false))) {i : Nat} {a : AV} (ha : (vC .l pd pj V)[i]? = some a) : prim ⟨G, M⟩ (.load 1 false) [.ptr (.l pv) 5 i] = some (a, ⟨G, M⟩) := by
  have hi : i < 5 := lt_of_get ha
  rw [px_load_l, hM]
  show (if (vC .l pd pj V).length = 5 ∧ i + 1 ≤ 5 then (whole false (((vC .l pd pj V).drop i).take 1)).map fun a => (a, _) else none) = _
  refine (if_pos ⟨rfl, by omega⟩).trans ?_
  rw [List.take_one, List.head?_drop, ha]; rfl
theorem vst {pd pj : Nat} (hM : M[pv]? = some (some (sBlk (vC .l pd pj V) false))) {i : Nat} {a : AV} {cs : List AV} (hi : i < 5) (ha : a.cellsOf = some [a]) (hc : lay (vC .l pd pj V) i [a] = cs) (hg : okPut (.l pv) [a] = true) : prim ⟨G, M⟩ (.store 1 false) [.ptr (.l pv) 5 i, a] = some (.v undef, ⟨G, M.set pv (some (sBlk cs false))⟩) := by
  rw [px_store, ha]
  simp only [Option.bind_some, Hp.mayFreeze, Bool.false_eq_true, if_false, Hp.get, hM, Option.join_some]
  refine (if_pos ⟨rfl, rfl, rfl, by show i + 1 ≤ 5; omega, hg⟩).trans ?_
  show some (_, Hp.put _ _ (some { sBlk (vC .l pd pj V) false with cells := lay (vC .l pd pj V) i [a], data := _ })) = _
  rw [hc]
  rfl
end Go.AM
namespace Go.AM
variable {prog : String → Option IFn}
variable {G L M : List (Option Blk)} {P : DPos} {D : DskD} {n q p p0 pv i j s0 s1 s2 : Nat} {B : Option Blk} {cs : List AV} {J J0 J1 : JD} {V : VD}
def bB (b : Txt) : Option Blk := if b = [] then some (dBlk [byteAV 1] false false) else some (dBlk ((1 :: b).map byteAV) true false)
def bR (ℓ : Lab) (b : Txt) : AV := if b = [] then .own ℓ 1 0 1 1 (some 1) else .own ℓ ((1 :: b).length * 1) 0 (1 :: b).length 1 none
structure BOk (L : List (Option Blk)) (P : DPos) (s0 s1 s2 pv n : Nat) : Prop where
  o : LOk L P s0 s1 n
  f2 : Off P s0 s1 s2
  fv : Off P s0 s1 pv
  n2 : s2 ≠ pv
  e0 : L[s0]? = some none
  e1 : L[s1]? = some none
  e2 : L[s2]? = some none
  lt : s1 < pv
theorem bB_db {b : Txt} : ∀ x, bB b = some x → x.labs = [] := fun x e => by
  unfold bB at e
  split at e <;> (cases e; rfl)
theorem lset_off {k : Nat} (h : Off P s0 s1 k) : (lset L P D)[k]? = L[k]? := by
  obtain ⟨h0, h1, h2, h3, h4, h5⟩ := h
  unfold lset; rw [List.getElem?_set, if_neg (by omega), List.getElem?_set, if_neg (by omega), List.getElem?_set, if_neg (by omega), List.getElem?_set, if_neg (by omega)]
theorem lj_off {k : Nat} (h : Off P s0 s1 k) {cs : List AV} : (lj L P s0 s1 D B cs)[k]? = L[k]? := by
  obtain ⟨h0, h1, h2, h3, h4, h5⟩ := h
  unfold lj; rw [List.getElem?_set, if_neg (by omega), List.getElem?_set, if_neg (by omega)]
  exact lset_off ⟨h0, h1, h2, h3, h4, h5⟩
theorem lj_set {k : Nat} (h : Off P s0 s1 k) {cs : List AV} {X : Option Blk} : (lj L P s0 s1 D B cs).set k X = lj (L.set k X) P s0 s1 D B cs := by
  obtain ⟨h0, h1, h2, h3, h4, h5⟩ := h
  unfold lj
  rw [lset_set (by simp; omega), List.set_comm _ _ (by omega : s1 ≠ k), List.set_comm _ _ (by omega : s0 ≠ k)]
theorem LOk.set (h : LOk L P q p n) {k : Nat} {X : Option Blk} : LOk (L.set k X) P q p n := by
  have e : (L.set k X).length = L.length := List.length_set
  exact ⟨by rw [e]; exact h.d, h.qp, by rw [e]; exact h.pg, h.pp, h.fq, h.fp⟩
theorem quiet_lj (h : LOk L P s0 s1 n) {cs : List AV} : Quiet ([s0, s1] ++ []) ⟨G, lset L P D⟩ ⟨G, lj L P s0 s1 D B cs⟩ := by
  have h1 := h.qp; have h2 := h.pg
  have hl : (lset L P D).length = L.length := by simp [lset]
  have x1 : (lj L P s0 s1 D B cs)[s1]? = some (some (sBlk cs false)) := by
    unfold lj; rw [List.getElem?_set_self (by rw [List.length_set, hl]; omega)]
  have x0 : (lj L P s0 s1 D B cs)[s0]? = some B := by
    unfold lj; rw [List.getElem?_set, if_neg (by omega), List.getElem?_set_self (by rw [hl]; omega)]
  unfold Quiet Hp.over AM.over
  simp only [List.append_nil, List.foldl_cons, List.foldl_nil, x0, x1, Option.join_some]
  rfl
set_option maxHeartbeats 1000000 in
theorem begin_law (H : VaultLib prog) {nm : String} (hnm : prog nm = some ⟨51, 3, [.tmp 6], vBegin s0 s1 s2⟩) (h : BOk L P s0 s1 s2 pv D.b.length) (hL : Good ⟨G, L⟩) (z : Siz D D.b.length) (hl : D.b.length ≤ 20000) (ho : D.off = false) (h4 : 4 ≤ D.b.length)
    (hv : L[pv]? = some (vS P p0 V)) (he : V.ep ≠ 0#32) {hf : Nat} (hf1 : hf ≤ 1) {a : AV} {b : Txt} (hb : b.length < 2 ^ 40)
    (va : ∀ N X Lx, View ⟨(⟨G, lj L P s0 s1 D (recB N.recs) (jC .l P.p s0 N)⟩ : Hp).into ++ X, Lx⟩ (a.ren (up G.length)) 1 b.length (b.map byteAV))
    (hok : (bgJ D (hf * (D.b.length / 2)) (D.b.length / 2) V.ep b).1 = 0) :
    Ev prog (.op (.callIn nm [s0, s1, s2]) [.ptr (.l pv) 5 0, .v (.int .i64 (hf : Nat)), a] ⟨G, lset L P D⟩)
      (.val (.v (.int .i64 0)) ⟨G, lj ((L.set s2 (bB b)).set pv (vS P s1 { V with half := hf })) P s0 s1 (bgJ D (hf * (D.b.length / 2)) (D.b.length / 2) V.ep b).2.1 (recB (bgJ D (hf * (D.b.length / 2)) (D.b.length / 2) V.ep b).2.2.recs) (jC .l P.p s0 (bgJ D (hf * (D.b.length / 2)) (D.b.length / 2) V.ep b).2.2)⟩) := by
  have HD := H.toDiskLib
  have hd := h.o.d
  have hi := (h.o.into (G := G)).d
  have hg : ∀ D, Good ⟨G, lset L P D⟩ := fun D => lset_good hL hd
  refine op_callIn hnm (by rfl) (by simp [lset, lj]) ?_
  simp only [vBegin, enter, List.length_cons, List.length_nil, List.replicate, Nat.reduceAdd, Nat.reduceSub, List.cons_append, List.nil_append]
  have hq : vBin .quo (.int .i64 (D.b.length : Nat)) (.int .i64 2) = some (.int .i64 ((D.b.length / 2 : Nat))) := vBin_quo_i64 2 rfl (by omega) (by omega)
  have hm : vBin .mul (.int .i64 (hf : Nat)) (.int .i64 (D.b.length / 2 : Nat)) = some (.int .i64 (hf * (D.b.length / 2) : Nat)) := by
    simp only [vBin, ne_eq, not_true_eq_false, if_false]
    have e : ((hf : Int) * ((D.b.length / 2 : Nat) : Int)) = ((hf * (D.b.length / 2) : Nat) : Int) := by rw [Int.natCast_mul]
    rw [e, wrap_i64_nat (by
      have : hf * (D.b.length / 2) ≤ 1 * (D.b.length / 2) := Nat.mul_le_mul_right _ hf1
      omega)]
  have v0 : ∀ D, (lset L P D)[pv]? = some (vS P p0 V) := fun D => by rw [lset_off h.fv]; exact hv
  have ld0 : prim ⟨G, lset L P D⟩ (.load 1 false) [.ptr (.l pv) 5 0] = some (.ptr (.l P.p) 5 0, ⟨G, lset L P D⟩) := vld (v0 D) rfl
  have ld3 : prim ⟨G, lset L P D⟩ (.load 1 false) [.ptr (.l pv) 5 3] = some (.v (u32 V.ep), ⟨G, lset L P D⟩) := vld (v0 D) rfl
  simp (disch := first | (simp only [DS, reduceCtorEq]; done) | omega) only [WS, St.guard, St.put, evalO, reduceCtorEq, reduceIte, Nat.reduceAdd, Nat.reduceEqDiff, ld0]
  refine (WP_p (x := .int .i64 (D.b.length : Nat)) (by rw [into_lsetG]; exact Len_spec HD hi) (by exact hg D)).2 ?_
  simp (disch := first | (simp only [DS, reduceCtorEq]; done) | omega) only [WS, St.guard, St.put, evalO, reduceCtorEq, reduceIte, Nat.reduceAdd, Nat.reduceEqDiff, hq, WC_draw, WD_nil, WD_cons, WDG_false, WDG_true, WDP_id, WDP_pick, WDP_build, WDP_bin, WDP_un, WDP_convInt, WDP_strStr, WDP_makeFunc, WDP_sliceStr, WDP_eq, WDP_eqBool, WDP_field, WDP_indexStr, WDP_indexAgg, WDP_extract, WDP_lenStr, WDP_lenSlice, WDP_lenArr, WDP_cap, WDP_min, WDP_max, WDP_nilCheck, WDP_slice, WDP_sliceArr, WDP_fieldAddr, WDP_indexAddr, WDP_indexArr, WDP_load, WDR_some, iP_eq, iN_eq, iG_eq, kI_eq, ld0, ld3, hm]
  obtain ⟨N, eN⟩ : ∃ N, N = newJ (hf * (D.b.length / 2)) (D.b.length / 2) V.ep := ⟨_, rfl⟩
  have hle : hf * (D.b.length / 2) ≤ 1 * (D.b.length / 2) := Nat.mul_le_mul_right _ hf1
  have hE : newE D (hf * (D.b.length / 2) : Nat) (D.b.length / 2 : Nat) V.ep = 0 := by
    unfold newE; rw [if_neg (by simp only [he, or_false]; omega), if_neg (by rw [ho]; simp)]
  have jg : ∀ D L J, LOk L P s0 s1 D.b.length → Good ⟨G, L⟩ → Good ⟨G, lj L P s0 s1 D (recB J.recs) (jC .l P.p s0 J)⟩ := fun D L J h hL => jG hL h
  refine WDP_of (h' := ⟨G, lj L P s0 s1 D (recB N.recs) (jC .l P.p s0 N)⟩) (by
    subst eN
    exact sNew H.toJourLib h.o hL h.e0 h.e1 hl hE) (hg D) (jg D L N h.o hL) (by simp only [lj_len]; simp [lset]) (quiet_lj h.o) ?_
  simp (disch := first | (simp only [DS, reduceCtorEq]; done) | omega) only [WS, St.guard, St.put, evalO, reduceCtorEq, reduceIte, Nat.reduceAdd, Nat.reduceEqDiff, WC_draw, WD_nil, WD_cons, WDG_false, WDG_true, WDP_id, WDP_pick, WDP_build, WDP_bin, WDP_un, WDP_convInt, WDP_strStr, WDP_makeFunc, WDP_sliceStr, WDP_eq, WDP_eqBool, WDP_field, WDP_indexStr, WDP_indexAgg, WDP_extract, WDP_lenStr, WDP_lenSlice, WDP_lenArr, WDP_cap, WDP_min, WDP_max, WDP_nilCheck, WDP_slice, WDP_sliceArr, WDP_fieldAddr, WDP_indexAddr, WDP_indexArr, WDP_load, WDR_some, iP_eq, iN_eq, iG_eq, kI_eq, Int.reduceBNe]
  have k2 : (lj L P s0 s1 D (recB N.recs) (jC .l P.p s0 N))[s2]? = some none := by rw [lj_off h.f2]; exact h.e2
  refine WP_of (a := bR (.l s2) b) (h' := ⟨G, lj (L.set s2 (bB b)) P s0 s1 D (recB N.recs) (jC .l P.p s0 N)⟩) (by
    have hs := based_spec H (G := (⟨G, lj L P s0 s1 D (recB N.recs) (jC .l P.p s0 N)⟩ : Hp).into) (va N) hb
    rw [← lj_set h.f2]
    refine op_news (h := ⟨G, lj L P s0 s1 D (recB N.recs) (jC .l P.p s0 N)⟩) (sites := [s2]) (Bs := [bB b]) hs (by intro B hB x e; simp only [List.mem_singleton] at hB; subst hB; exact bB_db x e) rfl (by simp) (by simp [free_of_get k2]) (jg D L N h.o hL) ?_
    unfold bR
    split <;> exact ren_own1) ?_
  simp (disch := first | (simp only [DS, reduceCtorEq]; done) | omega) only [WS, St.guard, St.put, evalO, reduceCtorEq, reduceIte, Nat.reduceAdd, Nat.reduceEqDiff]
  have hL2 : Good ⟨G, L.set s2 (bB b)⟩ := Good.setO (h := ⟨G, L⟩) hL bB_db
  have h2l : s2 < L.length := lt_of_get h.e2
  have g2 : (L.set s2 (bB b))[s2]? = some (bB b) := List.getElem?_set_self h2l
  obtain ⟨R, eR⟩ : ∃ R, R = bgJ D (hf * (D.b.length / 2)) (D.b.length / 2) V.ep b := ⟨_, rfl⟩
  have eR' : N.add D (1 :: b) = R := by rw [eR, eN]; rfl
  rw [← eR] at hok ⊢
  have A : Arg (⟨G, L.set s2 (bB b)⟩ : Hp).into (P.sh G.length) (G.length + s0) (G.length + s1) ((bR (.l s2) b).ren (up G.length)) (1 :: b) := by
    obtain ⟨f0, f1, f2, f3, f4, f5⟩ := h.f2
    have hoff : Off (P.sh G.length) (G.length + s0) (G.length + s1) (G.length + s2) := by
      refine ⟨?_, ?_, ?_, ?_, by omega, by omega⟩
      · show G.length + s2 ≠ G.length + P.q0; omega
      · show G.length + s2 ≠ G.length + P.q1; omega
      · show G.length + s2 ≠ G.length + P.q2; omega
      · show G.length + s2 ≠ G.length + P.p; omega
    unfold bR bB at *
    by_cases e : b = []
    · subst e
      simp only [if_true] at g2 ⊢
      exact arg_blk (b := [1]) (cap := some 1) hoff (into_at g2 rfl) rfl rfl (by intro c hc; cases hc; simp)
    · simp only [if_neg e] at g2 ⊢
      have := arg_blk (b := 1 :: b) (cap := none) hoff (into_at (G := G) g2 rfl) rfl rfl (by intro c hc; cases hc)
      simp only [Nat.mul_one]
      exact this
  refine WP_of (a := .v (.int .i64 R.1)) (h' := ⟨G, lj (L.set s2 (bB b)) P s0 s1 R.2.1 (recB R.2.2.recs) (jC .l P.p s0 R.2.2)⟩) (by
    have := sAdd H.toJourLib h.o.set hL2 z hl A (J := N) (by rw [eN]; exact he) (by rw [eN]; show hf * (D.b.length / 2) + D.b.length / 2 ≤ 20000; omega) (by rw [eN]; show 0 ≤ D.b.length / 2; omega) (by rw [eN]; show 0 ≤ 0; omega) (by simp; omega)
    rw [eR'] at this
    exact this) ?_
  have nv : (lj (L.set s2 (bB b)) P s0 s1 R.2.1 (recB R.2.2.recs) (jC .l P.p s0 R.2.2))[pv]? = some (vS P p0 V) := by
    rw [lj_off h.fv, List.getElem?_set, if_neg h.n2]; exact hv
  have st1 := vst (G := G) (i := 1) (a := .ptr (.l s1) 9 0) (cs := vC .l P.p s1 V) nv (by omega) rfl rfl (by simp [okPut])
  have pl : pv < (lj (L.set s2 (bB b)) P s0 s1 R.2.1 (recB R.2.2.recs) (jC .l P.p s0 R.2.2)).length := lt_of_get nv
  have st2 := vst (G := G) (M := (lj (L.set s2 (bB b)) P s0 s1 R.2.1 (recB R.2.2.recs) (jC .l P.p s0 R.2.2)).set pv (some (sBlk (vC .l P.p s1 V) false))) (pv := pv) (V := V) (pd := P.p) (pj := s1) (i := 2) (a := .v (.int .i64 (hf : Nat))) (cs := vC .l P.p s1 { V with half := hf }) (List.getElem?_set_self pl) (by omega) rfl rfl (by simp [okPut])
  simp (disch := first | (simp only [DS, reduceCtorEq]; done) | omega) only [WS, St.guard, St.put, evalO, reduceCtorEq, reduceIte, Nat.reduceAdd, Nat.reduceEqDiff, hok, Int.reduceBNe, st1, st2]
  refine ⟨by simp, ?_, _, rfl, rfl⟩
  rw [List.set_set, lj_set h.fv]
  rfl
end Go.AM
namespace Go.AM
variable {prog : String → Option IFn}
variable {G L M : List (Option Blk)} {P : DPos} {D : DskD} {n q p p0 pv i j s0 s1 s2 : Nat} {B : Option Blk} {cs : List AV} {J J0 J1 : JD} {V : VD}
theorem BOk.setv (h : BOk L P s0 s1 s2 pv n) {X : Option Blk} : BOk (L.set pv X) P s0 s1 s2 pv n := by
  obtain ⟨f0, f1, f2, f3, f4, f5⟩ := h.fv
  refine ⟨h.o.set, h.f2, h.fv, h.n2, ?_, ?_, ?_, h.lt⟩
  · rw [List.getElem?_set, if_neg (by omega)]; exact h.e0
  · rw [List.getElem?_set, if_neg (by omega)]; exact h.e1
  · rw [List.getElem?_set, if_neg (by have := h.n2; omega)]; exact h.e2
theorem vBin_succ {x : BitVec 32} : vBin .add (u32 x) (.int .u32 1) = some (u32 (x + 1#32)) := by
  simp only [vBin, u32, ne_eq, not_true_eq_false, if_false, Option.some.injEq, Value.int.injEq, true_and]
  show (x.toNat + 1 : Int) % 4294967296 = _
  rw [BitVec.toNat_add]
  simp only [BitVec.toNat_ofNat]
  omega
theorem succ_ne {x : BitVec 32} (h : x ≠ BitVec.allOnes 32) : x + 1#32 ≠ 0#32 := fun e => by
  refine h (BitVec.eq_of_toNat_eq ?_)
  have e := congrArg BitVec.toNat e
  rw [BitVec.toNat_add] at e
  simp only [BitVec.toNat_ofNat] at e
  rw [BitVec.toNat_allOnes]
  have := x.isLt
  omega
theorem op_same {f xs} {x : Value} {h : Hp} (hg : Good h) (he : Ev prog (.call f (xs.map (AV.ren (up h.G.length))) h.into) (.ret (.v x) h.into)) : Ev prog (.op (.call f []) xs h) (.val (.v x) h) :=
  op_turn h he rfl rfl rfl hg hg
set_option maxHeartbeats 1000000 in
theorem compact_law (H : VaultLib prog) {nm nb : String} (hnm : prog nm = some ⟨68, 3, [.tmp 4], vCompact nb s0 s1 s2⟩) (hnb : prog nb = some ⟨51, 3, [.tmp 6], vBegin s0 s1 s2⟩) (h : BOk L P s0 s1 s2 pv D.b.length) (hL : Good ⟨G, L⟩) (hp0 : p0 < pv) (z : Siz D D.b.length) (hl : D.b.length ≤ 20000) (ho : D.off = false) (h4 : 4 ≤ D.b.length)
    (hv : L[pv]? = some (vS P p0 V)) (hdd : V.dead = false) (hh : V.half ≤ 1) (he : V.ep ≠ BitVec.allOnes 32) {a : AV} {b : Txt} (hb : b.length < 400000)
    (hla : ∀ h, prim h .lenSlice [a] = some (.v (.int .i64 (b.length : Nat)), h))
    (va : ∀ M N X Lx, (∀ k, k ∉ [P.q0, P.q1, P.q2, P.p, s0, s1, pv] → M[k]? = L[k]?) → View ⟨(⟨G, lj M P s0 s1 D (recB N.recs) (jC .l P.p s0 N)⟩ : Hp).into ++ X, Lx⟩ (a.ren (up G.length)) 1 b.length (b.map byteAV)) :
    (D.b.length / 2 < needN (1 + b.length) → Ev prog (.op (.callIn nm [s0, s1, s2]) [.ptr (.l pv) 5 0, a] ⟨G, lset L P D⟩) (.val (.v (.int .i64 6)) ⟨G, lset L P D⟩)) ∧
    (needN (1 + b.length) ≤ D.b.length / 2 → (bgJ D ((1 - V.half) * (D.b.length / 2)) (D.b.length / 2) (V.ep + 1#32) b).1 = 0 → Ev prog (.op (.callIn nm [s0, s1, s2]) [.ptr (.l pv) 5 0, a] ⟨G, lset L P D⟩)
      (.val (.v (.int .i64 0)) ⟨G, lj ((L.set s2 (bB b)).set pv (vS P s1 ⟨1 - V.half, V.ep + 1#32, false⟩)) P s0 s1 (bgJ D ((1 - V.half) * (D.b.length / 2)) (D.b.length / 2) (V.ep + 1#32) b).2.1 (recB (bgJ D ((1 - V.half) * (D.b.length / 2)) (D.b.length / 2) (V.ep + 1#32) b).2.2.recs) (jC .l P.p s0 (bgJ D ((1 - V.half) * (D.b.length / 2)) (D.b.length / 2) (V.ep + 1#32) b).2.2)⟩)) := by
  have HD := H.toDiskLib
  have hd := h.o.d
  have hi := (h.o.into (G := G)).d
  have hg : ∀ D, Good ⟨G, lset L P D⟩ := fun D => lset_good hL hd
  have hq : vBin .quo (.int .i64 (D.b.length : Nat)) (.int .i64 2) = some (.int .i64 ((D.b.length / 2 : Nat))) := vBin_quo_i64 2 rfl (by omega) (by omega)
  have v0 : ∀ D, (lset L P D)[pv]? = some (vS P p0 V) := fun D => by rw [lset_off h.fv]; exact hv
  have ld0 : prim ⟨G, lset L P D⟩ (.load 1 false) [.ptr (.l pv) 5 0] = some (.ptr (.l P.p) 5 0, ⟨G, lset L P D⟩) := vld (v0 D) rfl
  have ld2 : prim ⟨G, lset L P D⟩ (.load 1 false) [.ptr (.l pv) 5 2] = some (.v (.int .i64 (V.half : Nat)), ⟨G, lset L P D⟩) := vld (v0 D) rfl
  have ld3 : prim ⟨G, lset L P D⟩ (.load 1 false) [.ptr (.l pv) 5 3] = some (.v (u32 V.ep), ⟨G, lset L P D⟩) := vld (v0 D) rfl
  have ld4 : prim ⟨G, lset L P D⟩ (.load 1 false) [.ptr (.l pv) 5 4] = some (.v (.bool false), ⟨G, lset L P D⟩) := by
    have := vld (G := G) (v0 D) (i := 4) (a := .v (.bool V.dead)) rfl
    rw [hdd] at this; exact this
  have cl : decide ((b.length : Int) ≥ 400000) = false := decide_eq_false (by omega)
  have hDown : Ev prog (.op (.call "(*haberdash/disk.Disk).Down" []) [.ptr (.l P.p) 5 0] ⟨G, lset L P D⟩) (.val (.v (.bool false)) ⟨G, lset L P D⟩) := op_same (hg D) (by
    rw [into_lsetG]
    have := Down_spec HD (D := D) hi
    rw [ho] at this
    exact this)
  have hLen : Ev prog (.op (.call "(*haberdash/disk.Disk).Len" []) [.ptr (.l P.p) 5 0] ⟨G, lset L P D⟩) (.val (.v (.int .i64 (D.b.length : Nat))) ⟨G, lset L P D⟩) := op_same (hg D) (by rw [into_lsetG]; exact Len_spec HD hi)
  have hsum : vBin .add (.int .i64 1) (.int .i64 (b.length : Nat)) = some (.int .i64 ((1 + b.length : Nat))) := by
    simp only [vBin, ne_eq, not_true_eq_false, if_false]
    have e : ((1 : Int) + ((b.length : Nat) : Int)) = ((1 + b.length : Nat) : Int) := by omega
    rw [e, wrap_i64_nat (by omega)]
  have gt : vBin .gtr (.int .i64 (needN (1 + b.length) : Nat)) (.int .i64 (D.b.length / 2 : Nat)) = some (.bool (decide (D.b.length / 2 < needN (1 + b.length)))) := by
    have e : (((needN (1 + b.length) : Nat) : Int) > ((D.b.length / 2 : Nat) : Int)) ↔ D.b.length / 2 < needN (1 + b.length) := Int.ofNat_lt
    rw [vBin_gtr]
    simp only [e]
  have em : vBin .eql (u32 V.ep) (.int .u32 4294967295) = some (.bool false) := by rw [vBin_eq_max, decide_eq_false he]
  have hNeed : Ev prog (.op (.call "haberdash/journal.Need" []) [.v (.int .i64 (1 + b.length : Nat))] ⟨G, lset L P D⟩) (.val (.v (.int .i64 (needN (1 + b.length) : Nat))) ⟨G, lset L P D⟩) := op_same (hg D) (Need_spec H.toJourLib (by omega))
  constructor
  · intro hc
    refine op_callIn hnm (by rfl) rfl ?_
    simp only [vCompact, enter, List.length_cons, List.length_nil, List.replicate, Nat.reduceAdd, Nat.reduceSub, List.cons_append, List.nil_append]
    simp (disch := first | (simp only [DS, reduceCtorEq]; done) | omega) only [WS, St.guard, St.put, evalO, reduceCtorEq, reduceIte, Nat.reduceAdd, Nat.reduceEqDiff, isNilV, Hp.isNil, ld4, ld0]
    refine WP_of hDown ?_
    simp (disch := first | (simp only [DS, reduceCtorEq]; done) | omega) only [WS, St.guard, St.put, evalO, reduceCtorEq, reduceIte, Nat.reduceAdd, Nat.reduceEqDiff, hla, cl, vBin_geq, WC_draw, WD_nil, WD_cons, WDG_false, WDG_true, WDP_id, WDP_pick, WDP_build, WDP_bin, WDP_un, WDP_convInt, WDP_strStr, WDP_makeFunc, WDP_sliceStr, WDP_eq, WDP_eqBool, WDP_field, WDP_indexStr, WDP_indexAgg, WDP_extract, WDP_lenStr, WDP_lenSlice, WDP_lenArr, WDP_cap, WDP_min, WDP_max, WDP_nilCheck, WDP_slice, WDP_sliceArr, WDP_fieldAddr, WDP_indexAddr, WDP_indexArr, WDP_load, WDR_some, iP_eq, iN_eq, iG_eq, kI_eq, ld3, ld0, em, hsum]
    refine WDP_of hNeed (hg D) (hg D) rfl rfl ?_
    simp (disch := first | (simp only [DS, reduceCtorEq]; done) | omega) only [WS, St.guard, St.put, evalO, reduceCtorEq, reduceIte, Nat.reduceAdd, Nat.reduceEqDiff, WC_draw, WD_nil, WD_cons, WDG_false, WDG_true, WDP_id, WDP_pick, WDP_build, WDP_bin, WDP_un, WDP_convInt, WDP_strStr, WDP_makeFunc, WDP_sliceStr, WDP_eq, WDP_eqBool, WDP_field, WDP_indexStr, WDP_indexAgg, WDP_extract, WDP_lenStr, WDP_lenSlice, WDP_lenArr, WDP_cap, WDP_min, WDP_max, WDP_nilCheck, WDP_slice, WDP_sliceArr, WDP_fieldAddr, WDP_indexAddr, WDP_indexArr, WDP_load, WDR_some, iP_eq, iN_eq, iG_eq, kI_eq, ld3, ld0, em, hsum]
    refine WDP_of hLen (hg D) (hg D) rfl rfl ?_
    simp (disch := first | (simp only [DS, reduceCtorEq]; done) | omega) only [WS, St.guard, St.put, evalO, reduceCtorEq, reduceIte, Nat.reduceAdd, Nat.reduceEqDiff, WC_draw, WD_nil, WD_cons, WDG_false, WDG_true, WDP_id, WDP_pick, WDP_build, WDP_bin, WDP_un, WDP_convInt, WDP_strStr, WDP_makeFunc, WDP_sliceStr, WDP_eq, WDP_eqBool, WDP_field, WDP_indexStr, WDP_indexAgg, WDP_extract, WDP_lenStr, WDP_lenSlice, WDP_lenArr, WDP_cap, WDP_min, WDP_max, WDP_nilCheck, WDP_slice, WDP_sliceArr, WDP_fieldAddr, WDP_indexAddr, WDP_indexArr, WDP_load, WDR_some, iP_eq, iN_eq, iG_eq, kI_eq, hq, gt, hc, decide_true]
    exact ⟨.inr trivial, _, rfl, rfl⟩
  · intro hc hok
    have hc' : ¬ D.b.length / 2 < needN (1 + b.length) := by omega
    refine op_callIn hnm (by rfl) (by rw [lj_len]; simp [lset]) ?_
    simp only [vCompact, enter, List.length_cons, List.length_nil, List.replicate, Nat.reduceAdd, Nat.reduceSub, List.cons_append, List.nil_append]
    simp (disch := first | (simp only [DS, reduceCtorEq]; done) | omega) only [WS, St.guard, St.put, evalO, reduceCtorEq, reduceIte, Nat.reduceAdd, Nat.reduceEqDiff, isNilV, Hp.isNil, ld4, ld0]
    refine WP_of hDown ?_
    simp (disch := first | (simp only [DS, reduceCtorEq]; done) | omega) only [WS, St.guard, St.put, evalO, reduceCtorEq, reduceIte, Nat.reduceAdd, Nat.reduceEqDiff, hla, cl, vBin_geq, WC_draw, WD_nil, WD_cons, WDG_false, WDG_true, WDP_id, WDP_pick, WDP_build, WDP_bin, WDP_un, WDP_convInt, WDP_strStr, WDP_makeFunc, WDP_sliceStr, WDP_eq, WDP_eqBool, WDP_field, WDP_indexStr, WDP_indexAgg, WDP_extract, WDP_lenStr, WDP_lenSlice, WDP_lenArr, WDP_cap, WDP_min, WDP_max, WDP_nilCheck, WDP_slice, WDP_sliceArr, WDP_fieldAddr, WDP_indexAddr, WDP_indexArr, WDP_load, WDR_some, iP_eq, iN_eq, iG_eq, kI_eq, ld3, ld0, em, hsum]
    refine WDP_of hNeed (hg D) (hg D) rfl rfl ?_
    simp (disch := first | (simp only [DS, reduceCtorEq]; done) | omega) only [WS, St.guard, St.put, evalO, reduceCtorEq, reduceIte, Nat.reduceAdd, Nat.reduceEqDiff, WC_draw, WD_nil, WD_cons, WDG_false, WDG_true, WDP_id, WDP_pick, WDP_build, WDP_bin, WDP_un, WDP_convInt, WDP_strStr, WDP_makeFunc, WDP_sliceStr, WDP_eq, WDP_eqBool, WDP_field, WDP_indexStr, WDP_indexAgg, WDP_extract, WDP_lenStr, WDP_lenSlice, WDP_lenArr, WDP_cap, WDP_min, WDP_max, WDP_nilCheck, WDP_slice, WDP_sliceArr, WDP_fieldAddr, WDP_indexAddr, WDP_indexArr, WDP_load, WDR_some, iP_eq, iN_eq, iG_eq, kI_eq, ld3, ld0, em, hsum]
    refine WDP_of hLen (hg D) (hg D) rfl rfl ?_
    have pl : pv < L.length := lt_of_get hv
    obtain ⟨f0, f1, f2, f3, f4, f5⟩ := h.fv
    have st3 : prim ⟨G, lset L P D⟩ (.store 1 false) [.ptr (.l pv) 5 3, .v (u32 (V.ep + 1#32))] = some (.v undef, ⟨G, lset (L.set pv (vS P p0 { V with ep := V.ep + 1#32 })) P D⟩) := by
      have := vst (G := G) (i := 3) (a := .v (u32 (V.ep + 1#32))) (cs := vC .l P.p p0 { V with ep := V.ep + 1#32 }) (v0 D) (by omega) rfl rfl (by simp [okPut])
      rw [this, lset_set (by simp; omega)]
      rfl
    simp (disch := first | (simp only [DS, reduceCtorEq]; done) | omega) only [WS, St.guard, St.put, evalO, reduceCtorEq, reduceIte, Nat.reduceAdd, Nat.reduceEqDiff, WC_draw, WD_nil, WD_cons, WDG_false, WDG_true, WDP_id, WDP_pick, WDP_build, WDP_bin, WDP_un, WDP_convInt, WDP_strStr, WDP_makeFunc, WDP_sliceStr, WDP_eq, WDP_eqBool, WDP_field, WDP_indexStr, WDP_indexAgg, WDP_extract, WDP_lenStr, WDP_lenSlice, WDP_lenArr, WDP_cap, WDP_min, WDP_max, WDP_nilCheck, WDP_slice, WDP_sliceArr, WDP_fieldAddr, WDP_indexAddr, WDP_indexArr, WDP_load, WDR_some, iP_eq, iN_eq, iG_eq, kI_eq, hq, gt, hc', decide_false, ld3, vBin_succ, st3]
    obtain ⟨L1, eL⟩ : ∃ L1, L1 = L.set pv (vS P p0 { V with ep := V.ep + 1#32 }) := ⟨_, rfl⟩
    have hv1 : L1[pv]? = some (vS P p0 { V with ep := V.ep + 1#32 }) := by rw [eL]; exact List.getElem?_set_self pl
    have h1 : BOk L1 P s0 s1 s2 pv D.b.length := by rw [eL]; exact h.setv
    have hL1 : Good ⟨G, L1⟩ := by
      rw [eL]
      refine Good.setB hL (sBlk_good ?_)
      rw [vC_labs]
      have := h.o.pp; have := h.lt
      simp [refLt]; omega
    rw [← eL]
    have ld2 : prim ⟨G, lset L1 P D⟩ (.load 1 false) [.ptr (.l pv) 5 2] = some (.v (.int .i64 (V.half : Nat)), ⟨G, lset L1 P D⟩) := vld (V := { V with ep := V.ep + 1#32 }) (by rw [lset_off h.fv]; exact hv1) rfl
    have hs : vBin .sub (.int .i64 1) (.int .i64 (V.half : Nat)) = some (.int .i64 ((1 - V.half : Nat))) := by
      simp only [vBin, ne_eq, not_true_eq_false, if_false]
      have e : ((1 : Int) - ((V.half : Nat) : Int)) = ((1 - V.half : Nat) : Int) := by omega
      rw [e, wrap_i64_nat (by omega)]
    simp (disch := first | (simp only [DS, reduceCtorEq]; done) | omega) only [WS, St.guard, St.put, evalO, reduceCtorEq, reduceIte, Nat.reduceAdd, Nat.reduceEqDiff, ld2, hs]
    have hB := begin_law H hnb h1 hL1 z hl ho h4 hv1 (succ_ne he) (hf := 1 - V.half) (by omega) (a := a) (b := b) (by omega) (fun N X Lx => va L1 N X Lx (fun k hk => by
      rw [eL, List.getElem?_set, if_neg (by intro e; subst e; simp at hk)])) hok
    obtain ⟨R, eR⟩ : ∃ R, R = bgJ D ((1 - V.half) * (D.b.length / 2)) (D.b.length / 2) (V.ep + 1#32) b := ⟨_, rfl⟩
    obtain ⟨W, eW⟩ : ∃ W : VD, W = ⟨1 - V.half, V.ep + 1#32, false⟩ := ⟨_, rfl⟩
    have eV : ({ ({ V with ep := V.ep + 1#32 } : VD) with half := 1 - V.half } : VD) = W := by rw [eW, ← hdd]
    have eH : (L1.set s2 (bB b)).set pv (vS P s1 { ({ V with ep := V.ep + 1#32 } : VD) with half := 1 - V.half }) = (L.set s2 (bB b)).set pv (vS P s1 W) := by
      rw [eV, eL, List.set_comm _ _ (by have := h.n2; omega : pv ≠ s2), List.set_set]
    have hB' : Ev prog (.op (.callIn nb [s0, s1, s2]) [.ptr (.l pv) 5 0, .v (.int .i64 (1 - V.half : Nat)), a] ⟨G, lset L1 P D⟩) (.val (.v (.int .i64 0)) ⟨G, lj ((L.set s2 (bB b)).set pv (vS P s1 W)) P s0 s1 R.2.1 (recB R.2.2.recs) (jC .l P.p s0 R.2.2)⟩) := by
      rw [← eH, eR]; exact hB
    rw [← eR, ← eW]
    refine WP_of hB' ?_
    have nv : (lj ((L.set s2 (bB b)).set pv (vS P s1 W)) P s0 s1 R.2.1 (recB R.2.2.recs) (jC .l P.p s0 R.2.2))[pv]? = some (vS P s1 W) := by
      rw [lj_off h.fv]; exact List.getElem?_set_self (by rw [List.length_set]; exact pl)
    have st4 : prim ⟨G, lj ((L.set s2 (bB b)).set pv (vS P s1 W)) P s0 s1 R.2.1 (recB R.2.2.recs) (jC .l P.p s0 R.2.2)⟩ (.store 1 false) [.ptr (.l pv) 5 4, .v (.bool false)] = some (.v undef, ⟨G, lj ((L.set s2 (bB b)).set pv (vS P s1 W)) P s0 s1 R.2.1 (recB R.2.2.recs) (jC .l P.p s0 R.2.2)⟩) := by
      have := vst (G := G) (i := 4) (a := .v (.bool false)) (cs := vC .l P.p s1 W) nv (by omega) rfl (by rw [eW]; rfl) (by simp [okPut])
      rw [this, lj_set h.fv, List.set_set]
      rfl
    simp (disch := first | (simp only [DS, reduceCtorEq]; done) | omega) only [WS, St.guard, St.put, evalO, reduceCtorEq, reduceIte, Nat.reduceAdd, Nat.reduceEqDiff, Int.reduceBEq, st4]
    exact ⟨.inr trivial, _, rfl, rfl⟩
end Go.AM
namespace Go.AM
variable {D : DskD} {n : Nat} {J : JD} {V : VD}
theorem open_new {frm nn : Nat} {ep : BitVec 32} (h : frm + nn ≤ n) : openJ (newD n) frm nn ep = newJ frm nn ep := by
  have ht : (newJ frm nn ep).take (newD n) = (false, newJ frm nn ep) := by
    unfold JD.take
    show tkF (newD n) (newJ frm nn ep) (nn - 0 + 1) 0 [] ep = _
    unfold tkF
    rw [lvNext_zero (by
      by_cases h0 : nn = 0
      · exact .inr (by show nn ≤ 0; omega)
      · exact .inl (newD_b (by show frm + 0 < n; omega)))]
    rfl
  unfold openJ
  show ({ (if ((newJ frm nn ep).take (newD n)).1 then _ else ((newJ frm nn ep).take (newD n)).2) with ep := ep } : JD) = _
  rw [ht]
  rfl
theorem mark_zero : markS zsec = 0#32 := by
  show maxU (get4 zs64 0) (get4 zs64 60) = 0#32
  decide
theorem gr_new : ∀ i, grF (newD n).b i = 0#32
  | 0 => rfl
  | i + 1 => by
    unfold grF
    rw [gr_new i]
    have : secAt (newD n).b (i : Nat) = zsec := by
      unfold secAt newD
      rw [List.getD_eq_getElem?_getD, List.getElem?_replicate]
      split <;> rfl
    rw [this, mark_zero]
    rfl
theorem newD_len : (newD n).b.length = n := by simp [newD]
theorem ep_new : vEp (newD n) = 1#32 := by unfold vEp; rw [gr_new]; rfl
theorem openEr_new (h : 4 ≤ n) : openEr (newD n) = 0 := by
  unfold openEr
  rw [newD_len, if_neg (by omega), gr_new]
  rfl
theorem openV_new (h : 4 ≤ n) : openV (newD n) = ((bgJ (newD n) 0 (n / 2) 1#32 []).2.1, (bgJ (newD n) 0 (n / 2) 1#32 []).2.2, ⟨0, 1#32, false⟩) := by
  have h0 : vJ0 (newD n) = newJ 0 (n / 2) 1#32 := by unfold vJ0; rw [ep_new, newD_len]; exact open_new (by omega)
  have h1 : vJ1 (newD n) = newJ (n / 2) (n / 2) 1#32 := by unfold vJ1; rw [ep_new, newD_len]; exact open_new (by omega)
  have hh : vHalf (newD n) = 0 := by unfold vHalf; rw [h0, h1]; rfl
  unfold openV
  rw [if_pos ⟨by rw [h0]; rfl, hh⟩, ep_new, newD_len]
theorem bg_live {frm nn : Nat} {ep : BitVec 32} {b : Txt} (hl : Live D) (z : Siz D n) (h0 : 0 < n) (hb : b.length < 400000) (hfit : needN (1 + b.length) ≤ nn) (hfn : frm + nn ≤ n) :
    ∃ D', bgJ D frm nn ep b = (0, D', (newJ frm nn ep).note (1 :: b) (needN (1 + b.length))) ∧ Live D' ∧ Siz D' n := by
  have e : (1 :: b : Txt).length = 1 + b.length := by simp; omega
  obtain ⟨D', e1, e2, e3⟩ := add_live (J := newJ frm nn ep) (b := 1 :: b) rfl hl z h0 (by omega) (by omega) (by rw [e]; show 0 + needN (1 + b.length) ≤ nn; omega) hfn
  rw [e] at e1
  exact ⟨D', e1, e2, e3⟩
structure FullInv (n : Nat) (D : DskD) (J : JD) (V : VD) (u c : Nat) : Prop where
  live : Live D
  z : Siz D n
  dead : J.dead = false
  vd : V = ⟨0, 1#32, false⟩
  jn : J.n = n / 2
  frm : J.frm = 0
  ep : J.ep = 1#32
  used : J.used = u
  le : u ≤ n / 2
  cnt : J.recs.length = c + 1
  cle : c + 1 ≤ u
  recs : ∀ b ∈ J.recs, b ≠ [] ∧ b.length ≤ 200
theorem full_new (h : 4 ≤ n) : (bgJ (newD n) 0 (n / 2) 1#32 []).1 = 0 ∧ FullInv n (openV (newD n)).1 (openV (newD n)).2.1 (openV (newD n)).2.2 1 0 := by
  obtain ⟨D', e, l, z⟩ := bg_live (frm := 0) (nn := n / 2) (ep := 1#32) (b := []) (D := newD n) newD_live .new (by omega) (by simp) (by show needN 1 ≤ _; unfold needN; omega) (by omega)
  rw [openV_new h, e]
  refine ⟨rfl, l, z, rfl, rfl, rfl, rfl, rfl, rfl, by omega, rfl, Nat.le_refl _, ?_⟩
  intro b hb
  have : b ∈ [([1] : Txt)] := hb
  simp only [List.mem_singleton] at this
  subst this
  exact ⟨by simp, by simp⟩
theorem full_step {used cnt : Nat} {b : Txt} (h : FullInv n D J V used cnt) (h4 : 4 ≤ n) (h1 : 1 ≤ b.length) (h2 : b.length ≤ 200) :
    (used + needN b.length ≤ n / 2 → (V.add D J b).1 = 0 ∧ FullInv n (V.add D J b).2.1 (V.add D J b).2.2.1 (V.add D J b).2.2.2 (used + needN b.length) (cnt + 1)) ∧
    (n / 2 < used + needN b.length → V.add D J b = (6, D, J, V)) := by
  have hV := h.vd
  have hp := needN_pos h1
  refine ⟨fun hf => ?_, fun hf => ?_⟩
  · obtain ⟨D', e, l', z'⟩ := add_live (J := J) (b := b) h.dead h.live h.z (by omega) (by omega) (by omega) (by rw [h.jn, h.used]; exact hf) (by rw [h.frm, h.jn]; omega)
    unfold VD.add
    rw [hV, if_neg (by simp), e]
    refine ⟨rfl, l', z', h.dead, rfl, h.jn, h.frm, h.ep, ?_, hf, ?_, ?_, ?_⟩
    · show J.used + needN b.length = used + needN b.length; rw [h.used]
    · show (J.recs ++ [b]).length = _; rw [List.length_append, h.cnt]; rfl
    · have := h.cle; omega
    · intro x hb
      have hb' : x ∈ J.recs ++ [b] := hb
      rcases List.mem_append.1 hb' with hb' | hb'
      · exact h.recs x hb'
      · simp only [List.mem_singleton] at hb'
        subst hb'
        exact ⟨by intro h3; rw [h3] at h1; simp at h1, by omega⟩
  · have e := add_full (J := J) (b := b) h.dead h.live (D := D) (by omega) (by omega) (by rw [h.jn, h.used]; exact hf)
    unfold VD.add
    rw [hV, if_neg (by simp), e]
    rfl
end Go.AM
namespace Go.AM
variable {prog : String → Option IFn}
variable {G L : List (Option Blk)} {P : DPos} {D : DskD} {n q p pv : Nat} {B : Option Blk} {cs : List AV} {J : JD} {V : VD}
structure Law9 (prog : String → Option IFn) : Prop extends VaultLib prog where
  awake9 : prog "haberdash/haberdashlaw09.awake" = some f_law09_awake
  mod : prog "haberdash/haberdashplay.Mod" = some f_play_Mod
theorem lok1 {k q p : Nat} {c : Option Nat} {o : Bool} {X : List (Option Blk)} (hc : ∀ x, c = some x → k ≤ x) (h3 : 3 < q) (hqp : q < p) (h : p < X.length) : LOk X (dpos 0 c o) q p k :=
  ⟨dpos_ok (by omega) hc, hqp, h, by show 3 < p; omega, fun k hk => by simp only [dpos, List.mem_cons, List.not_mem_nil, or_false] at hk; omega, fun k hk => by simp only [dpos, List.mem_cons, List.not_mem_nil, or_false] at hk; omega⟩
theorem lvok1 {k q p pv : Nat} {c : Option Nat} {o : Bool} {X : List (Option Blk)} (hc : ∀ x, c = some x → k ≤ x) (h3 : 3 < q) (hqp : q < p) (hp : p < pv) (h : pv < X.length) : LVOk X (dpos 0 c o) q p pv k :=
  ⟨lok1 hc h3 hqp (by omega), h, hp, by simp only [dpos]; omega, by simp only [dpos]; omega, by simp only [dpos]; omega, by simp only [dpos]; omega, by omega, by omega⟩
theorem argV (h : LVOk L P q p pv n) {k : Nat} {b : Txt} {o : Bool} {cap : Option Nat} (hk : L[k]? = some (some (dBlk (b.map byteAV) o false))) (hf : Off P q p k) (hp : k ≠ pv) (hc : ∀ c, cap = some c → b.length ≤ c) {X : Option Blk} :
    Arg ((⟨G, L⟩ : Hp).into.set (G.length + pv) X) (P.sh G.length) (G.length + q) (G.length + p) (.own (.o (G.length + k)) b.length 0 b.length 1 cap) b := by
  obtain ⟨f0, f1, f2, f3, f4, f5⟩ := hf
  refine arg_blk (X := dBlk (b.map byteAV) o false) ⟨?_, ?_, ?_, ?_, by omega, by omega⟩ ?_ rfl rfl hc
  · show G.length + k ≠ G.length + P.q0; omega
  · show G.length + k ≠ G.length + P.q1; omega
  · show G.length + k ≠ G.length + P.q2; omega
  · show G.length + k ≠ G.length + P.p; omega
  · rw [List.getElem?_set, if_neg (by omega)]; exact into_at hk rfl
set_option maxHeartbeats 1000000 in
theorem awake9_spec (H : Law9 prog) {G : List (Option Blk)} : Ev prog (.call "haberdash/haberdashlaw09.awake" [] G) (.ret (.v (.bool true)) G) := by
  refine call_of_fin H.awake9 ?_
  have HV := H.toVaultLib
  have HD := HV.toDiskLib
  simp only [f_law09_awake_B, enter, List.length_cons, List.length_nil, List.replicate, Nat.reduceAdd, Nat.reduceSub, List.cons_append, List.nil_append]
  have D9 : Dat (List.replicate 9 none) := by intro B hB b e; rw [List.eq_of_mem_replicate hB] at e; cases e
  simp (disch := first | (simp only [DS, reduceCtorEq]; done) | omega) only [WS, St.guard, St.put, evalO, reduceCtorEq, reduceIte, Nat.reduceAdd, Nat.reduceEqDiff]
  refine WP_of (h' := ⟨G, lset (List.replicate 9 none) (dpos 0 (some 8) false) (newD 8)⟩) (by exact op_dsk (D := newD 8) (R := fun a => .tup [a, .v (.int .i64 0)]) (fun ρ a => rfl) (New_spec HD (N := 8) (by omega) (by omega)) (by decide) rfl rfl rfl rfl (dat_good D9)) ?_
  simp (disch := first | (simp only [DS, reduceCtorEq]; done) | omega) only [WS, St.guard, St.put, evalO, reduceCtorEq, reduceIte, Nat.reduceAdd, Nat.reduceEqDiff]
  obtain ⟨b0, I⟩ := full_new (n := 8) (by omega)
  have lk : ∀ X : List (Option Blk), 6 < X.length → LVOk X (dpos 0 (some 8) false) 4 5 6 8 := fun X hX => lvok1 le_some (by omega) (by omega) (by omega) hX
  have e8 : (newD 8).b.length = 8 := rfl
  refine WP_of (by exact tOpen HV (P := dpos 0 (some 8) false) (q := 4) (p := 5) (pv := 6) (D := newD 8) (lk _ (by simp)) (dat_good D9) .new (by rw [e8]; omega) (openEr_new (by omega)) (by rw [ep_new]; exact b0) rfl rfl rfl) ?_
  generalize openV (newD 8) = W at *
  obtain ⟨D, J, V⟩ := W
  simp only at I
  simp (disch := first | (simp only [DS, reduceCtorEq]; done) | omega) only [WS, St.guard, St.put, evalO, reduceCtorEq, reduceIte, Nat.reduceAdd, Nat.reduceEqDiff]
  have D7 : Dat [none, none, none, none, none, none, none, some (dBlk ([97].map byteAV) false false), none] := by
    intro B hB b e; subst e; simp at hB; subst hB; rfl
  have l7 := lk [none, none, none, none, none, none, none, some (dBlk ([97].map byteAV) false false), none] (by simp)
  have bd : prim ⟨G, lv (List.replicate 9 none) (dpos 0 (some 8) false) 4 5 6 D J V⟩ (.buildSlice 7 false 1 1 [.int .u8 0] [(0, 1)]) [.v (.int .u8 97)] = some (.own (.l 7) 1 0 1 1 (some 1), ⟨G, lv [none, none, none, none, none, none, none, some (dBlk ([97].map byteAV) false false), none] (dpos 0 (some 8) false) 4 5 6 D J V⟩) := rfl
  have g7 : (⟨G, lv [none, none, none, none, none, none, none, some (dBlk [byteAV 97] false false), none] (dpos 0 (some 8) false) 4 5 6 D J V⟩ : Hp).get (.l 7) = some ⟨[byteAV 97], false, true, true, false⟩ := rfl
  refine (WR_eq bd).2 ?_
  simp (disch := first | (simp only [DS, reduceCtorEq]; done) | omega) only [WS, St.guard, St.put, evalO, reduceCtorEq, reduceIte, Nat.reduceAdd, Nat.reduceEqDiff, List.map_cons, List.map_nil, g7, List.length_cons, List.length_nil, and_self, true_and, Nat.zero_lt_one, if_true]
  have Iu := I.used; have In := I.jn; have If := I.frm; have Ic := I.cnt; have Il := I.le; have Icl := I.cle
  refine WP_of (by exact tAdd HV l7 (dat_good D7) I.z (by omega) (a := .own (.l 7) 1 0 1 1 (some 1)) (b := [97]) (argV l7 (k := 7) rfl (by refine ⟨?_, ?_, ?_, ?_, ?_, ?_⟩ <;> simp [dpos]) (by omega) (fun c hc => by cases hc; simp)) (by rw [I.ep]; decide) (by omega) (by omega) (by omega) (by simp)) ?_
  obtain ⟨a1, I2⟩ := (full_step I (b := [97]) (by omega) (by simp) (by simp)).1 (by show 1 + needN 1 ≤ 4; unfold needN; omega)
  rw [a1]
  generalize (V.add D J [97]).2 = W at *
  obtain ⟨D2, J2, V2⟩ := W
  simp only at I2
  have I2u : J2.used = 2 := I2.used
  have I2c : J2.recs.length = 2 := I2.cnt
  have I2h : V2.half = 0 := by rw [I2.vd]
  simp (disch := first | (simp only [DS, reduceCtorEq]; done) | omega) only [WS, St.guard, St.put, evalO, reduceCtorEq, reduceIte, Nat.reduceAdd, Nat.reduceEqDiff, Int.reduceBEq]
  obtain ⟨m, c, hR⟩ := tRecs (i := 8) (D := D2) (J := J2) (V := V2) HV l7 (dat_good (G := G) D7) (by omega) (fun b hb => (I2.recs b hb).1) (fun b hb => by have := (I2.recs b hb).2; unfold room; omega) (by rw [I2c]; unfold room; omega) rfl
  refine WP_of (by exact hR) ?_
  have ls : ∀ h, prim h .lenSlice [.own (.l 8) m 0 (J2.recs.length - 1) 1 c] = some (.v (.int .i64 1), h) := fun h => by rw [I2c]; rfl
  have es : (lv [none, none, none, none, none, none, none, some (dBlk ([97].map byteAV) false false), none] (dpos 0 (some 8) false) 4 5 6 D2 J2 V2).set 8 (clB (J2.recs.drop 1)) = lv [none, none, none, none, none, none, none, some (dBlk ([97].map byteAV) false false), clB (J2.recs.drop 1)] (dpos 0 (some 8) false) 4 5 6 D2 J2 V2 := rfl
  have D8 : Dat [none, none, none, none, none, none, none, some (dBlk ([97].map byteAV) false false), clB (J2.recs.drop 1)] := by
    intro B hB b e
    simp only [List.mem_cons, List.not_mem_nil, or_false] at hB
    subst e
    rcases hB with hB | hB | hB | hB | hB | hB | hB | hB | hB
    · cases hB
    · cases hB
    · cases hB
    · cases hB
    · cases hB
    · cases hB
    · cases hB
    · cases hB; rfl
    · exact clB_db b hB.symm
  have l8 := lk [none, none, none, none, none, none, none, some (dBlk ([97].map byteAV) false false), clB (J2.recs.drop 1)] (by simp)
  rw [es]
  simp (disch := first | (simp only [DS, reduceCtorEq]; done) | omega) only [WS, St.guard, St.put, evalO, reduceCtorEq, reduceIte, Nat.reduceAdd, Nat.reduceEqDiff, ls, Int.reduceBEq]
  refine WP_of (by exact tUsed HV l8 (dat_good D8)) ?_
  rw [I2u]
  simp (disch := first | (simp only [DS, reduceCtorEq]; done) | omega) only [WS, St.guard, St.put, evalO, reduceCtorEq, reduceIte, Nat.reduceAdd, Nat.reduceEqDiff, Int.reduceBEq, Int.cast_ofNat_Int]
  refine WP_of (by exact tHalf HV l8 (dat_good D8)) ?_
  rw [I2h]
  simp (disch := first | (simp only [DS, reduceCtorEq]; done) | omega) only [WS, St.guard, St.put, evalO, reduceCtorEq, reduceIte, Nat.reduceAdd, Nat.reduceEqDiff, Int.reduceBEq, Int.cast_ofNat_Int, fin_tmp, leave_v]
  simp
end Go.AM
