import Derived.Test.YtdcnjckkcfoppaaDiskD
import Derived.Test.YtdcnjckkcfoppaaJourA
import Derived.Test.YtdcnjckkcfoppaaLeafC
import Derived.Test.YtdcnjckkcfoppaaLawDiskE
set_option linter.unusedVariables false
set_option linter.unusedSimpArgs false
namespace Go.AM
variable {prog : String → Option IFn}
variable {G L : List (Option Blk)} {P : DPos} {D : DskD} {n : Nat}
def oset (G : List (Option Blk)) (q p : Nat) (B : Option Blk) (cs : List AV) : List (Option Blk) := (G.set q B).set p (some (sBlk cs false))
variable {q p : Nat} {B : Option Blk} {cs : List AV}
theorem oset_len : (oset G q p B cs).length = G.length := by simp [oset]
theorem oset_p (hp : p < G.length) : (oset G q p B cs)[p]? = some (some (sBlk cs false)) := by
  unfold oset; rw [List.getElem?_set_self (by simpa using hp)]
theorem oset_q (hq : q < p) (hp : p < G.length) : (oset G q p B cs)[q]? = some B := by
  unfold oset; rw [List.getElem?_set, if_neg (by omega), List.getElem?_set_self (by omega)]
theorem oset_o {k : Nat} (hq : k ≠ q) (hp : k ≠ p) : (oset G q p B cs)[k]? = G[k]? := by
  unfold oset; rw [List.getElem?_set, if_neg (by omega), List.getElem?_set, if_neg (by omega)]
theorem oset_ext (hq : q < p) (hp : p < G.length) {X : List (Option Blk)} (hl : X.length = G.length) (h1 : X[q]? = some B) (h2 : X[p]? = some (some (sBlk cs false))) (ho : ∀ k, k ≠ q → k ≠ p → X[k]? = G[k]?) : X = oset G q p B cs := by
  apply List.ext_getElem?
  intro k
  by_cases e1 : k = p
  · rw [e1, h2, oset_p hp]
  by_cases e2 : k = q
  · rw [e2, h1, oset_q hq hp]
  rw [ho k e2 e1, oset_o e2 e1]
theorem oset_app {X : List (Option Blk)} (hq : q < p) (hp : p < G.length) : oset (G ++ X) q p B cs = oset G q p B cs ++ X := by
  unfold oset
  rw [List.set_append_left _ _ (by omega), List.set_append_left _ _ (by simp; omega)]
structure OOk (g : Nat) (P : DPos) (q p n : Nat) : Prop where
  d : P.Ok g n
  qp : q < p
  pg : p < g
  pp : P.p < p
  fq : ∀ k ∈ [P.q0, P.q1, P.q2, P.p], k ≠ q
  fp : ∀ k ∈ [P.q0, P.q1, P.q2, P.p], k ≠ p
def dj (G : List (Option Blk)) (P : DPos) (q p : Nat) (D : DskD) (B : Option Blk) (cs : List AV) : List (Option Blk) := oset (dset G P D) q p B cs
theorem dj_len : (dj G P q p D B cs).length = G.length := by simp [dj, oset_len, dset_len]
section
variable (h : OOk G.length P q p n)
include h
theorem dj_sw : dj G P q p D B cs = dset (oset G q p B cs) P D := by
  have hp := h.pg; have hq := h.qp
  have hd : P.Ok (oset G q p B cs).length n := by rw [oset_len]; exact h.d
  refine (oset_ext hq (by rw [dset_len]; exact hp) (by simp only [dset_len, oset_len]) ?_ ?_ fun k h1 h2 => ?_).symm
  · rw [dset_o (fun e => h.fq P.p (by simp) e.symm) (fun e => h.fq P.q0 (by simp) e.symm) (fun e => h.fq P.q1 (by simp) e.symm) (fun e => h.fq P.q2 (by simp) e.symm), oset_q hq hp]
  · rw [dset_o (fun e => h.fp P.p (by simp) e.symm) (fun e => h.fp P.q0 (by simp) e.symm) (fun e => h.fp P.q1 (by simp) e.symm) (fun e => h.fp P.q2 (by simp) e.symm), oset_p hp]
  · by_cases hk : k ∈ [P.q0, P.q1, P.q2, P.p]
    · simp only [List.mem_cons, List.not_mem_nil, or_false] at hk
      rcases hk with rfl | rfl | rfl | rfl
      · rw [dset_0 hd, dset_0 h.d]
      · rw [dset_1 hd, dset_1 h.d]
      · rw [dset_2 hd, dset_2 h.d]
      · rw [dset_p hd, dset_p h.d]
    · simp only [List.mem_cons, List.not_mem_nil, or_false, not_or] at hk
      rw [dset_o hk.2.2.2 hk.1 hk.2.1 hk.2.2.1, dset_o hk.2.2.2 hk.1 hk.2.1 hk.2.2.1, oset_o h1 h2]
theorem dj_p : (dj G P q p D B cs)[p]? = some (some (sBlk cs false)) := oset_p (by rw [dset_len]; exact h.pg)
theorem dj_q : (dj G P q p D B cs)[q]? = some B := oset_q h.qp (by rw [dset_len]; exact h.pg)
omit h in
theorem OOk.app {X : List (Option Blk)} (h : OOk G.length P q p n) : OOk (G ++ X).length P q p n := ⟨h.d.app, h.qp, by rw [List.length_append]; have := h.pg; omega, h.pp, h.fq, h.fp⟩
theorem dj_app {X : List (Option Blk)} : dj (G ++ X) P q p D B cs = dj G P q p D B cs ++ X := by
  unfold dj
  rw [dset_app h.d, oset_app h.qp (by rw [dset_len]; exact h.pg)]
theorem dj_ld {i : Nat} {m : Nat} {a : AV} (hm : cs.length = m) (ha : cs[i]? = some a) : prim ⟨dj G P q p D B cs, L⟩ (.load 1 false) [.ptr (.o p) m i] = some (a, ⟨dj G P q p D B cs, L⟩) := by
  have hi := lt_of_get ha
  rw [px_load_o, dj_p h]
  show (if cs.length = m ∧ i + 1 ≤ m then (whole false ((cs.drop i).take 1)).map fun a => (a, _) else none) = _
  refine (if_pos ⟨hm, by omega⟩).trans ?_
  rw [List.take_one, List.head?_drop, ha]; rfl
theorem dj_st {i m : Nat} {v : Value} (hm : cs.length = m) (hi : i < m) (hv : (AV.v v).cellsOf = some [.v v]) : prim ⟨dj G P q p D B cs, L⟩ (.store 1 false) [.ptr (.o p) m i, .v v] = some (.v undef, ⟨dj G P q p D B (cs.set i (.v v)), L⟩) := by
  rw [px_store, hv]
  simp only [Option.bind_some, Hp.mayFreeze, Bool.false_eq_true, if_false, Hp.get, dj_p h, Option.join_some]
  refine (if_pos ⟨hm, rfl, rfl, by omega, rfl⟩).trans ?_
  have e : lay cs i [.v v] = cs.set i (.v v) := lay_one (by omega)
  have e2 : (dj G P q p D B cs).set p (some (sBlk (cs.set i (.v v)) false)) = dj G P q p D B (cs.set i (.v v)) := by
    unfold dj oset; rw [List.set_set]
  rw [← e2, ← e]
  rfl
theorem opDj {f xs} {r : AV} {D' : DskD} (hr : r.lf = true) (hx : ∀ g, xs.map (AV.ren (up g)) = xs)
    (he : ∀ G', P.Ok G'.length n → Ev prog (.call f xs (dset G' P D)) (.ret r (dset G' P D'))) {L} (hg : Good ⟨dj G P q p D B cs, L⟩) :
    Ev prog (.op (.call f []) xs ⟨dj G P q p D B cs, L⟩) (.val r ⟨dj G P q p D' B cs, L⟩) := by
  have hg' : Good ⟨dj G P q p D' B cs, L⟩ := by
    have e : (dj G P q p D' B cs).length = (dj G P q p D B cs).length := by rw [dj_len, dj_len]
    unfold Good at hg ⊢; simp only [e]; exact hg
  refine op_turn ⟨dj G P q p D' B cs, L⟩ ?_ hr (by simp only [dj_len]) rfl hg hg'
  rw [hx]
  unfold Hp.into
  simp only [dj_len]
  rw [← dj_app h, ← dj_app h, dj_sw h.app, dj_sw h.app]
  exact he _ (by rw [oset_len]; exact h.app.d)
end
def roAV (b : Txt) : AV := .ro false 1 b.length (b.map byteAV)
def recE : Enc Txt := ⟨fun b => [roAV b], 1, false, fun _ => rfl, by omega, .inr rfl, fun _ => rfl, fun _ b => ⟨_, rfl, rfl⟩⟩
def recB (l : List Txt) : Option Blk := some (dBlk (recE.row l) true l.isEmpty)
theorem rec_len {l : List Txt} : (recE.row l).length = l.length := by rw [recE.row_len, show recE.esz = 1 from rfl, Nat.mul_one]
structure JD where
  frm : Nat
  n : Nat
  ep : BitVec 32
  la : BitVec 32
  fi : BitVec 32
  recs : List Txt
  used : Nat
  dead : Bool
def jC (f : Nat → Lab) (pd q : Nat) (J : JD) : List AV := [.ptr (f pd) 5 0, .v (.int .i64 (J.frm : Nat)), .v (.int .i64 (J.n : Nat)), .v (u32 J.ep), .v (u32 J.la), .v (u32 J.fi), .own (f q) J.recs.length 0 J.recs.length 1 none, .v (.int .i64 (J.used : Nat)), .v (.bool J.dead)]
def yC (f : Nat → Lab) (pd q : Nat) (J : JD) : List AV := [.ptr (f pd) 5 0, .v (.int .i64 (J.frm : Nat)), .v (.int .i64 (J.n : Nat)), .v (u32 J.ep), .own (f q) J.recs.length 0 J.recs.length 1 none, .v (u32 J.fi), .v (.int .i64 (J.used : Nat)), .v (.bool J.dead)]
end Go.AM
namespace Go.AM
variable {prog : String → Option IFn}
variable {G L : List (Option Blk)} {P : DPos} {D : DskD} {n q p : Nat} {B : Option Blk} {cs : List AV} {J : JD}
structure JourLib (prog : String → Option IFn) : Prop extends DiskLib prog, TakeLib prog where
  jnew : prog "haberdash/journal.New" = some f_journal_New
  jopen : prog "haberdash/journal.Open" = some f_journal_Open
  jneed : prog "haberdash/journal.Need" = some f_journal_Need
  jadd : prog "(*haberdash/journal.Journal).Add" = some f___journal_Journal__Add
  jlay : prog "(*haberdash/journal.Journal).lay" = some f___journal_Journal__lay
  jnote : prog "(*haberdash/journal.Journal).note" = some f___journal_Journal__note
  jrecs : prog "(*haberdash/journal.Journal).Records" = some f___journal_Journal__Records
  jused : prog "(*haberdash/journal.Journal).Used" = some f___journal_Journal__Used
  jfirst : prog "(*haberdash/journal.Journal).First" = some f___journal_Journal__First
  jtake : prog "(*haberdash/journal.Journal).take" = some f___journal_Journal__take
  jleaves : prog "(*haberdash/journal.Journal).leaves" = some f___journal_Journal__leaves
  jleaves1 : prog "(*haberdash/journal.Journal).leaves$1" = some f___journal_Journal__leaves_1
def needN (k : Nat) : Nat := (k + 45) / 46
theorem Need_spec (H : JourLib prog) {G} {k : Nat} (hk : k < 2 ^ 62) : Ev prog (.call "haberdash/journal.Need" [.v (.int .i64 (k : Nat))] G) (.ret (.v (.int .i64 (needN k : Nat))) G) := by
  refine call_of_fin H.jneed ?_
  simp only [f_journal_Need_B, enter, List.length_cons, List.length_nil, List.replicate, Nat.reduceAdd, Nat.reduceSub, List.cons_append, List.nil_append]
  by_cases h : k < 1
  · have h1 : (k : Int) < 1 := by omega
    have e : needN k = 0 := by unfold needN; omega
    simp (disch := first | (simp only [DS, reduceCtorEq]; done) | omega) only [WS, St.guard, St.put, evalO, reduceCtorEq, reduceIte, Nat.reduceAdd, Nat.reduceEqDiff, h1, decide_true, fin_tmp, leave_v, e]
    simp
  · have h1 : ¬ (k : Int) < 1 := by omega
    have e1 : (k : Int) - 1 = ((k - 1 : Nat) : Int) := by omega
    have e : (((k - 1) / 46 : Nat) : Int) + 1 = (needN k : Nat) := by unfold needN; omega
    simp (disch := first | (simp only [DS, reduceCtorEq]; done) | omega) only [WS, St.guard, St.put, evalO, reduceCtorEq, reduceIte, Nat.reduceAdd, Nat.reduceEqDiff, h1, decide_false, vBin_sub_i64, e1]
    rw [vBin_quo_i64 (z := 46) 46 rfl (by omega) (by omega)]
    have hb : (k - 1) / 46 ≤ k := by omega
    simp (disch := first | (simp only [DS, reduceCtorEq]; done) | omega) only [WS, St.guard, St.put, evalO, reduceCtorEq, reduceIte, Nat.reduceAdd, Nat.reduceEqDiff, vBin_add_i64, e, fin_tmp, leave_v]
    simp
theorem clone_opV {nm} {esz bytes : Nat} {z : List Value} (hf : prog nm = some ⟨8, 2, [.tmp 2], cloneB esz bytes z⟩) {h : Hp} {a : AV} {k : Nat} {new : List AV} {site : Nat} (v : View h a esz k new) (hd : AV.lf.lfs new = true)
    (hn : ∀ L, (⟨h.into, L⟩ : Hp).isNil .slice (a.ren (up h.G.length)) = some false) (h0 : 0 < k) (hr : k * bytes ≤ room) (hs : h.L[site]? = some none) (hg : Good h) :
    Ev prog (.op (.call nm [site]) [a] h) (.val (.own (.l site) (k * esz) 0 k esz none) ⟨h.G, h.L.set site (some (dBlk new true false))⟩) := by
  refine op_news (Bs := [some (dBlk new true false)]) (CloneT hf (v.into hd) hd hn h0 hr) (fun B hB b e => ?_) rfl (by simp) (by simp [free_of_get hs]) hg ?_
  · subst e; simp at hB; subst hB; rfl
  · simp only [AV.ren, down_into0]; rfl
theorem bclone (H : JourLib prog) : prog "bytes.Clone" = some ⟨8, 2, [.tmp 2], cloneB 1 1 [.int .u8 0]⟩ := H.clone.trans (congrArg some rfl)
structure Arg (G : List (Option Blk)) (P : DPos) (q p : Nat) (a : AV) (b : Txt) : Prop where
  v : ∀ D B cs X L, View ⟨dj G P q p D B cs ++ X, L⟩ a 1 b.length (b.map byteAV)
  nil : b ≠ [] → ∀ D B cs X L, (⟨dj G P q p D B cs ++ X, L⟩ : Hp).isNil .slice a = some false
  up : ∀ g, a.ren (up g) = a
theorem Arg.vv {a b} (A : Arg G P q p a b) (L) : View ⟨dj G P q p D B cs, L⟩ a 1 b.length (b.map byteAV) := by have := A.v D B cs [] L; rwa [List.append_nil] at this
theorem Arg.app {a b X} (A : Arg G P q p a b) (h : OOk G.length P q p n) : Arg (G ++ X) P q p a b :=
  ⟨fun D B cs Y L => by rw [dj_app h, List.append_assoc]; exact A.v _ _ _ _ _, fun hb D B cs Y L => by rw [dj_app h, List.append_assoc]; exact A.nil hb _ _ _ _ _, A.up⟩
theorem into_dat {G X : List (Option Blk)} (hX : ∀ B ∈ X, ∀ b, B = some b → b.labs = []) : (⟨G, X⟩ : Hp).into = G ++ X := by
  unfold Hp.into
  congr 1
  conv => rhs; rw [← List.map_id X]
  refine List.map_congr_left fun B hB => ?_
  cases B with
  | none => rfl
  | some b => simp only [Option.map_some, id_eq]; rw [blk_ren_id fun ℓ hℓ => by rw [hX _ hB b rfl] at hℓ; cases hℓ]
theorem Arg.nilIn {a b} (A : Arg G P q p a b) (hb : b ≠ []) {L} (hL : Dat L) : ∀ L', (⟨(⟨dj G P q p D B cs, L⟩ : Hp).into, L'⟩ : Hp).isNil .slice (a.ren (AM.up (⟨dj G P q p D B cs, L⟩ : Hp).G.length)) = some false := fun L' => by
  rw [A.up, into_dat hL]; exact A.nil hb _ _ _ _ _
theorem append_rec {G L} {site q m : Nat} {l : List Txt} {b : Txt} (hq : G[q]? = some (recB l)) (hm : L[m]? = some (some (dBlk [roAV b] false false))) (hr : (l.length + 1) * 24 ≤ room) :
    prim ⟨G, L⟩ (.append site true 1 24) [.own (.o q) l.length 0 l.length 1 none, .own (.l m) 1 0 1 1 (some 1)] =
      some (.own (.o q) (l.length + 1) 0 (l.length + 1) 1 none, ⟨G.set q (recB (l ++ [b])), L⟩) := by
  have hv : View ⟨G, L⟩ (.own (.l m) 1 0 1 1 (some 1)) 1 1 [roAV b] := own_view1 hm rfl (by simp)
  simp only [prim, hv.source, Option.bind_some, Hp.mayFreeze, if_true, Hp.freezes, Hp.freeze, roAV, Option.map_some, Hp.append, List.length_cons, List.length_nil, Nat.mul_one, Hp.get, hq, recB, Option.join_some, dBlk_cells, rec_len]
  refine (if_pos ⟨trivial, trivial, hr, rfl⟩).trans ?_
  rw [if_neg (by omega), if_neg (by simp [dBlk]), if_neg (by omega)]
  refine (if_pos ⟨trivial, rfl⟩).trans ?_
  rw [List.take_of_length_le (by rw [rec_len]; omega)]
  have e : (l ++ [b]).isEmpty = false := by cases l <;> rfl
  simp only [dBlk, Hp.put, recE.row_append, e]
  rfl
def JD.note (J : JD) (b : Txt) (k : Nat) : JD := { J with fi := if J.recs = [] then J.ep else J.fi, recs := J.recs ++ [b], la := J.ep, used := J.used + k }
theorem jC_rec {f : Nat → Lab} {pd q : Nat} {J : JD} {b : Txt} : (jC f pd q J).set 6 (.own (f q) (J.recs.length + 1) 0 (J.recs.length + 1) 1 none) = jC f pd q { J with recs := J.recs ++ [b] } := by
  have e : (J.recs ++ [b]).length = J.recs.length + 1 := by simp
  simp only [jC, e]; rfl
theorem dj_stown (h : OOk G.length P q p n) {i m k : Nat} (hm : cs.length = m) (hi : i < m) : prim ⟨dj G P q p D B cs, L⟩ (.store 1 false) [.ptr (.o p) m i, .own (.o q) k 0 k 1 none] = some (.v undef, ⟨dj G P q p D B (cs.set i (.own (.o q) k 0 k 1 none)), L⟩) := by
  have hqp := h.qp
  rw [px_store, show (AV.own (.o q) k 0 k 1 none).cellsOf = some [.own (.o q) k 0 k 1 none] from rfl]
  simp only [Option.bind_some, Hp.mayFreeze, Bool.false_eq_true, if_false, Hp.get, dj_p h, Option.join_some]
  refine (if_pos ⟨hm, rfl, rfl, by omega, by simp [okPut, AV.labs.labss, AV.labs, labLt, hqp]⟩).trans ?_
  have e : lay cs i [.own (.o q) k 0 k 1 none] = cs.set i (.own (.o q) k 0 k 1 none) := lay_one (by omega)
  have e2 : (dj G P q p D B cs).set p (some (sBlk (cs.set i (.own (.o q) k 0 k 1 none)) false)) = dj G P q p D B (cs.set i (.own (.o q) k 0 k 1 none)) := by
    unfold dj oset; rw [List.set_set]
  rw [← e2, ← e]
  rfl
theorem dj_setq (h : OOk G.length P q p n) {B' : Option Blk} : (dj G P q p D B cs).set q B' = dj G P q p D B' cs := by
  have hqp := h.qp
  unfold dj oset
  rw [List.set_comm _ _ (by omega), List.set_set]
theorem recs_nil {l : List Txt} : ((l.length : Int) == 0) = decide (l = []) := by
  cases l with
  | nil => rfl
  | cons x l => rw [decide_eq_false (by simp), beq_eq_false_iff_ne]; simp only [List.length_cons]; omega
theorem frz_row {G : List (Option Blk)} {b : Txt} {X : Option Blk} : prim ⟨G, [some (dBlk (b.map byteAV) true false), none, X]⟩ (.buildSlice 1 true 1 1 [.slice none 0 0] [(0, 1)]) [.own (.l 0) (b.length * 1) 0 b.length 1 none] =
    some (.own (.l 1) 1 0 1 1 (some 1), ⟨G, [some { dBlk (b.map byteAV) true false with wr := false }, some (dBlk [roAV b] false false), X]⟩) := by
  rw [px_buildSlice]
  have e : (⟨G, [some (dBlk (b.map byteAV) true false), none, X]⟩ : Hp).mayFreeze true [.own (.l 0) (b.length * 1) 0 b.length 1 none] = some ([roAV b], ⟨G, [some { dBlk (b.map byteAV) true false with wr := false }, none, X]⟩) := by
    simp only [Hp.mayFreeze, if_true, Hp.freezes, Hp.freeze, Hp.get, List.getElem?_cons_zero, Option.join_some]
    rw [if_pos ⟨by simp [dBlk], rfl⟩]
    simp only [Option.bind_some, Option.map_some, Option.some.injEq, Prod.mk.injEq, List.cons.injEq, and_true]
    refine ⟨?_, rfl⟩
    unfold roAV
    rw [List.drop_zero, List.take_of_length_le (by simp [dBlk])]
    rfl
  rw [e]
  rfl
theorem note_spec (H : JourLib prog) (h : OOk G.length P q p n) {a : AV} {b : Txt} {k : Nat} (A : Arg G P q p a b) (hb : b ≠ []) (hbl : b.length ≤ room) (hrl : (J.recs.length + 1) * 24 ≤ room) (hk : J.used + k < 2 ^ 62) :
    Ev prog (.call "(*haberdash/journal.Journal).note" [.ptr (.o p) 9 0, a, .v (.int .i64 (k : Nat))] (dj G P q p D (recB J.recs) (jC .o P.p q J))) (.ret (.tup []) (dj G P q p D (recB (J.note b k).recs) (jC .o P.p q (J.note b k)))) := by
  refine call_of_fin H.jnote ?_
  simp only [f___journal_Journal__note_B, enter, List.length_cons, List.length_nil, List.replicate, Nat.reduceAdd, Nat.reduceSub, List.cons_append, List.nil_append]
  have h0 : 0 < b.length := by cases b with | nil => exact absurd rfl hb | cons => simp
  have lr : ∀ (J' : JD) (B : Option Blk) L, prim ⟨dj G P q p D B (jC .o P.p q J'), L⟩ (.load 1 false) [.ptr (.o p) 9 6] = some (.own (.o q) J'.recs.length 0 J'.recs.length 1 none, ⟨dj G P q p D B (jC .o P.p q J'), L⟩) := fun J' B L => dj_ld h (i := 6) rfl rfl
  have l3 : ∀ (J' : JD) (B : Option Blk) L, prim ⟨dj G P q p D B (jC .o P.p q J'), L⟩ (.load 1 false) [.ptr (.o p) 9 3] = some (.v (u32 J'.ep), ⟨dj G P q p D B (jC .o P.p q J'), L⟩) := fun J' B L => dj_ld h (i := 3) rfl rfl
  have l7 : ∀ (J' : JD) (B : Option Blk) L, prim ⟨dj G P q p D B (jC .o P.p q J'), L⟩ (.load 1 false) [.ptr (.o p) 9 7] = some (.v (.int .i64 (J'.used : Nat)), ⟨dj G P q p D B (jC .o P.p q J'), L⟩) := fun J' B L => dj_ld h (i := 7) rfl rfl
  have s5 : ∀ (J' : JD) (B : Option Blk) (e : BitVec 32) L, prim ⟨dj G P q p D B (jC .o P.p q J'), L⟩ (.store 1 false) [.ptr (.o p) 9 5, .v (u32 e)] = some (.v undef, ⟨dj G P q p D B (jC .o P.p q { J' with fi := e }), L⟩) := fun J' B e L => dj_st h (i := 5) rfl (by omega) rfl
  have s4 : ∀ (J' : JD) (B : Option Blk) (e : BitVec 32) L, prim ⟨dj G P q p D B (jC .o P.p q J'), L⟩ (.store 1 false) [.ptr (.o p) 9 4, .v (u32 e)] = some (.v undef, ⟨dj G P q p D B (jC .o P.p q { J' with la := e }), L⟩) := fun J' B e L => dj_st h (i := 4) rfl (by omega) rfl
  have s7 : ∀ (J' : JD) (B : Option Blk) (u : Nat) L, prim ⟨dj G P q p D B (jC .o P.p q J'), L⟩ (.store 1 false) [.ptr (.o p) 9 7, .v (.int .i64 (u : Nat))] = some (.v undef, ⟨dj G P q p D B (jC .o P.p q { J' with used := u }), L⟩) := fun J' B u L => dj_st h (i := 7) rfl (by omega) rfl
  have ls : ∀ (m : Nat) (h : Hp), prim h .lenSlice [.own (.o q) m 0 m 1 none] = some (.v (.int .i64 (m : Nat)), h) := fun m h => rfl
  simp (disch := first | (simp only [DS, reduceCtorEq]; done) | omega) only [WS, St.guard, St.put, evalO, reduceCtorEq, reduceIte, Nat.reduceAdd, Nat.reduceEqDiff, lr, ls, recs_nil]
  obtain ⟨J1, hJ1⟩ : ∃ J1 : JD, J1 = { J with fi := if J.recs = [] then J.ep else J.fi } := ⟨_, rfl⟩
  have hJr : J1.recs = J.recs := by rw [hJ1]
  have hJn : J.note b k = { J1 with recs := J1.recs ++ [b], la := J1.ep, used := J1.used + k } := by rw [hJ1]; rfl
  have hJu : J1.used = J.used := by rw [hJ1]
  rw [hJn]
  have d3 : Dat [none, none, none] := by intro B hB b e; subst e; simp at hB
  have dd : ∀ {c : List AV} {w : Bool} {X : List (Option Blk)}, Dat X → Dat (some { dBlk c true false with wr := w } :: X) := fun {c w X} hX B hB b e => by
    subst e
    rcases List.mem_cons.1 hB with h | h
    · cases h; rfl
    · exact hX _ h b rfl
  have dN : ∀ X : List (Option Blk), (∀ B ∈ X, B = none) → Dat X := fun X hX B hB b e => by rw [hX B hB] at e; cases e
  have gd : ∀ {D B cs L}, Dat L → Good ⟨dj G P q p D B cs, L⟩ := fun hL => goodX hL
  have dc : ∀ {c : List AV} {w : Bool} {X : List (Option Blk)}, Dat X → Dat (some (dBlk c w false) :: X) := fun {c w X} hX B hB b e => by
    subst e
    rcases List.mem_cons.1 hB with h | h
    · cases h; rfl
    · exact hX _ h b rfl
  have d1 : Dat [(none : Option Blk)] := by intro B hB b e; subst e; simp at hB
  have d2 : Dat [(none : Option Blk), none] := by intro B hB b e; subst e; simp at hB
  by_cases hr : J.recs = []
  case' pos =>
    have hJ2 : J1 = { J with fi := J.ep } := by rw [hJ1, if_pos hr]
    have hd : decide (J.recs = []) = true := decide_eq_true hr
    simp (disch := first | (simp only [DS, reduceCtorEq]; done) | omega) only [WS, St.guard, St.put, evalO, reduceCtorEq, reduceIte, Nat.reduceAdd, Nat.reduceEqDiff, hd, l3, s5]
    simp only [← hJ2]
    rw [← hJr]
  case' neg =>
    have hJ2 : J1 = J := by rw [hJ1, if_neg hr]
    have hd : decide (J.recs = []) = false := decide_eq_false hr
    simp (disch := first | (simp only [DS, reduceCtorEq]; done) | omega) only [WS, St.guard, St.put, evalO, reduceCtorEq, reduceIte, Nat.reduceAdd, Nat.reduceEqDiff, hd]
    rw [← hJ2]
  all_goals
    refine WDP_er (by exact gd d3) rfl ?_
    refine ⟨_, _, lr _ _ _, rfl, .inr ⟨rfl, gd d3⟩, ?_⟩
    simp (disch := first | (simp only [DS, reduceCtorEq]; done) | omega) only [WS, St.guard, St.put, evalO, reduceCtorEq, reduceIte, Nat.reduceAdd, Nat.reduceEqDiff, WDX_some, reduceIte, if_true, if_false, Bool.and_true, Bool.true_and, true_and, Bool.false_eq_true, false_or, true_or, Hp.over, AM.over, over_nil, List.foldl_cons, List.foldl_nil, List.set_cons_zero, List.set_cons_succ, List.getElem?_cons_zero, List.getElem?_cons_succ, Option.join_some, List.length_cons, List.length_nil, Prim.sites, List.cons_append, List.nil_append]
    refine WDP_of (clone_opV (bclone H) (A.vv _) bytes_lfs (A.nilIn hb d3) h0 (by omega) (by exact rfl) (by exact gd d3)) (by exact gd d3) (by exact gd (dc d2)) rfl rfl ?_
    simp (disch := first | (simp only [DS, reduceCtorEq]; done) | omega) only [WS, St.guard, St.put, evalO, reduceCtorEq, reduceIte, Nat.reduceAdd, Nat.reduceEqDiff]
    refine WDP_of (.prim frz_row) (by exact gd (dc d2)) (by exact gd (dd (dc d1))) rfl rfl ?_
    simp (disch := first | (simp only [DS, reduceCtorEq]; done) | omega) only [WS, St.guard, St.put, evalO, reduceCtorEq, reduceIte, Nat.reduceAdd, Nat.reduceEqDiff]
    refine WDP_loud (append_rec (b := b) (dj_q h) (by exact rfl) (by rw [hJr]; exact hrl)) ((gd (dd (dc d1))).okAt) ?_
    simp only [dj_setq h]
    simp (disch := first | (simp only [DS, reduceCtorEq]; done) | omega) only [WS, St.guard, St.put, evalO, reduceCtorEq, reduceIte, Nat.reduceAdd, Nat.reduceEqDiff]
    refine WDP_loud (dj_stown h (i := 6) rfl (by omega)) ((gd (dd (dc d1))).okAt) ?_
    rw [jC_rec (b := b)]
    have hu : ((J1.used : Int) + (k : Int)) = ((J1.used + k : Nat) : Int) := by omega
    simp (disch := first | (simp only [DS, reduceCtorEq]; done) | omega) only [WS, St.guard, St.put, evalO, reduceCtorEq, reduceIte, Nat.reduceAdd, Nat.reduceEqDiff, l3, s4, l7, vBin_add_i64, hu, s7]
    exact ⟨.inl trivial, fin_nil⟩
end Go.AM
namespace Go.AM
variable {prog : String → Option IFn}
variable {G L : List (Option Blk)} {P : DPos} {D : DskD} {n q p : Nat} {B : Option Blk} {cs : List AV} {J : JD}
theorem Used_spec (H : JourLib prog) (h : OOk G.length P q p n) : Ev prog (.call "(*haberdash/journal.Journal).Used" [.ptr (.o p) 9 0] (dj G P q p D B (jC .o P.p q J))) (.ret (.v (.int .i64 (J.used : Nat))) (dj G P q p D B (jC .o P.p q J))) := by
  refine call_of_fin H.jused ?_
  simp only [f___journal_Journal__Used_B, enter, List.length_cons, List.length_nil, List.replicate, Nat.reduceAdd, Nat.reduceSub, List.cons_append, List.nil_append]
  have l7 : ∀ L, prim ⟨dj G P q p D B (jC .o P.p q J), L⟩ (.load 1 false) [.ptr (.o p) 9 7] = some (.v (.int .i64 (J.used : Nat)), ⟨dj G P q p D B (jC .o P.p q J), L⟩) := fun L => dj_ld h (i := 7) rfl rfl
  simp (disch := first | (simp only [DS, reduceCtorEq]; done) | omega) only [WS, St.guard, St.put, evalO, reduceCtorEq, reduceIte, Nat.reduceAdd, Nat.reduceEqDiff, isNilV, Hp.isNil, l7, fin_tmp, leave_v]
  simp
theorem append_recL {G L} {site j m : Nat} {l : List Txt} {b : Txt} (hq : L[j]? = some (recB l)) (hm : L[m]? = some (some (dBlk [roAV b] false false))) (hr : (l.length + 1) * 24 ≤ room) :
    prim ⟨G, L⟩ (.append site true 1 24) [.own (.l j) l.length 0 l.length 1 none, .own (.l m) 1 0 1 1 (some 1)] =
      some (.own (.l j) (l.length + 1) 0 (l.length + 1) 1 none, ⟨G, L.set j (recB (l ++ [b]))⟩) := by
  have hv : View ⟨G, L⟩ (.own (.l m) 1 0 1 1 (some 1)) 1 1 [roAV b] := own_view1 hm rfl (by simp)
  simp only [prim, hv.source, Option.bind_some, Hp.mayFreeze, if_true, Hp.freezes, Hp.freeze, roAV, Option.map_some, Hp.append, List.length_cons, List.length_nil, Nat.mul_one, Hp.get, hq, recB, Option.join_some, dBlk_cells, rec_len]
  refine (if_pos ⟨trivial, trivial, hr, rfl⟩).trans ?_
  rw [if_neg (by omega), if_neg (by simp [dBlk]), if_neg (by omega)]
  refine (if_pos ⟨trivial, rfl⟩).trans ?_
  rw [List.take_of_length_le (by rw [rec_len]; omega)]
  have e : (l ++ [b]).isEmpty = false := by cases l <;> rfl
  simp only [dBlk, Hp.put, recE.row_append, e]
  rfl
theorem frz_rowL {G : List (Option Blk)} {b : Txt} {X Y : Option Blk} : prim ⟨G, [X, some (dBlk (b.map byteAV) true false), none, Y]⟩ (.buildSlice 2 true 1 1 [.slice none 0 0] [(0, 1)]) [.own (.l 1) (b.length * 1) 0 b.length 1 none] =
    some (.own (.l 2) 1 0 1 1 (some 1), ⟨G, [X, some { dBlk (b.map byteAV) true false with wr := false }, some (dBlk [roAV b] false false), Y]⟩) := by
  rw [px_buildSlice]
  have e : (⟨G, [X, some (dBlk (b.map byteAV) true false), none, Y]⟩ : Hp).mayFreeze true [.own (.l 1) (b.length * 1) 0 b.length 1 none] = some ([roAV b], ⟨G, [X, some { dBlk (b.map byteAV) true false with wr := false }, none, Y]⟩) := by
    simp only [Hp.mayFreeze, if_true, Hp.freezes, Hp.freeze, Hp.get, List.getElem?_cons_zero, List.getElem?_cons_succ, Option.join_some]
    rw [if_pos ⟨by simp [dBlk], rfl⟩]
    simp only [Option.bind_some, Option.map_some, Option.some.injEq, Prod.mk.injEq, List.cons.injEq, and_true]
    refine ⟨?_, rfl⟩
    unfold roAV
    rw [List.drop_zero, List.take_of_length_le (by simp [dBlk])]
    rfl
  rw [e]
  rfl
theorem ro_view {h : Hp} {b : Txt} : View h (roAV b) 1 b.length (b.map byteAV) := view_ro (by decide) (by simp)
theorem rec_view {G L} {q : Nat} {l : List Txt} (hq : G[q]? = some (recB l)) : View ⟨G, L⟩ (.own (.o q) l.length 0 l.length 1 none) 1 l.length (recE.row l) := by
  refine ⟨rfl, ?_, by rw [rec_len]; omega, rfl, trivial, by omega⟩
  simp only [Hp.sees, Hp.get, hq, recB, Option.join_some, dBlk_cells, rec_len, if_true, List.drop_zero, Nat.mul_one]
  rw [List.take_of_length_le (by rw [rec_len]; exact Nat.le_refl _)]
theorem rec_get {l : List Txt} {i : Nat} {b : Txt} (hb : l[i]? = some b) : (recE.row l)[i]? = some (roAV b) := by
  have := row_fld (T := recE) (f := 0) (y := roAV b) hb (by decide) rfl
  simpa [show recE.esz = 1 from rfl] using this
theorem Records_spec (H : JourLib prog) (h : OOk G.length P q p n) (hne : ∀ b ∈ J.recs, b ≠ []) (hbl : ∀ b ∈ J.recs, b.length ≤ room) (hrl : J.recs.length * 24 ≤ room) :
    Ev prog (.call "(*haberdash/journal.Journal).Records" [.ptr (.o p) 9 0] (dj G P q p D (recB J.recs) (jC .o P.p q J))) (.ret (.own (.o G.length) J.recs.length 0 J.recs.length 1 none) (dj G P q p D (recB J.recs) (jC .o P.p q J) ++ [recB J.recs])) := by
  refine call_of_fin H.jrecs ?_
  simp only [f___journal_Journal__Records_B, enter, List.length_cons, List.length_nil, List.replicate, Nat.reduceAdd, Nat.reduceSub, List.cons_append, List.nil_append]
  obtain ⟨G1, hG1⟩ : ∃ G1, G1 = dj G P q p D (recB J.recs) (jC .o P.p q J) := ⟨_, rfl⟩
  have hl1 : G1.length = G.length := by rw [hG1, dj_len]
  have l6 : ∀ L, prim ⟨G1, L⟩ (.load 1 false) [.ptr (.o p) 9 6] = some (.own (.o q) J.recs.length 0 J.recs.length 1 none, ⟨G1, L⟩) := fun L => by rw [hG1]; exact dj_ld h (i := 6) rfl rfl
  have hq1 : G1[q]? = some (recB J.recs) := by rw [hG1]; exact dj_q h
  have hql := lt_of_get hq1
  have ls : ∀ (m : Nat) (h : Hp), prim h .lenSlice [.own (.o q) m 0 m 1 none] = some (.v (.int .i64 (m : Nat)), h) := fun m h => rfl
  have nv : prim ⟨G1, [none, none, none, none]⟩ (.nilv 0 1) [.v (.slice none 0 0)] = some (.own (.l 0) 0 0 0 1 none, ⟨G1, [recB [], none, none, none]⟩) := rfl
  have vr := fun L => rec_view (L := L) hq1
  have hroom : room = 140737488355328 := rfl
  rw [← hG1]
  simp (disch := first | (simp only [DS, reduceCtorEq]; done) | omega) only [WS, St.guard, St.put, evalO, reduceCtorEq, reduceIte, Nat.reduceAdd, Nat.reduceEqDiff, isNilV, Hp.isNil, nv, l6, ls]
  refine WC_count (fun i => ⟨f___journal_Journal__Records_H0 (.own (.l 0) (J.recs.take i).length 0 (J.recs.take i).length 1 none) (.own (.o q) J.recs.length 0 J.recs.length 1 none) (.v (.int .i64 (J.recs.length : Nat))) (.v (.int .i64 (i : Nat))), ⟨G1, [recB (J.recs.take i), none, none, none]⟩⟩) J.recs.length ?_ (fun i hi => ?_) ?_
  · exact clear_fre (by simp only [clear_nil, List.foldl_cons, List.foldl_nil, Option.some.injEq, LS, reduceCtorEq, reduceIte, Nat.reduceAdd] <;> rfl) (by rfl) (by rfl) (by rfl)
  · have hlt : (i : Int) < (J.recs.length : Int) := by omega
    obtain ⟨b, hb⟩ : ∃ b, J.recs[i]? = some b := ⟨_, List.getElem?_eq_getElem hi⟩
    have hbm := List.mem_of_getElem? hb
    have h0 : 0 < b.length := by have := hne b hbm; cases b with | nil => exact absurd rfl this | cons => simp
    have hbr := hbl b hbm
    have ix : ∀ L, prim ⟨G1, L⟩ (.indexAddr 1) [.own (.o q) J.recs.length 0 J.recs.length 1 none, .v (.int .i64 (i : Int))] = some (.ptr (.o q) J.recs.length i, ⟨G1, L⟩) := fun L => by
      have := (vr L).index (k := .i64) hi
      simpa only [elemPtr, Nat.zero_add, Nat.mul_one] using this
    have ld : ∀ L, prim ⟨G1, L⟩ (.load 1 false) [.ptr (.o q) J.recs.length i] = some (roAV b, ⟨G1, L⟩) := fun L => by
      have := (vr L).load1 (rec_get hb)
      simpa only [elemPtr, Nat.zero_add, Nat.mul_one] using this
    have et : J.recs.take (i + 1) = J.recs.take i ++ [b] := by rw [List.take_add_one, hb]; rfl
    have g0 : ∀ X Y Z : Option Blk, (∀ b, X = some b → b.labs = []) → (∀ b, Y = some b → b.labs = []) → (∀ b, Z = some b → b.labs = []) → Good ⟨G1, [recB (J.recs.take i), X, Y, Z]⟩ := fun X Y Z hX hY hZ => goodD (fun b e => by cases e; rfl) (goodD hX (goodD hY (goodD hZ trivial)))
    have dn : ∀ b, (none : Option Blk) = some b → b.labs = [] := fun b e => by cases e
    simp (disch := first | (simp only [DS, reduceCtorEq]; done) | omega) only [f___journal_Journal__Records_L0, f___journal_Journal__Records_H0, WS, St.guard, St.put, evalO, reduceCtorEq, reduceIte, Nat.reduceAdd, Nat.reduceEqDiff, hlt, decide_true, ix, ld]
    refine WP_of (clone_opV (bclone H) ro_view bytes_lfs (fun L => rfl) h0 (by omega) (by exact rfl) (by exact g0 _ _ _ dn dn dn)) ?_
    simp (disch := first | (simp only [DS, reduceCtorEq]; done) | omega) only [WS, St.guard, St.put, evalO, reduceCtorEq, reduceIte, Nat.reduceAdd, Nat.reduceEqDiff, List.set_cons_succ, List.set_cons_zero, frz_rowL]
    have htl : (J.recs.take i).length ≤ i := by simp; omega
    refine (WR_eq (append_recL (b := b) (l := J.recs.take i) (by exact rfl) (by exact rfl) (by omega))).2 ?_
    rw [← et]
    have el : (J.recs.take (i + 1)).length = (J.recs.take i).length + 1 := by rw [et]; simp
    simp (disch := first | (simp only [DS, reduceCtorEq]; done) | omega) only [WS, St.guard, St.put, evalO, reduceCtorEq, reduceIte, Nat.reduceAdd, Nat.reduceEqDiff, List.set_cons_zero, vBin_add_i64]
    rw [← el]
    exact clear_fre (by simp only [clear_nil, List.foldl_cons, List.foldl_nil, Option.some.injEq, LS, reduceCtorEq, reduceIte, Nat.reduceAdd] <;> rfl) (by rfl) (by rfl) (by rfl)
  · have e : J.recs.take J.recs.length = J.recs := List.take_of_length_le (Nat.le_refl _)
    rw [e]
    simp (disch := first | (simp only [DS, reduceCtorEq]; done) | omega) only [f___journal_Journal__Records_L0, f___journal_Journal__Records_H0, WS, St.guard, St.put, evalO, reduceCtorEq, reduceIte, Nat.reduceAdd, Nat.reduceEqDiff, Int.lt_irrefl, decide_false, fin_tmp]
    refine ⟨by simp, ?_⟩
    have := leave_own1 (h := ⟨G1, [recB J.recs, none, none, none]⟩) (j := 0) (n := J.recs.length) (off := 0) (len := J.recs.length) (esz := 1) (cap := none) (b := dBlk (recE.row J.recs) true J.recs.isEmpty) rfl rfl
    rw [this]
    simp only [hl1]
    rfl
end Go.AM
namespace Go.AM
variable {prog : String → Option IFn}
variable {G L : List (Option Blk)} {P : DPos} {D : DskD} {n q p : Nat} {B : Option Blk} {cs : List AV} {J : JD}
theorem WDP_pureU {k : List Kf} {s : St} {Z : Out → St → Prop} {f xs u ld dst l} {r : AV} (he : ∀ L, Good ⟨s.h.G, L⟩ → Ev prog (.op (.call f []) xs ⟨s.h.G, L⟩) (.val r ⟨s.h.G, L⟩)) (hg : Good s.h)
    (h : WD prog l k (s.put dst r) Z) : WDP prog (.call f []) xs u [] ld dst l k s Z := by
  refine ⟨r, s.h, fun X hX => ?_, hg.okAt, .inr ⟨rfl, hg.okAt⟩, fun _ _ => rfl, h⟩
  exact he _ (hg.over hX)
theorem Arg.sub {a b} (A : Arg G P q p a b) {i j : Nat} (hij : i ≤ j) (hj : j ≤ b.length) :
    (∀ D B cs X L, View ⟨dj G P q p D B cs ++ X, L⟩ (AM.sub a 1 i j) 1 ((b.drop i).take (j - i)).length (((b.drop i).take (j - i)).map byteAV)) ∧ (∀ g, (AM.sub a 1 i j).ren (AM.up g) = AM.sub a 1 i j) ∧ (AM.sub a 1 i j).cellsOf = some [AM.sub a 1 i j] := by
  refine ⟨fun D B cs X L => ?_, fun g => ?_, ((A.v (newD 0) none [] [] []).sub hij hj).cellsOf⟩
  · have := (A.v D B cs X L).sub hij hj
    rw [Nat.mul_one, Nat.mul_one, ← List.map_drop, ← List.map_take] at this
    have hl : ((b.drop i).take (j - i)).length = j - i := by rw [List.length_take, List.length_drop]; omega
    rw [hl]; exact this
  · have := A.up g
    rcases (A.v (newD 0) none [] [] []).cases with ⟨rfl, _, _⟩ | ⟨nl, rfl⟩ | ⟨ℓ, m, off, cap, B, rfl, _, _, _, _⟩
    · rfl
    · rfl
    · cases ℓ with
      | l k => simp [AV.ren, AM.up] at this
      | o p => rfl
def pc (b : Txt) (k : Nat) : Txt := (b.drop (k * 46)).take 46
theorem pc_cut {b : Txt} {k : Nat} : (b.drop (k * 46)).take (min ((k + 1) * 46) b.length - k * 46) = pc b k := by
  unfold pc
  by_cases h : (k + 1) * 46 ≤ b.length
  · rw [Nat.min_eq_left h, show (k + 1) * 46 - k * 46 = 46 by omega]
  · rw [Nat.min_eq_right (by omega), List.take_of_length_le (by rw [List.length_drop]; omega), List.take_of_length_le (by rw [List.length_drop]; omega)]
def leafK (ep : BitVec 32) (num m : Nat) (b : Txt) (k : Nat) : LeafD := ⟨ep, BitVec.ofNat 32 num, decide (k = 0), decide (k = m - 1), pc b k⟩
theorem leafK_right {ep : BitVec 32} {num k : Nat} {b : Txt} (he : ep ≠ 0#32) (hb : b ≠ []) (hk : k < needN b.length) : (leafK ep num (needN b.length) b k).right = true := by
  have h0 : 0 < b.length := by cases b with | nil => exact absurd rfl hb | cons => simp
  have hl : (pc b k).length = min 46 (b.length - k * 46) := by unfold pc; rw [List.length_take, List.length_drop]
  unfold needN at hk
  unfold LeafD.right leafK
  have h1 : ((pc b k).length : Int) ≥ 1 := by omega
  have h2 : ((pc b k).length : Int) ≤ 46 := by omega
  simp only [bne_iff_ne, ne_eq, he, not_false_eq_true, h1, h2, decide_true, Bool.true_and, Bool.and_eq_true, Bool.or_eq_true, decide_eq_true_eq, beq_iff_eq, true_and]
  unfold needN
  omega
def secK (ep : BitVec 32) (num m : Nat) (b : Txt) (k : Nat) : Sec := ⟨(leafK ep num m b k).bytes, bytes_len (by show (pc b k).length ≤ 46; unfold pc; rw [List.length_take]; omega)⟩
theorem secK_bytes {ep num m b k} : (secK ep num m b k).1 = (leafK ep num m b k).bytes := by unfold secK; with_reducible rfl
def layF (D : DskD) (at' : Nat → Int) (s : Nat → Sec) (i : Nat) : Nat → Int × DskD
  | 0 => (writeE D 0, D.sync)
  | k + 1 => if writeE D (at' i) = 0 then layF (D.write (at' i) (s i)) at' s (i + 1) k else (writeE D (at' i), D.write (at' i) (s i))
def wrK (D : DskD) (at' : Nat → Int) (s : Nat → Sec) : Nat → DskD
  | 0 => D
  | i + 1 => (wrK D at' s i).write (at' i) (s i)
theorem wrK_siz {at' : Nat → Int} {s : Nat → Sec} (z : Siz D n) : ∀ i, Siz (wrK D at' s i) n
  | 0 => z
  | i + 1 => (wrK_siz z i).write
def JD.at' (J : JD) (k : Nat) : Int := ((J.frm + J.used + k : Nat) : Int)
def JD.lay (J : JD) (D : DskD) (b : Txt) : Int × DskD := layF D J.at' (secK J.ep J.recs.length (needN b.length) b) 0 (needN b.length)
theorem cv_num {k : Nat} {h : Hp} : prim h (.convInt .u32) [.v (.int .i64 (k : Int))] = some (.v (u32 (BitVec.ofNat 32 k)), h) := convInt_u32 (by simp)
theorem wrap_num {k : Nat} : Value.int .u32 (IntKind.u32.wrap (k : Int)) = u32 (BitVec.ofNat 32 k) := by
  have := cv_num (k := k) (h := ⟨[], []⟩)
  rw [px_convInt] at this
  simpa using this
theorem min_nat {a b : Nat} : mins .i64 (a : Int) [.v (.int .i64 (b : Int))] = some ((min a b : Nat) : Int) := by
  simp only [mins, Option.some.injEq]; omega
set_option maxHeartbeats 4000000 in
theorem lay_spec (H : JourLib prog) (h : OOk G.length P q p n) (z : Siz D n) (hN : n ≤ 20000) {a : AV} {b : Txt} (A : Arg G P q p a b) (hb : b ≠ []) (hbl : b.length ≤ 2 ^ 40) (he : J.ep ≠ 0#32) (hf : J.frm + J.used ≤ 2 ^ 40) :
    Ev prog (.call "(*haberdash/journal.Journal).lay" [.ptr (.o p) 9 0, a] (dj G P q p D B (jC .o P.p q J))) (.ret (.v (.int .i64 (J.lay D b).1)) (dj G P q p (J.lay D b).2 B (jC .o P.p q J))) := by
  refine call_of_fin H.jlay ?_
  have HD := H.toDiskLib
  simp only [f___journal_Journal__lay_B, enter, List.length_cons, List.length_nil, List.replicate, Nat.reduceAdd, Nat.reduceSub, List.cons_append, List.nil_append]
  have l0 : ∀ (D : DskD) L, prim ⟨dj G P q p D B (jC .o P.p q J), L⟩ (.load 1 false) [.ptr (.o p) 9 0] = some (.ptr (.o P.p) 5 0, ⟨dj G P q p D B (jC .o P.p q J), L⟩) := fun D L => dj_ld h (i := 0) rfl rfl
  have l1 : ∀ (D : DskD) L, prim ⟨dj G P q p D B (jC .o P.p q J), L⟩ (.load 1 false) [.ptr (.o p) 9 1] = some (.v (.int .i64 (J.frm : Nat)), ⟨dj G P q p D B (jC .o P.p q J), L⟩) := fun D L => dj_ld h (i := 1) rfl rfl
  have l3 : ∀ (D : DskD) L, prim ⟨dj G P q p D B (jC .o P.p q J), L⟩ (.load 1 false) [.ptr (.o p) 9 3] = some (.v (u32 J.ep), ⟨dj G P q p D B (jC .o P.p q J), L⟩) := fun D L => dj_ld h (i := 3) rfl rfl
  have l6 : ∀ (D : DskD) L, prim ⟨dj G P q p D B (jC .o P.p q J), L⟩ (.load 1 false) [.ptr (.o p) 9 6] = some (.own (.o q) J.recs.length 0 J.recs.length 1 none, ⟨dj G P q p D B (jC .o P.p q J), L⟩) := fun D L => dj_ld h (i := 6) rfl rfl
  have l7 : ∀ (D : DskD) L, prim ⟨dj G P q p D B (jC .o P.p q J), L⟩ (.load 1 false) [.ptr (.o p) 9 7] = some (.v (.int .i64 (J.used : Nat)), ⟨dj G P q p D B (jC .o P.p q J), L⟩) := fun D L => dj_ld h (i := 7) rfl rfl
  have ls : ∀ (m : Nat) (h : Hp), prim h .lenSlice [.own (.o q) m 0 m 1 none] = some (.v (.int .i64 (m : Nat)), h) := fun m h => rfl
  have gd : ∀ {D B cs L}, Dat L → Good ⟨dj G P q p D B cs, L⟩ := fun hL => goodX hL
  have d1 : Dat [(none : Option Blk)] := by intro B hB b e; subst e; simp at hB
  have na : ∀ ks, noRef ks a = true := fun ks => noRef_out (View.out (A.vv (D := D) (B := B) (cs := []) []))
  have np : ∀ ks, noRef ks (.ptr (.o p) 9 0) = true := fun ks => by simp [noRef, AV.labs, labNot]
  obtain ⟨m, hm⟩ : ∃ m, m = needN b.length := ⟨_, rfl⟩
  have hR : J.lay D b = layF D J.at' (secK J.ep J.recs.length m b) 0 m := by rw [hm]; rfl
  have h0 : 0 < b.length := by cases b with | nil => exact absurd rfl hb | cons => simp
  have hmb : m ≤ 2 ^ 40 := by rw [hm]; unfold needN; omega
  rw [hR]
  simp (disch := first | (simp only [DS, reduceCtorEq]; done) | omega) only [WS, St.guard, St.put, evalO, reduceCtorEq, reduceIte, Nat.reduceAdd, Nat.reduceEqDiff, (A.vv _).lenSlice]
  refine (WP_p (x := .int .i64 (m : Nat)) (by rw [hm]; exact Need_spec H (by omega)) (by exact gd d1)).2 ?_
  simp (disch := first | (simp only [DS, reduceCtorEq]; done) | omega) only [WS, St.guard, St.put, evalO, reduceCtorEq, reduceIte, Nat.reduceAdd, Nat.reduceEqDiff]
  refine WC_countP (P := fun i => layF (wrK D J.at' (secK J.ep J.recs.length m b) i) J.at' (secK J.ep J.recs.length m b) i (m - i) = layF D J.at' (secK J.ep J.recs.length m b) 0 m)
    (fun i => ⟨f___journal_Journal__lay_H0 (.ptr (.o p) 9 0) a (.v (.int .i64 (m : Nat))) (.v (.int .i64 (m : Nat))) (.v (.int .i64 (i : Nat))), ⟨dj G P q p (wrK D J.at' (secK J.ep J.recs.length m b) i) B (jC .o P.p q J), [none]⟩⟩) m ?_ rfl (fun i hi hP => ?_) (fun hP => ?_)
  · exact clear_fre (by simp only [clear_nil, List.foldl_cons, List.foldl_nil, Option.some.injEq, LS, reduceCtorEq, reduceIte, Nat.reduceAdd] <;> rfl) (by rfl) (by simp only [f___journal_Journal__lay_H0, List.all_cons, List.all_nil, noRef_v, noRef_dead, noRef_own, noRef_ptr, noRef_nil, Bool.and_true, Bool.true_and, Bool.and_self, List.contains_cons, List.contains_nil, Bool.or_false, Nat.reduceBEq, Bool.not_false, na, np]) (by rfl)
  · have hlt : (i : Int) < (m : Int) := by omega
    have zi := wrK_siz (at' := J.at') (s := secK J.ep J.recs.length m b) z i
    have hnx : wrK D J.at' (secK J.ep J.recs.length m b) (i + 1) = (wrK D J.at' (secK J.ep J.recs.length m b) i).write (J.at' i) (secK J.ep J.recs.length m b i) := rfl
    rw [hnx]
    generalize wrK D J.at' (secK J.ep J.recs.length m b) i = E at *
    obtain ⟨k, hk⟩ : ∃ k, m - i = k + 1 := ⟨m - i - 1, by omega⟩
    rw [hk] at hP
    have hP' : (if writeE E (J.at' i) = 0 then layF (E.write (J.at' i) (secK J.ep J.recs.length m b i)) J.at' (secK J.ep J.recs.length m b) (i + 1) k else (writeE E (J.at' i), E.write (J.at' i) (secK J.ep J.recs.length m b i))) = layF D J.at' (secK J.ep J.recs.length m b) 0 m := hP
    have hi46 : i * 46 ≤ b.length := by unfold needN at hm; omega
    have cutle : i * 46 ≤ min ((i + 1) * 46) b.length := by omega
    obtain ⟨sv, su, sc⟩ := A.sub cutle (Nat.min_le_right _ _)
    rw [pc_cut] at sv
    have e1 : (i : Int) * 46 = ((i * 46 : Nat) : Int) := by omega
    have e2 : (i : Int) + 1 = ((i + 1 : Nat) : Int) := by omega
    have e3 : ((i + 1 : Nat) : Int) * 46 = (((i + 1) * 46 : Nat) : Int) := by omega
    have sl : ∀ L, prim ⟨dj G P q p E B (jC .o P.p q J), L⟩ (.slice 1 true true false) [a, .v (.int .i64 ((i * 46 : Nat) : Int)), .v (.int .i64 ((min ((i + 1) * 46) b.length : Nat) : Int))] = some (AM.sub a 1 (i * 46) (min ((i + 1) * 46) b.length), ⟨dj G P q p E B (jC .o P.p q J), L⟩) := fun L => (A.vv L).slice cutle (Nat.min_le_right _ _)
    simp (disch := first | (simp only [DS, reduceCtorEq]; done) | omega) only [f___journal_Journal__lay_L0, f___journal_Journal__lay_H0, WS, St.guard, St.put, evalO, reduceCtorEq, reduceIte, Nat.reduceAdd, Nat.reduceEqDiff, hlt, decide_true, vBin_mul_i64, vBin_add_i64, e1, e2, e3, (A.vv _).lenSlice, min_nat, sl]
    have gw : ∀ {D B cs} {X : Txt}, Good ⟨dj G P q p D B cs, [some (dBlk (X.map byteAV) false false)]⟩ := fun {D B cs X} => gd (by intro B hB b e; subst e; simp at hB; subst hB; rfl)
    refine WDP_er (by exact gd d1) rfl ?_
    refine ⟨_, _, l3 _ _, rfl, .inr ⟨rfl, gd d1⟩, ?_⟩
    simp (disch := first | (simp only [DS, reduceCtorEq]; done) | omega) only [WS, St.guard, St.put, evalO, reduceCtorEq, reduceIte, Nat.reduceAdd, Nat.reduceEqDiff, WDX_some, reduceIte, if_true, if_false, Bool.and_true, Bool.true_and, true_and, Bool.false_eq_true, false_or, true_or, Hp.over, AM.over, over_nil, List.foldl_cons, List.foldl_nil, List.set_cons_zero, List.set_cons_succ, List.getElem?_cons_zero, List.getElem?_cons_succ, Option.join_some, List.length_cons, List.length_nil, Prim.sites, List.cons_append, List.nil_append]
    refine WDP_er (by exact gd d1) rfl ?_
    refine ⟨_, _, l6 _ _, rfl, .inr ⟨rfl, gd d1⟩, ?_⟩
    have em : (m : Int) - 1 = ((m - 1 : Nat) : Int) := by omega
    have eq0 : ((i : Int) == 0) = decide (i = 0) := by
      by_cases h : i = 0
      · subst h; rfl
      · rw [decide_eq_false h, beq_eq_false_iff_ne]; omega
    have eqm : ((i : Int) == ((m - 1 : Nat) : Int)) = decide (i = m - 1) := by
      by_cases h : i = m - 1
      · rw [decide_eq_true h, beq_iff_eq]; omega
      · rw [decide_eq_false h, beq_eq_false_iff_ne]; omega
    obtain ⟨x, hx⟩ : ∃ x, x = leafK J.ep J.recs.length m b i := ⟨_, rfl⟩
    obtain ⟨c, hc⟩ : ∃ c, c = AM.sub a 1 (i * 46) (min ((i + 1) * 46) b.length) := ⟨_, rfl⟩
    rw [← hc] at sv su sc
    have bd : ∀ h : Hp, prim h (.build [.int .u32 0, .int .u32 0, .bool false, .bool false, .slice none 0 0] [(0, 1), (1, 1), (2, 1), (3, 1), (4, 1)]) [.v (u32 J.ep), .v (u32 (BitVec.ofNat 32 J.recs.length)), .v (.bool (decide (i = 0))), .v (.bool (decide (i = m - 1))), c] = some (.agg (x.cells c), h) := fun h => by
      rw [px_build, hx]
      simp only [fills, sc]
      rfl
    simp (disch := first | (simp only [DS, reduceCtorEq]; done) | omega) only [WS, St.guard, St.put, evalO, reduceCtorEq, reduceIte, Nat.reduceAdd, Nat.reduceEqDiff, WDX_some, reduceIte, if_true, if_false, Bool.and_true, Bool.true_and, true_and, Bool.false_eq_true, false_or, true_or, Hp.over, AM.over, over_nil, List.foldl_cons, List.foldl_nil, List.set_cons_zero, List.set_cons_succ, List.getElem?_cons_zero, List.getElem?_cons_succ, Option.join_some, List.length_cons, List.length_nil, Prim.sites, List.cons_append, List.nil_append, ls, wrap_num, vBin_sub_i64, em, eq0, eqm]
    rw [← hc]
    simp (disch := first | (simp only [DS, reduceCtorEq]; done) | omega) only [WS, St.guard, St.put, evalO, reduceCtorEq, reduceIte, Nat.reduceAdd, Nat.reduceEqDiff, bd]
    have hr : x.right = true := by rw [hx, hm]; exact leafK_right he hb (by omega)
    obtain ⟨w, hw⟩ : ∃ w : Sec, w = secK J.ep J.recs.length m b i := ⟨_, rfl⟩
    have ew : x.bytes = w.1 := by rw [hw, secK_bytes, hx]
    have hlaid : x.laid = .tup [.agg (w.1.map byteAV), .v (.int .i64 0)] := by unfold LeafD.laid; rw [if_pos hr, ew]
    have hxd : x.d = pc b i := by rw [hx]; rfl
    have xr : ∀ g, (AV.agg (x.cells c)).ren (up g) = .agg (x.cells c) := fun g => by
      show AV.agg (AV.ren.rens (up g) (x.cells c)) = _
      unfold LeafD.cells
      simp only [AV.ren.rens, su]; rfl
    refine WDP_pureU (r := .tup [.agg (w.1.map byteAV), .v (.int .i64 0)]) (fun L hg => ?_) (by exact gd d1) ?_
    · refine op_turn _ ?_ (by simp [AV.lf, AV.lf.lfs, bytes_lfs]) rfl rfl hg hg
      rw [List.map_cons, List.map_nil, xr, ← hlaid]
      exact Lay_spec H.toLeafLib (x := x) (fun L' => by rw [hxd]; exact sv _ _ _ _ _)
    have al : prim ⟨dj G P q p E B (jC .o P.p q J), [none]⟩ (.alloc 0 zeros64 []) [] = some (.ptr (.l 0) 64 0, ⟨dj G P q p E B (jC .o P.p q J), [some (dBlk (zs64.map byteAV) false false)]⟩) := alloc_zeros rfl
    simp (disch := first | (simp only [DS, reduceCtorEq]; done) | omega) only [WS, St.guard, St.put, evalO, reduceCtorEq, reduceIte, Nat.reduceAdd, Nat.reduceEqDiff]
    refine WDP_of (.prim al) (by exact gd d1) (by exact gw) rfl rfl ?_
    simp (disch := first | (simp only [DS, reduceCtorEq]; done) | omega) only [WS, St.guard, St.put, evalO, reduceCtorEq, reduceIte, Nat.reduceAdd, Nat.reduceEqDiff]
    have st : prim ⟨dj G P q p E B (jC .o P.p q J), [some (dBlk (zs64.map byteAV) false false)]⟩ (.store 64 false) [.ptr (.l 0) 64 0, .agg (w.1.map byteAV)] = some (.v undef, ⟨dj G P q p E B (jC .o P.p q J), [some (dBlk (w.1.map byteAV) false false)]⟩) :=
      store_all (j := 0) (cells := zs64.map byteAV) (o := false) (v := false) rfl (by simp [zs64_len]) (by rw [List.length_map]; exact w.2) bytes_lfs
    refine WDP_of (.prim st) (by exact gw) (by exact gw) rfl rfl ?_
    simp (disch := first | (simp only [DS, reduceCtorEq]; done) | omega) only [WS, St.guard, St.put, evalO, reduceCtorEq, reduceIte, Nat.reduceAdd, Nat.reduceEqDiff, List.set_cons_zero, Int.reduceBNe, l0, l1, l7, vBin_add_i64]
    have eat : (J.frm : Int) + (J.used : Int) + (i : Int) = J.at' i := by unfold JD.at'; omega
    rw [← hw] at hP' ⊢
    have ld := fun G => load_sec (G := G) (L := [some (dBlk (w.1.map byteAV) false false)]) (j := 0) (bs := w.1) (o := false) (v := false) rfl w.2
    simp (disch := first | (simp only [DS, reduceCtorEq]; done) | omega) only [WS, St.guard, St.put, evalO, reduceCtorEq, reduceIte, Nat.reduceAdd, Nat.reduceEqDiff, ld, eat]
    have hx3 : ∀ g, [AV.ptr (.o P.p) 5 0, .v (.int .i64 (J.at' i)), .agg (w.1.map byteAV)].map (AV.ren (up g)) = [AV.ptr (.o P.p) 5 0, .v (.int .i64 (J.at' i)), .agg (w.1.map byteAV)] := fun g => by
      simp only [List.map_cons, List.map_nil, ren_sec]; rfl
    refine WDP_callU (fun L hg => opDj h (D' := E.write (J.at' i) w) rfl hx3 (fun G' hG' => Write_spec HD (by rw [zi.b]; exact hG') (by rw [zi.l, zi.b]) zi.armed) (by exact hg)) (by exact gw) ?_
    simp (disch := first | (simp only [DS, reduceCtorEq]; done) | omega) only [WS, St.guard, St.put, evalO, reduceCtorEq, reduceIte, Nat.reduceAdd, Nat.reduceEqDiff]
    by_cases hw0 : writeE E (J.at' i) = 0
    · have hb0 : (writeE E (J.at' i) != 0) = false := by rw [hw0]; rfl
      rw [if_pos hw0] at hP'
      simp (disch := first | (simp only [DS, reduceCtorEq]; done) | omega) only [WS, St.guard, St.put, evalO, reduceCtorEq, reduceIte, Nat.reduceAdd, Nat.reduceEqDiff, hb0, vBin_add_i64, e2]
      refine ⟨?_, ?_⟩
      · exact clear_fre (by simp only [clear_nil, List.foldl_cons, List.foldl_nil, Option.some.injEq, LS, reduceCtorEq, reduceIte, Nat.reduceAdd] <;> rfl) (by rfl) (by simp only [f___journal_Journal__lay_H0, List.all_cons, List.all_nil, noRef_v, noRef_dead, noRef_own, noRef_ptr, noRef_nil, Bool.and_true, Bool.true_and, Bool.and_self, List.contains_cons, List.contains_nil, Bool.or_false, Nat.reduceBEq, Bool.not_false, na, np]) (by rfl)
      · rw [show m - (i + 1) = k by omega]
        exact hP'
    · have hb0 : (writeE E (J.at' i) != 0) = true := by rw [bne_iff_ne]; exact hw0
      rw [if_neg hw0] at hP'
      rw [← hP']
      simp (disch := first | (simp only [DS, reduceCtorEq]; done) | omega) only [WS, St.guard, St.put, evalO, reduceCtorEq, reduceIte, Nat.reduceAdd, Nat.reduceEqDiff, hb0, fin_tmp, leave_v]
      simp
  · have hP' : layF (wrK D J.at' (secK J.ep J.recs.length m b) m) J.at' (secK J.ep J.recs.length m b) m 0 = layF D J.at' (secK J.ep J.recs.length m b) 0 m := by rw [← hP, Nat.sub_self]
    rw [← hP']
    have zi := wrK_siz (at' := J.at') (s := secK J.ep J.recs.length m b) z m
    generalize wrK D J.at' (secK J.ep J.recs.length m b) m = E at *
    show WC prog _ _ _ _
    simp (disch := first | (simp only [DS, reduceCtorEq]; done) | omega) only [f___journal_Journal__lay_L0, f___journal_Journal__lay_H0, WS, St.guard, St.put, evalO, reduceCtorEq, reduceIte, Nat.reduceAdd, Nat.reduceEqDiff, Int.lt_irrefl, decide_false, l0]
    refine WP_of (opDj h (D' := E.sync) rfl (fun g => rfl) (fun G' hG' => Sync_spec HD (by rw [zi.b]; exact hG') (by rw [zi.l, zi.b]) (by rw [zi.a, zi.b]) zi.armed (by rw [zi.b]; exact hN)) (by exact gd d1)) ?_
    simp (disch := first | (simp only [DS, reduceCtorEq]; done) | omega) only [WS, St.guard, St.put, evalO, reduceCtorEq, reduceIte, Nat.reduceAdd, Nat.reduceEqDiff, fin_tmp, leave_v, layF]
    simp
end Go.AM
namespace Go.AM
variable {prog : String → Option IFn}
variable {G L : List (Option Blk)} {P : DPos} {D : DskD} {n q p : Nat} {B : Option Blk} {cs : List AV} {J : JD}
def JD.add (J : JD) (D : DskD) (b : Txt) : Int × DskD × JD :=
  if J.dead ∨ D.off then (9, D, { J with dead := true })
  else if b.length < 1 ∨ b.length > 400000 then (2, D, J)
  else if (needN b.length : Int) > (J.n : Int) - J.used then (6, D, J)
  else if (J.lay D b).1 = 0 then (0, (J.lay D b).2, J.note b (needN b.length)) else ((J.lay D b).1, (J.lay D b).2, { J with dead := true })
theorem dj_stdead (h : OOk G.length P q p n) {J' : JD} {x : Bool} : prim ⟨dj G P q p D B (jC .o P.p q J'), L⟩ (.store 1 false) [.ptr (.o p) 9 8, .v (.bool x)] = some (.v undef, ⟨dj G P q p D B (jC .o P.p q { J' with dead := x }), L⟩) := dj_st h (i := 8) rfl (by omega) rfl
theorem opJ0 {f xs} {r : AV} {D' : DskD} {B' : Option Blk} {cs' : List AV} (hr : r.lf = true) (hx : ∀ g, xs.map (AV.ren (up g)) = xs)
    (he : Ev prog (.call f xs (dj G P q p D B cs)) (.ret r (dj G P q p D' B' cs'))) : Ev prog (.op (.call f []) xs ⟨dj G P q p D B cs, []⟩) (.val r ⟨dj G P q p D' B' cs', []⟩) := by
  refine op_turn ⟨dj G P q p D' B' cs', []⟩ ?_ hr (by simp only [dj_len]) rfl trivial trivial
  rw [hx, into_nil, into_nil]
  exact he
set_option maxHeartbeats 1000000 in
theorem Add_spec (H : JourLib prog) (h : OOk G.length P q p n) (z : Siz D n) (hN : n ≤ 20000) {a : AV} {b : Txt} (A : Arg G P q p a b) (he : J.ep ≠ 0#32) (hf : J.frm + J.n ≤ 20000) (hu : J.used ≤ J.n) (hr : J.recs.length ≤ J.used) (hbl : b.length < 2 ^ 62) :
    Ev prog (.call "(*haberdash/journal.Journal).Add" [.ptr (.o p) 9 0, a] (dj G P q p D (recB J.recs) (jC .o P.p q J))) (.ret (.v (.int .i64 (J.add D b).1)) (dj G P q p (J.add D b).2.1 (recB (J.add D b).2.2.recs) (jC .o P.p q (J.add D b).2.2))) := by
  refine call_of_fin H.jadd ?_
  have HD := H.toDiskLib
  have hroom : room = 140737488355328 := rfl
  simp only [f___journal_Journal__Add_B, enter, List.length_cons, List.length_nil, List.replicate, Nat.reduceAdd, Nat.reduceSub, List.cons_append, List.nil_append]
  have l0 : ∀ (D : DskD) L, prim ⟨dj G P q p D (recB J.recs) (jC .o P.p q J), L⟩ (.load 1 false) [.ptr (.o p) 9 0] = some (.ptr (.o P.p) 5 0, ⟨dj G P q p D (recB J.recs) (jC .o P.p q J), L⟩) := fun D L => dj_ld h (i := 0) rfl rfl
  have l2 : ∀ (D : DskD) L, prim ⟨dj G P q p D (recB J.recs) (jC .o P.p q J), L⟩ (.load 1 false) [.ptr (.o p) 9 2] = some (.v (.int .i64 (J.n : Nat)), ⟨dj G P q p D (recB J.recs) (jC .o P.p q J), L⟩) := fun D L => dj_ld h (i := 2) rfl rfl
  have l7 : ∀ (D : DskD) L, prim ⟨dj G P q p D (recB J.recs) (jC .o P.p q J), L⟩ (.load 1 false) [.ptr (.o p) 9 7] = some (.v (.int .i64 (J.used : Nat)), ⟨dj G P q p D (recB J.recs) (jC .o P.p q J), L⟩) := fun D L => dj_ld h (i := 7) rfl rfl
  have l8 : ∀ (D : DskD) L, prim ⟨dj G P q p D (recB J.recs) (jC .o P.p q J), L⟩ (.load 1 false) [.ptr (.o p) 9 8] = some (.v (.bool J.dead), ⟨dj G P q p D (recB J.recs) (jC .o P.p q J), L⟩) := fun D L => dj_ld h (i := 8) rfl rfl
  have d0 : Dat ([] : List (Option Blk)) := by intro B hB; cases hB
  have gd : ∀ {D B cs}, Good ⟨dj G P q p D B cs, []⟩ := goodX d0
  have hx : ∀ g, [AV.ptr (.o p) 9 0, a].map (AV.ren (up g)) = [.ptr (.o p) 9 0, a] := fun g => by simp only [List.map_cons, List.map_nil, A.up]; rfl
  by_cases c1 : J.dead ∨ D.off
  · have ea : J.add D b = (9, D, { J with dead := true }) := by unfold JD.add; rw [if_pos c1]
    rw [ea]
    cases hd : J.dead
    · have ho : D.off = true := by rcases c1 with h | h; rw [hd] at h; cases h; exact h
      simp (disch := first | (simp only [DS, reduceCtorEq]; done) | omega) only [WS, St.guard, St.put, evalO, reduceCtorEq, reduceIte, Nat.reduceAdd, Nat.reduceEqDiff, isNilV, Hp.isNil, l8, hd, l0]
      refine WP_of (opDj h (D' := D) rfl (fun g => rfl) (fun G' hG' => Down_spec HD hG') (by exact gd)) ?_
      rw [ho]
      simp (disch := first | (simp only [DS, reduceCtorEq]; done) | omega) only [WS, St.guard, St.put, evalO, reduceCtorEq, reduceIte, Nat.reduceAdd, Nat.reduceEqDiff, dj_stdead h, fin_tmp, leave_v]
      simp
    · simp (disch := first | (simp only [DS, reduceCtorEq]; done) | omega) only [WS, St.guard, St.put, evalO, reduceCtorEq, reduceIte, Nat.reduceAdd, Nat.reduceEqDiff, isNilV, Hp.isNil, l8, hd, dj_stdead h, fin_tmp, leave_v]
      simp
  · have hd : J.dead = false := by cases h : J.dead; rfl; exact absurd (.inl h) c1
    have ho : D.off = false := by cases h : D.off; rfl; exact absurd (.inr h) c1
    simp (disch := first | (simp only [DS, reduceCtorEq]; done) | omega) only [WS, St.guard, St.put, evalO, reduceCtorEq, reduceIte, Nat.reduceAdd, Nat.reduceEqDiff, isNilV, Hp.isNil, l8, hd, l0]
    refine WP_of (opDj h (D' := D) rfl (fun g => rfl) (fun G' hG' => Down_spec HD hG') (by exact gd)) ?_
    rw [ho]
    simp (disch := first | (simp only [DS, reduceCtorEq]; done) | omega) only [WS, St.guard, St.put, evalO, reduceCtorEq, reduceIte, Nat.reduceAdd, Nat.reduceEqDiff, (A.vv _).lenSlice]
    by_cases c2 : b.length < 1 ∨ b.length > 400000
    · have ea : J.add D b = (2, D, J) := by unfold JD.add; rw [if_neg c1, if_pos c2]
      rw [ea]
      by_cases q1 : b.length < 1
      · have q1' : (b.length : Int) < 1 := by omega
        simp (disch := first | (simp only [DS, reduceCtorEq]; done) | omega) only [WS, St.guard, St.put, evalO, reduceCtorEq, reduceIte, Nat.reduceAdd, Nat.reduceEqDiff, q1', decide_true, fin_tmp, leave_v]
        simp
      · have q1' : ¬ (b.length : Int) < 1 := by omega
        have q2' : (b.length : Int) > 400000 := by omega
        simp (disch := first | (simp only [DS, reduceCtorEq]; done) | omega) only [WS, St.guard, St.put, evalO, reduceCtorEq, reduceIte, Nat.reduceAdd, Nat.reduceEqDiff, q1', q2', decide_true, decide_false, (A.vv _).lenSlice, fin_tmp, leave_v]
        simp
    · have q1' : ¬ (b.length : Int) < 1 := by omega
      have q2' : ¬ (b.length : Int) > 400000 := by omega
      simp (disch := first | (simp only [DS, reduceCtorEq]; done) | omega) only [WS, St.guard, St.put, evalO, reduceCtorEq, reduceIte, Nat.reduceAdd, Nat.reduceEqDiff, q1', q2', decide_false, (A.vv _).lenSlice]
      refine WDP_pureU (r := .v (.int .i64 (needN b.length : Nat))) (fun L hg => op_turn _ (by exact Need_spec H hbl) rfl rfl rfl hg hg) (by exact gd) ?_
      simp (disch := first | (simp only [DS, reduceCtorEq]; done) | omega) only [WS, St.guard, St.put, evalO, reduceCtorEq, reduceIte, Nat.reduceAdd, Nat.reduceEqDiff, l2, l7, vBin_sub_i64]
      by_cases c3 : (needN b.length : Int) > (J.n : Int) - J.used
      · have ea : J.add D b = (6, D, J) := by unfold JD.add; rw [if_neg c1, if_neg c2, if_pos c3]
        rw [ea]
        simp (disch := first | (simp only [DS, reduceCtorEq]; done) | omega) only [WS, St.guard, St.put, evalO, reduceCtorEq, reduceIte, Nat.reduceAdd, Nat.reduceEqDiff, c3, decide_true, fin_tmp, leave_v]
        simp
      · have ea : J.add D b = if (J.lay D b).1 = 0 then (0, (J.lay D b).2, J.note b (needN b.length)) else ((J.lay D b).1, (J.lay D b).2, { J with dead := true }) := by unfold JD.add; rw [if_neg c1, if_neg c2, if_neg c3]
        have hb : b ≠ [] := by intro h; subst h; simp at c2
        rw [ea]
        simp (disch := first | (simp only [DS, reduceCtorEq]; done) | omega) only [WS, St.guard, St.put, evalO, reduceCtorEq, reduceIte, Nat.reduceAdd, Nat.reduceEqDiff, c3, decide_false]
        refine WP_of (opJ0 (D' := (J.lay D b).2) (B' := recB J.recs) (cs' := jC .o P.p q J) rfl hx (by exact lay_spec H h z hN A hb (by omega) he (by omega))) ?_
        simp (disch := first | (simp only [DS, reduceCtorEq]; done) | omega) only [WS, St.guard, St.put, evalO, reduceCtorEq, reduceIte, Nat.reduceAdd, Nat.reduceEqDiff]
        by_cases c4 : (J.lay D b).1 = 0
        · have hb0 : ((J.lay D b).1 != 0) = false := by rw [c4]; rfl
          rw [if_pos c4]
          simp (disch := first | (simp only [DS, reduceCtorEq]; done) | omega) only [WS, St.guard, St.put, evalO, reduceCtorEq, reduceIte, Nat.reduceAdd, Nat.reduceEqDiff, hb0, (A.vv _).lenSlice]
          refine (WP_p (x := .int .i64 (needN b.length : Nat)) (by rw [into_nil]; exact Need_spec H hbl) (by exact gd)).2 ?_
          simp (disch := first | (simp only [DS, reduceCtorEq]; done) | omega) only [WS, St.guard, St.put, evalO, reduceCtorEq, reduceIte, Nat.reduceAdd, Nat.reduceEqDiff]
          have hx3 : ∀ g, [AV.ptr (.o p) 9 0, a, .v (.int .i64 (needN b.length : Nat))].map (AV.ren (up g)) = [.ptr (.o p) 9 0, a, .v (.int .i64 (needN b.length : Nat))] := fun g => by simp only [List.map_cons, List.map_nil, A.up]; rfl
          refine WP_of (opJ0 (D' := (J.lay D b).2) (B' := recB (J.note b (needN b.length)).recs) (cs' := jC .o P.p q (J.note b (needN b.length))) rfl hx3 (by exact note_spec H h A hb (by omega) (by omega) (by omega))) ?_
          simp (disch := first | (simp only [DS, reduceCtorEq]; done) | omega) only [WS, St.guard, St.put, evalO, reduceCtorEq, reduceIte, Nat.reduceAdd, Nat.reduceEqDiff, fin_tmp, leave_v]
          simp
        · have hb0 : ((J.lay D b).1 != 0) = true := by rw [bne_iff_ne]; exact c4
          rw [if_neg c4]
          simp (disch := first | (simp only [DS, reduceCtorEq]; done) | omega) only [WS, St.guard, St.put, evalO, reduceCtorEq, reduceIte, Nat.reduceAdd, Nat.reduceEqDiff, hb0, dj_stdead h, fin_tmp, leave_v]
          simp
end Go.AM
namespace Go.AM
variable {prog : String → Option IFn}
variable {G L : List (Option Blk)} {P : DPos} {D : DskD} {n q p : Nat} {B : Option Blk} {cs : List AV} {J : JD}
theorem leave_obj {G : List (Option Blk)} {A : Blk} (hA : A.labs = []) {cs : List AV} {m : Nat} {cs' : List AV} (C : AV → AV) (hC : ∀ ρ a, (C a).ren ρ = C (a.ren ρ)) (hCl : ∀ a, (C a).labs = a.labs)
    {X : List (Option Blk)} (hL : ∀ ℓ ∈ AV.labs.labss cs, ℓ = .l 0 ∨ ∃ r, ℓ = .o r ∧ r < G.length) (h0 : AV.labs.labss cs = [.o m, .l 0]) (hm : m < G.length) (hr : AV.ren.rens (keepMap G.length [0, 1]) cs = cs') (hl' : AV.labs.labss cs' = [.o m, .o G.length]) :
    (⟨G, some A :: some (sBlk cs false) :: X⟩ : Hp).leave (C (.ptr (.l 1) cs.length 0)) = some (C (.ptr (.o (G.length + 1)) cs.length 0), G ++ [some A, some (sBlk cs' false)]) := by
  have hs : (sBlk cs false).labs = [.o m, .l 0] := h0
  have hcol : collect (⟨G, some A :: some (sBlk cs false) :: X⟩ : Hp) 40 [.l 1] [] = [1, 0] := by
    simp [collect, Hp.get, hs, hA]
  have rA : ∀ ρ, A.ren ρ = A := fun ρ => blk_ren_id fun ℓ hℓ => by rw [hA] at hℓ; cases hℓ
  have rs : (sBlk cs false).ren (keepMap G.length [0, 1]) = sBlk cs' false := by
    simp only [Blk.ren, sBlk, Bool.false_eq_true, if_false, hr]
  unfold Hp.leave
  simp only [hCl, AV.labs, hcol, List.reverse_cons, List.reverse_nil, List.nil_append, List.cons_append, List.map_cons, List.map_nil, List.getElem?_cons_zero, List.getElem?_cons_succ, Option.join_some, Option.map_some, rA, rs, hC]
  rw [if_pos]
  · rfl
  · refine ⟨?_, by decide⟩
    have hl2 : (sBlk cs' false).labs = [.o m, .o G.length] := hl'
    simp only [outBlks, hA, hl2, List.all_nil, List.all_cons, Bool.and_true, Bool.true_and, labLt]
    simp
    omega
def newJ (frm nn : Nat) (ep : BitVec 32) : JD := ⟨frm, nn, ep, 0#32, 0#32, [], 0, false⟩
def newE (D : DskD) (frm nn : Int) (ep : BitVec 32) : Int := if frm < 0 ∨ nn < 1 ∨ nn > (D.b.length : Int) - frm ∨ ep = 0#32 then 2 else if D.off then 9 else 0
theorem u32_eq0 {e : BitVec 32} : vBin .eql (u32 e) (.int .u32 0) = some (.bool (decide (e = 0#32))) := by
  have : vBin .eql (u32 e) (.int .u32 0) = vBin .eql (u32 e) (u32 0#32) := rfl
  rw [this, vBin_eql_u32]
  congr 2
def newJO (g pd : Nat) (J : JD) : List (Option Blk) := [recB J.recs, some (sBlk (jC .o pd g J) false)]
theorem newJ_ok (H : JourLib prog) {frm nn : Nat} {ep : BitVec 32} (h : P.Ok G.length n) (hl : D.b.length ≤ 20000) (hE : newE D frm nn ep = 0) :
    Ev prog (.call "haberdash/journal.New" [.ptr (.o P.p) 5 0, .v (.int .i64 (frm : Nat)), .v (.int .i64 (nn : Nat)), .v (u32 ep)] (dset G P D)) (.ret (.tup [.ptr (.o (G.length + 1)) 9 0, .v (.int .i64 0)]) (dset G P D ++ newJO G.length P.p (newJ frm nn ep))) := by
  refine call_of_fin H.jnew ?_
  have HD := H.toDiskLib
  simp only [f_journal_New_B, enter, List.length_cons, List.length_nil, List.replicate, Nat.reduceAdd, Nat.reduceSub, List.cons_append, List.nil_append]
  have d2 : Dat [(none : Option Blk), none] := by intro B hB b e; subst e; simp at hB
  have gd : Good ⟨dset G P D, [none, none]⟩ := goodX d2
  have il : ∀ X : List (Option Blk), Dat X → (⟨dset G P D, X⟩ : Hp).into = dset (G ++ X) P D := fun X hX => by rw [into_dat hX, dset_app h]
  unfold newE at hE
  by_cases hc : (frm : Int) < 0 ∨ (nn : Int) < 1 ∨ (nn : Int) > (D.b.length : Int) - frm ∨ ep = 0#32
  · rw [if_pos hc] at hE; omega
  rw [if_neg hc] at hE
  simp only [not_or] at hc
  obtain ⟨c1, c2, c3, c4⟩ := hc
  have ho : D.off = false := by cases h : D.off; rfl; rw [h] at hE; simp at hE
  have c4d : decide (ep = 0#32) = false := decide_eq_false c4
  have hp := h.hp
  simp (disch := first | (simp only [DS, reduceCtorEq]; done) | omega) only [WS, St.guard, St.put, evalO, reduceCtorEq, reduceIte, Nat.reduceAdd, Nat.reduceEqDiff, isNilV, Hp.isNil, c1, c2, decide_false]
  refine (WP_p (x := .int .i64 (D.b.length : Nat)) (by rw [il _ d2]; exact Len_spec HD h.app) (by exact gd)).2 ?_
  simp (disch := first | (simp only [DS, reduceCtorEq]; done) | omega) only [WS, St.guard, St.put, evalO, reduceCtorEq, reduceIte, Nat.reduceAdd, Nat.reduceEqDiff, vBin_sub_i64, c3, decide_false, u32_eq0, c4d]
  refine (WP_p (x := .bool D.off) (by rw [il _ d2]; exact Down_spec HD h.app) (by exact gd)).2 ?_
  rw [ho]
  have bd : ∀ h : Hp, prim h (.build [.pointer none, .int .i64 0, .int .i64 0, .int .u32 0, .int .u32 0, .int .u32 0, .slice none 0 0, .int .i64 0, .bool false] [(0, 1), (1, 1), (2, 1), (3, 1)]) [.ptr (.o P.p) 5 0, .v (.int .i64 (frm : Nat)), .v (.int .i64 (nn : Nat)), .v (u32 ep)] =
    some (.agg [.ptr (.o P.p) 5 0, .v (.int .i64 (frm : Nat)), .v (.int .i64 (nn : Nat)), .v (u32 ep), .v (.int .u32 0), .v (.int .u32 0), .v (.slice none 0 0), .v (.int .i64 0), .v (.bool false)], h) := fun h => rfl
  have bk : ∀ G, prim ⟨G, [none, none]⟩ (.boxK 1 [(6, 0, 1)]) [.agg [.ptr (.o P.p) 5 0, .v (.int .i64 (frm : Nat)), .v (.int .i64 (nn : Nat)), .v (u32 ep), .v (.int .u32 0), .v (.int .u32 0), .v (.slice none 0 0), .v (.int .i64 0), .v (.bool false)]] =
    some (.ptr (.l 1) 9 0, ⟨G, [recB [], some (sBlk (jC (fun k => if k = 0 then .l 0 else .o (k - 1)) (P.p + 1) 0 (newJ frm nn ep)) false)]⟩) := fun G => rfl
  simp (disch := first | (simp only [DS, reduceCtorEq]; done) | omega) only [WS, St.guard, St.put, evalO, reduceCtorEq, reduceIte, Nat.reduceAdd, Nat.reduceEqDiff, bd, bk, fin_tmp2]
  refine ⟨by simp, ?_⟩
  have hlen := dset_len (G := G) (P := P) (D := D)
  have := leave_obj (G := dset G P D) (A := dBlk (recE.row []) true true) rfl (cs := jC (fun k => if k = 0 then .l 0 else .o (k - 1)) (P.p + 1) 0 (newJ frm nn ep)) (m := P.p) (cs' := jC .o P.p (dset G P D).length (newJ frm nn ep)) (X := [])
    (fun a => .tup [a, .v (.int .i64 0)]) (fun ρ a => rfl) (fun a => by simp [AV.labs, AV.labs.labss]) (fun ℓ hℓ => by
      simp only [jC, AV.labs.labss, AV.labs] at hℓ
      simp at hℓ
      rcases hℓ with rfl | rfl
      · exact .inr ⟨_, rfl, by omega⟩
      · exact .inl rfl) rfl (by omega) rfl rfl
  refine this.trans ?_
  rw [hlen]
  rfl
end Go.AM
namespace Go.AM
variable {prog : String → Option IFn}
variable {G L : List (Option Blk)} {P : DPos} {D : DskD} {n q p : Nat} {B : Option Blk} {cs : List AV} {J : JD}
def DPos.sh (g : Nat) (P : DPos) : DPos := ⟨g + P.q0, g + P.q1, g + P.q2, g + P.p, P.c0, P.c1, P.c2, P.o0, P.o1, P.o2⟩
theorem into_lsetG {D : DskD} : (⟨G, lset L P D⟩ : Hp).into = dset (⟨G, L⟩ : Hp).into (P.sh G.length) D := by
  have e : (dobj .l P D).map (Blk.ren (up G.length)) = dobj .o (P.sh G.length) D := by
    simp only [dobj, dobjC, dav0, dav1, dav2, Option.map_some, Blk.ren, sBlk, Bool.false_eq_true, if_false, AV.ren.rens, AV.ren, up, DPos.sh]
  simp only [Hp.into, lset, List.map_set, e, dset, DPos.sh]
  have s : ∀ (M : List (Option Blk)) (k : Nat) (x : Option Blk), (G ++ M).set (G.length + k) x = G ++ M.set k x := fun M k x => by rw [List.set_append_right _ _ (by omega)]; simp
  rw [s, s, s, s]
  rfl
def lj (L : List (Option Blk)) (P : DPos) (q p : Nat) (D : DskD) (B : Option Blk) (cs : List AV) : List (Option Blk) := ((lset L P D).set q B).set p (some (sBlk cs false))
theorem into_lj (hB : ∀ b, B = some b → b.data = true) : (⟨G, lj L P q p D B cs⟩ : Hp).into = dj (⟨G, L⟩ : Hp).into (P.sh G.length) (G.length + q) (G.length + p) D B (AV.ren.rens (up G.length) cs) := by
  have s : ∀ (M : List (Option Blk)) (k : Nat) (x : Option Blk), (G ++ M).set (G.length + k) x = G ++ M.set k x := fun M k x => by rw [List.set_append_right _ _ (by omega)]; simp
  have eB : B.map (Blk.ren (up G.length)) = B := by
    cases B with
    | none => rfl
    | some b => simp only [Option.map_some, Blk.ren, hB b rfl, if_true]
  have e2 : (some (sBlk cs false)).map (Blk.ren (up G.length)) = some (sBlk (AV.ren.rens (up G.length) cs) false) := by
    simp only [Option.map_some, Blk.ren, sBlk, Bool.false_eq_true, if_false]
  unfold dj oset lj
  rw [← into_lsetG]
  simp only [Hp.into, List.map_set, eB, e2]
  rw [s, s]
theorem recB_data {l : List Txt} : ∀ b, recB l = some b → b.data = true := fun b e => by cases e; rfl
structure LOk (L : List (Option Blk)) (P : DPos) (q p n : Nat) : Prop where
  d : P.Ok L.length n
  qp : q < p
  pg : p < L.length
  pp : P.p < p
  fq : ∀ k ∈ [P.q0, P.q1, P.q2, P.p], k ≠ q
  fp : ∀ k ∈ [P.q0, P.q1, P.q2, P.p], k ≠ p
theorem LOk.into (h : LOk L P q p n) : OOk (⟨G, L⟩ : Hp).into.length (P.sh G.length) (G.length + q) (G.length + p) n := by
  have hl : (⟨G, L⟩ : Hp).into.length = G.length + L.length := into_len
  obtain ⟨⟨a1, a2, a3, a4, a5, a6, a7, a8, a9, a10⟩, b1, b2, b3, b4, b5⟩ := h
  refine ⟨⟨?_, ?_, ?_, ?_, ?_, ?_, ?_, a8, a9, a10⟩, by omega, by omega, ?_, fun k hk => ?_, fun k hk => ?_⟩
  · show G.length + P.q0 < G.length + P.p; omega
  · show G.length + P.q1 < G.length + P.p; omega
  · show G.length + P.q2 < G.length + P.p; omega
  · show G.length + P.p < _; omega
  · show G.length + P.q0 ≠ G.length + P.q1; omega
  · show G.length + P.q0 ≠ G.length + P.q2; omega
  · show G.length + P.q1 ≠ G.length + P.q2; omega
  · show G.length + P.p < G.length + p; omega
  · simp only [DPos.sh, List.mem_cons, List.not_mem_nil, or_false] at hk
    have h0 := b4 P.q0 (by simp); have h1 := b4 P.q1 (by simp); have h2 := b4 P.q2 (by simp); have h3 := b4 P.p (by simp)
    omega
  · simp only [DPos.sh, List.mem_cons, List.not_mem_nil, or_false] at hk
    have h0 := b5 P.q0 (by simp); have h1 := b5 P.q1 (by simp); have h2 := b5 P.q2 (by simp); have h3 := b5 P.p (by simp)
    omega
theorem Good.setB {G L : List (Option Blk)} (hg : Good ⟨G, L⟩) {k : Nat} {b : Blk} (hb : b.labs.all (refLt G.length k) = true) : Good ⟨G, L.set k (some b)⟩ := by
  rw [Good, goodL_iff] at hg ⊢
  intro j B hj
  rw [Nat.zero_add]
  simp only [List.getElem?_set] at hj
  split at hj
  · rename_i e
    subst e
    split at hj
    · cases hj; exact hb
    · cases hj
  · have := hg j B hj; rwa [Nat.zero_add] at this
theorem dat_good {G L : List (Option Blk)} (hL : Dat L) : Good ⟨G, L⟩ := goodX hL
theorem lset_good (hL : Good ⟨G, L⟩) (h : P.Ok L.length n) : Good ⟨G, lset L P D⟩ := by
  have h0 := h.h0; have h1 := h.h1; have h2 := h.h2
  refine Good.setB (Good.setB (Good.setB (Good.setB hL ?_) ?_) ?_) ?_
  · rfl
  · rfl
  · rfl
  · refine sBlk_good ?_
    simp [dobjC, dav0, dav1, dav2, AV.labs.labss, AV.labs, refLt]; omega
theorem lj_good (hL : Good ⟨G, L⟩) (h : LOk L P q p n) (hB : ∀ b, B = some b → b.labs = []) (hc : (AV.labs.labss cs).all (refLt G.length p) = true) (hs : B ≠ none) : Good ⟨G, lj L P q p D B cs⟩ := by
  unfold lj
  cases B with
  | none => exact absurd rfl hs
  | some b =>
    refine Good.setB (Good.setB (lset_good hL h.d) (by rw [hB b rfl]; rfl)) (sBlk_good hc)
theorem jC_labs {f : Nat → Lab} {pd q : Nat} : AV.labs.labss (jC f pd q J) = [f pd, f q] := rfl
theorem jC_up {g pd q : Nat} : AV.ren.rens (up g) (jC .l pd q J) = jC .o (g + pd) (g + q) J := rfl
theorem jG (hL : Good ⟨G, L⟩) (h : LOk L P q p n) : Good ⟨G, lj L P q p D (recB J.recs) (jC .l P.p q J)⟩ := by
  have h1 := h.qp; have h2 := h.pp
  exact lj_good hL h (fun b e => by cases e; rfl) (by rw [jC_labs]; simp [refLt]; omega) (by unfold recB; simp)
theorem op_obj {f xs} {i0 i1 m : Nat} {h : Hp} {Bq : Blk} {cs cs2 : List AV} (R : AV → AV) (hR : ∀ ρ a, (R a).ren ρ = R (a.ren ρ))
    (he : Ev prog (.call f (xs.map (AV.ren (up h.G.length))) h.into) (.ret (R (.ptr (.o (h.into.length + 1)) m 0)) (h.into ++ [some Bq, some (sBlk cs false)])))
    (hd : i0 ≠ i1) (h0 : h.L[i0]? = some none) (h1 : h.L[i1]? = some none) (hg : Good h) (hB : Bq.labs = []) (hc : AV.ren.rens (down h.G.length h.L.length [i0, i1]) cs = cs2) :
    Ev prog (.op (.call f [i0, i1]) xs h) (.val (R (.ptr (.l i1) m 0)) ⟨h.G, (h.L.set i0 (some Bq)).set i1 (some (sBlk cs2 false))⟩) := by
  refine .opCall hg.okBlks he ?_
  have hfr : [i0, i1].all (free h.L) = true := by simp [free_of_get h0, free_of_get h1]
  rw [back_into (h' := h) rfl rfl hg.refsOK (by simp) (by simp [hd]) hfr hfr]
  have d1 : down h.G.length h.L.length [i0, i1] (.o (h.into.length + 1)) = some (.l i1) := down_into 1
  have e3 : (R (.ptr (.o (h.into.length + 1)) m 0)).ren (down h.G.length h.L.length [i0, i1]) = R (.ptr (.l i1) m 0) := by rw [hR]; simp only [AV.ren, d1]
  have eb : Bq.ren (down h.G.length h.L.length [i0, i1]) = Bq := blk_ren_id fun ℓ hℓ => by rw [hB] at hℓ; cases hℓ
  have e2 : (sBlk cs false).ren (down h.G.length h.L.length [i0, i1]) = sBlk cs2 false := by
    simp only [Blk.ren, sBlk, Bool.false_eq_true, if_false, hc]
  have ep : padTo [i0, i1].length [some Bq, some (sBlk cs false)] = [some Bq, some (sBlk cs false)] := rfl
  rw [ep]
  simp only [List.map_cons, List.map_nil, Option.map_some, e3, eb, e2, AM.putAll]
end Go.AM
namespace Go.AM
variable {prog : String → Option IFn}
variable {G L : List (Option Blk)} {P : DPos} {D : DskD} {n q p : Nat} {B : Option Blk} {cs : List AV} {J : JD}
theorem into_at {k : Nat} {b : Blk} (hk : L[k]? = some (some b)) (hb : b.labs = []) : (⟨G, L⟩ : Hp).into[G.length + k]? = some (some b) := by
  rw [into_mk, if_neg (by omega), Nat.add_sub_cancel_left, hk]
  simp only [Option.map_some]
  rw [blk_ren_id fun ℓ hℓ => by rw [hb] at hℓ; cases hℓ]
section
variable (H : JourLib prog) (h : LOk L P q p n) (hL : Good ⟨G, L⟩)
include H h hL
end
def Live (D : DskD) : Prop := D.off = false ∧ D.armed = 0
theorem live_put {i s} (h : Live D) : Live (D.put i s) := h
theorem write_live (h : Live D) {i : Nat} {s : Sec} (hi : i < D.b.length) : writeE D (i : Nat) = 0 ∧ D.write (i : Nat) s = D.put i s := by
  have hm := mayE_on h.1 hi
  have hh : D.hits = false := by unfold DskD.hits; rw [h.2]; rfl
  refine ⟨by unfold writeE; rw [if_pos hm, hh]; rfl, ?_⟩
  unfold DskD.write
  rw [if_pos hm, hit_off (D := D.put _ _) h.2]
  rfl
def DskD.flush (D : DskD) : DskD := { D with a := D.b, l := List.replicate D.l.length false }
theorem sync_live (h : Live D) (h0 : 0 < D.b.length) : writeE D 0 = 0 ∧ D.sync = D.flush ∧ Live D.flush := by
  have hm : mayE D 0 = 0 := mayE_on (at' := 0) h.1 h0
  have hh : D.hits = false := by unfold DskD.hits; rw [h.2]; rfl
  refine ⟨by unfold writeE; rw [if_pos hm, hh]; rfl, ?_, h⟩
  unfold DskD.sync
  rw [if_pos hm, hh, hit_off h.2]
  rfl
theorem flush_siz (z : Siz D n) : Siz D.flush n := ⟨z.b, z.b, by simp [DskD.flush, z.l], z.armed⟩
theorem layF_live {at' : Nat → Int} {s : Nat → Sec} {k0 : Nat} (ha : ∀ j, at' j = ((k0 + j : Nat) : Int)) : ∀ (m i : Nat) {D : DskD}, Live D → Siz D n → 0 < n → k0 + i + m ≤ n →
    (layF D at' s i m).1 = 0 ∧ Live (layF D at' s i m).2 ∧ Siz (layF D at' s i m).2 n
  | 0, i, D, hl, z, h0, _ => by
    obtain ⟨e1, e2, e3⟩ := sync_live hl (by rw [z.b]; exact h0)
    unfold layF
    exact ⟨e1, by rw [e2]; exact e3, by rw [e2]; exact flush_siz z⟩
  | m + 1, i, D, hl, z, h0, hm => by
    obtain ⟨e1, e2⟩ := write_live hl (i := k0 + i) (s := s i) (by rw [z.b]; omega)
    unfold layF
    rw [ha i, if_pos e1, e2]
    exact layF_live ha m (i + 1) (live_put hl) z.put h0 (by omega)
theorem add_live {b : Txt} (hd : J.dead = false) (hl : Live D) (z : Siz D n) (h0 : 0 < n) (hb1 : 1 ≤ b.length) (hb2 : b.length ≤ 400000) (hfit : J.used + needN b.length ≤ J.n) (hfn : J.frm + J.n ≤ n) :
    ∃ D', J.add D b = (0, D', J.note b (needN b.length)) ∧ Live D' ∧ Siz D' n := by
  obtain ⟨e1, e2, e3⟩ := layF_live (at' := J.at') (s := secK J.ep J.recs.length (needN b.length) b) (k0 := J.frm + J.used) (n := n) (fun j => rfl) (needN b.length) 0 hl z h0 (by omega)
  refine ⟨_, ?_, e2, e3⟩
  unfold JD.add
  rw [if_neg (by rw [hd, hl.1]; simp), if_neg (by omega), if_neg (by omega)]
  exact if_pos e1
theorem add_full {b : Txt} (hd : J.dead = false) (hl : Live D) (hb1 : 1 ≤ b.length) (hb2 : b.length ≤ 400000) (hfit : J.n < J.used + needN b.length) : J.add D b = (6, D, J) := by
  unfold JD.add
  rw [if_neg (by rw [hd, hl.1]; simp), if_neg (by omega), if_pos (by omega)]
end Go.AM
namespace Go.AM
variable {prog : String → Option IFn}
variable {G L : List (Option Blk)} {P : DPos} {D : DskD} {n q p : Nat} {B : Option Blk} {cs : List AV} {J : JD}
theorem newD_live {k : Nat} : Live (newD k) := ⟨rfl, rfl⟩
end Go.AM
