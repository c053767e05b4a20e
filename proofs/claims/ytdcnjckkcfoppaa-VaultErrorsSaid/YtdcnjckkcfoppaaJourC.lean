import Derived.Test.YtdcnjckkcfoppaaJourB
set_option linter.unusedVariables false
set_option linter.unusedSimpArgs false
namespace Go.AM
variable {prog : String → Option IFn}
variable {G L : List (Option Blk)} {P : DPos} {D : DskD} {n q p : Nat} {B : Option Blk} {cs : List AV} {J : JD}
def lvF (f : Nat → Lab) (a b : Nat) : AV := .fn "(*haberdash/journal.Journal).leaves$1" [] [.ptr (f a) 1 0, .ptr (f b) 1 0]
def boxB (p : Nat) : Option Blk := some (sBlk [.ptr (.o p) 9 0] false)
def atB (u : Nat) : Option Blk := some (sBlk [.v (.int .i64 (u : Nat))] true)
theorem leaves_spec (H : JourLib prog) (h : OOk G.length P q p n) (hu : J.used < 2 ^ 62) :
    Ev prog (.call "(*haberdash/journal.Journal).leaves" [.ptr (.o p) 9 0] (dj G P q p D B (jC .o P.p q J))) (.ret (lvF .o (G.length + 1) G.length) (dj G P q p D B (jC .o P.p q J) ++ [boxB p, atB J.used])) := by
  refine call_of_fin H.jleaves ?_
  simp only [f___journal_Journal__leaves_B, enter, List.length_cons, List.length_nil, List.replicate, Nat.reduceAdd, Nat.reduceSub, List.cons_append, List.nil_append]
  have hp := h.pg
  have l7 : ∀ L, prim ⟨dj G P q p D B (jC .o P.p q J), L⟩ (.load 1 false) [.ptr (.o p) 9 7] = some (.v (.int .i64 (J.used : Nat)), ⟨dj G P q p D B (jC .o P.p q J), L⟩) := fun L => dj_ld h (i := 7) rfl rfl
  have bx : ∀ G, prim ⟨G, [none, none]⟩ (.box 0) [.ptr (.o p) 9 0] = some (.ptr (.l 0) 1 0, ⟨G, [boxB p, none]⟩) := fun G => rfl
  have lb : ∀ G L, prim ⟨G, boxB p :: L⟩ (.load 1 false) [.ptr (.l 0) 1 0] = some (.ptr (.o p) 9 0, ⟨G, boxB p :: L⟩) := fun G L => rfl
  have al : ∀ G, prim ⟨G, [boxB p, none]⟩ (.alloc 1 [.int .i64 0] []) [] = some (.ptr (.l 1) 1 0, ⟨G, [boxB p, atB 0]⟩) := fun G => rfl
  have st : ∀ G, prim ⟨G, [boxB p, atB 0]⟩ (.store 1 false) [.ptr (.l 1) 1 0, .v (.int .i64 (J.used : Nat))] = some (.v undef, ⟨G, [boxB p, atB J.used]⟩) := fun G => rfl
  have mf : ∀ h : Hp, prim h (.makeFunc "(*haberdash/journal.Journal).leaves$1" 0) [.ptr (.l 1) 1 0, .ptr (.l 0) 1 0] = some (lvF .l 1 0, h) := fun h => rfl
  simp (disch := first | (simp only [DS, reduceCtorEq]; done) | omega) only [WS, St.guard, St.put, evalO, reduceCtorEq, reduceIte, Nat.reduceAdd, Nat.reduceEqDiff, bx, lb, l7, al, st, mf, fin_tmp]
  refine ⟨by simp, ?_⟩
  have hlen := dj_len (G := G) (P := P) (q := q) (p := p) (D := D) (B := B) (cs := jC .o P.p q J)
  generalize dj G P q p D B (jC .o P.p q J) = X at *
  have hcol : collect (⟨X, [boxB p, atB J.used]⟩ : Hp) 40 [.l 1, .l 0] [] = [1, 0] := by
    simp [collect, Hp.get, boxB, atB, sBlk, Blk.labs, AV.labs.labss, AV.labs]
  unfold Hp.leave
  simp only [lvF, AV.labs, AV.labs.labss, List.append_nil, List.nil_append, List.cons_append, hcol]
  rw [if_pos]
  · simp [boxB, atB, sBlk, Blk.ren, AV.ren, AV.ren.rens, keepMap, hlen]
    exact ⟨rfl, rfl⟩
  · refine ⟨?_, by decide⟩
    simp [boxB, atB, sBlk, Blk.ren, AV.ren, AV.ren.rens, keepMap, outBlks, Blk.labs, AV.labs, AV.labs.labss, labLt]
    omega
def Off (P : DPos) (q p k : Nat) : Prop := k ≠ P.q0 ∧ k ≠ P.q1 ∧ k ≠ P.q2 ∧ k ≠ P.p ∧ k ≠ q ∧ k ≠ p
theorem dj_off {k : Nat} (h : Off P q p k) : (dj G P q p D B cs)[k]? = G[k]? := by
  obtain ⟨h0, h1, h2, h3, h4, h5⟩ := h
  unfold dj; rw [oset_o h4 h5, dset_o h3 h0 h1 h2]
theorem dj_setO {k : Nat} {X : Option Blk} (h : Off P q p k) : (dj G P q p D B cs).set k X = dj (G.set k X) P q p D B cs := by
  obtain ⟨h0, h1, h2, h3, h4, h5⟩ := h
  unfold dj oset dset
  rw [List.set_comm _ _ (Ne.symm h5), List.set_comm _ _ (Ne.symm h4)]
  congr 2
  rw [List.set_comm _ _ (Ne.symm h3), List.set_comm _ _ (Ne.symm h2), List.set_comm _ _ (Ne.symm h1), List.set_comm _ _ (Ne.symm h0)]
def noL : LeafD := ⟨0#32, 0#32, false, false, []⟩
def lvX (D : DskD) (J : JD) (i : Nat) : LeafD := if i < J.n then takeX (secAt D.b ((J.frm + i : Nat) : Int)).1 else noL
def lvOK (D : DskD) (J : JD) (i : Nat) : Bool := if i < J.n then takeOK (secAt D.b ((J.frm + i : Nat) : Int)).1 else false
def lvN (J : JD) (i : Nat) : Nat := if i < J.n then i + 1 else i
set_option maxHeartbeats 1000000 in
theorem leaf1_spec (H : JourLib prog) (h : OOk G.length P q p D.b.length) (ho : D.off = false) (hf : J.frm + J.n ≤ D.b.length) (hb : D.b.length ≤ 20000) {a b i : Nat} (ha : Off P q p a) (hb' : Off P q p b) (ga : G[a]? = some (atB i)) (gb : G[b]? = some (boxB p)) (hi : i ≤ J.n) :
    ∃ r Bs, Ev prog (.call "(*haberdash/journal.Journal).leaves$1" [.ptr (.o a) 1 0, .ptr (.o b) 1 0] (dj G P q p D B (jC .o P.p q J))) (.ret (.tup [.agg ((lvX D J i).cells r), .v (.bool (lvOK D J i))]) (dj (G.set a (atB (lvN J i))) P q p D B (jC .o P.p q J) ++ Bs)) ∧
      RetSlice (dj (G.set a (atB (lvN J i))) P q p D B (jC .o P.p q J)) r Bs 1 (lvX D J i).d.length ((lvX D J i).d.map byteAV) := by
  have hab : a < G.length := lt_of_get ga
  have HD := H.toDiskLib
  obtain ⟨r, G2, he, a', Bs, rfl, rfl, hr⟩ := call_ex (prog := prog) (P := fun r G2 => ∃ a' Bs, r = .tup [.agg ((lvX D J i).cells a'), .v (.bool (lvOK D J i))] ∧ G2 = dj (G.set a (atB (lvN J i))) P q p D B (jC .o P.p q J) ++ Bs ∧ RetSlice (dj (G.set a (atB (lvN J i))) P q p D B (jC .o P.p q J)) a' Bs 1 (lvX D J i).d.length ((lvX D J i).d.map byteAV))
    H.jleaves1 (args := [.ptr (.o a) 1 0, .ptr (.o b) 1 0]) (G := dj G P q p D B (jC .o P.p q J)) (by
    simp only [f___journal_Journal__leaves_1_B, enter, List.length_cons, List.length_nil, List.replicate, Nat.reduceAdd, Nat.reduceSub, List.cons_append, List.nil_append]
    have la : ∀ (k : Nat) L, prim ⟨dj (G.set a (atB k)) P q p D B (jC .o P.p q J), L⟩ (.load 1 false) [.ptr (.o a) 1 0] = some (.v (.int .i64 (k : Nat)), ⟨dj (G.set a (atB k)) P q p D B (jC .o P.p q J), L⟩) := fun k L => by
      rw [px_load_o, dj_off ha, List.getElem?_set_self hab]; rfl
    have gb' : ∀ k, (G.set a (atB k))[b]? = some (boxB p) := fun k => by
      by_cases e : a = b
      · subst e; rw [ga] at gb; cases gb
      · rw [List.getElem?_set, if_neg e]; exact gb
    have lb : ∀ (k : Nat) L, prim ⟨dj (G.set a (atB k)) P q p D B (jC .o P.p q J), L⟩ (.load 1 false) [.ptr (.o b) 1 0] = some (.ptr (.o p) 9 0, ⟨dj (G.set a (atB k)) P q p D B (jC .o P.p q J), L⟩) := fun k L => by
      rw [px_load_o, dj_off hb', gb' k]; rfl
    have h' : ∀ k, OOk (G.set a (atB k)).length P q p D.b.length := fun k => by rw [List.length_set]; exact h
    have l0 : ∀ (k : Nat) L, prim ⟨dj (G.set a (atB k)) P q p D B (jC .o P.p q J), L⟩ (.load 1 false) [.ptr (.o p) 9 0] = some (.ptr (.o P.p) 5 0, ⟨dj (G.set a (atB k)) P q p D B (jC .o P.p q J), L⟩) := fun k L => dj_ld (h' k) (i := 0) rfl rfl
    have l1 : ∀ (k : Nat) L, prim ⟨dj (G.set a (atB k)) P q p D B (jC .o P.p q J), L⟩ (.load 1 false) [.ptr (.o p) 9 1] = some (.v (.int .i64 (J.frm : Nat)), ⟨dj (G.set a (atB k)) P q p D B (jC .o P.p q J), L⟩) := fun k L => dj_ld (h' k) (i := 1) rfl rfl
    have l2 : ∀ (k : Nat) L, prim ⟨dj (G.set a (atB k)) P q p D B (jC .o P.p q J), L⟩ (.load 1 false) [.ptr (.o p) 9 2] = some (.v (.int .i64 (J.n : Nat)), ⟨dj (G.set a (atB k)) P q p D B (jC .o P.p q J), L⟩) := fun k L => dj_ld (h' k) (i := 2) rfl rfl
    have al : ∀ G, prim ⟨G, [none, none, none]⟩ (.alloc 1 [.int .u32 0, .int .u32 0, .bool false, .bool false, .slice none 0 0] []) [] = some (.ptr (.l 1) 5 0, ⟨G, [none, some (sBlk noLeaf true), none]⟩) := fun G => rfl
    have gd : ∀ {D B cs L}, Dat L → Good ⟨dj (G.set a (atB i)) P q p D B cs, L⟩ := fun hL => goodX hL
    have dN : Dat [none, some (sBlk noLeaf true), none] := by intro B hB b e; subst e; simp at hB; subst hB; rfl
    have dS : ∀ X : Txt, Dat [none, some (sBlk noLeaf true), some (dBlk (X.map byteAV) false false)] := fun X => by intro B hB b e; subst e; simp at hB; rcases hB with h | h <;> subst h <;> rfl
    have eG : G = G.set a (atB i) := (set_same ga).symm
    conv => arg 4; rw [show dj G P q p D B (jC .o P.p q J) = dj (G.set a (atB i)) P q p D B (jC .o P.p q J) by rw [← eG]]
    simp (disch := first | (simp only [DS, reduceCtorEq]; done) | omega) only [WS, St.guard, St.put, evalO, reduceCtorEq, reduceIte, Nat.reduceAdd, Nat.reduceEqDiff, al, la, lb, l2]
    by_cases hlt : i < J.n
    · have hge : ¬ ((i : Int) ≥ (J.n : Int)) := by omega
      have ex : lvX D J i = takeX (secAt D.b ((J.frm + i : Nat) : Int)).1 := if_pos hlt
      have eok : lvOK D J i = takeOK (secAt D.b ((J.frm + i : Nat) : Int)).1 := if_pos hlt
      have en : lvN J i = i + 1 := if_pos hlt
      rw [ex, eok, en]
      have hm : mayE D ((J.frm + i : Nat) : Int) = 0 := mayE_on ho (by omega)
      have hrv : readV D ((J.frm + i : Nat) : Int) = secAt D.b ((J.frm + i : Nat) : Int) := by unfold readV; rw [if_pos hm]
      obtain ⟨w, hw⟩ : ∃ w, w = secAt D.b ((J.frm + i : Nat) : Int) := ⟨_, rfl⟩
      rw [← hw] at hrv ⊢
      simp (disch := first | (simp only [DS, reduceCtorEq]; done) | omega) only [WS, St.guard, St.put, evalO, reduceCtorEq, reduceIte, Nat.reduceAdd, Nat.reduceEqDiff, hge, decide_false]
      refine WDP_er (by exact gd dN) rfl ?_
      refine ⟨_, _, lb _ _, rfl, .inr ⟨rfl, gd dN⟩, ?_⟩
      simp (disch := first | (simp only [DS, reduceCtorEq]; done) | omega) only [WS, St.guard, St.put, evalO, reduceCtorEq, reduceIte, Nat.reduceAdd, Nat.reduceEqDiff, WDX_some, reduceIte, if_true, if_false, Bool.and_true, Bool.true_and, true_and, Bool.false_eq_true, false_or, true_or, Hp.over, AM.over, over_nil, List.foldl_cons, List.foldl_nil, List.set_cons_zero, List.set_cons_succ, List.getElem?_cons_zero, List.getElem?_cons_succ, Option.join_some, List.length_cons, List.length_nil, Prim.sites, List.cons_append, List.nil_append]
      refine WDP_er (by exact gd dN) rfl ?_
      refine ⟨_, _, l0 _ _, rfl, .inr ⟨rfl, gd dN⟩, ?_⟩
      simp (disch := first | (simp only [DS, reduceCtorEq]; done) | omega) only [WS, St.guard, St.put, evalO, reduceCtorEq, reduceIte, Nat.reduceAdd, Nat.reduceEqDiff, WDX_some, reduceIte, if_true, if_false, Bool.and_true, Bool.true_and, true_and, Bool.false_eq_true, false_or, true_or, Hp.over, AM.over, over_nil, List.foldl_cons, List.foldl_nil, List.set_cons_zero, List.set_cons_succ, List.getElem?_cons_zero, List.getElem?_cons_succ, Option.join_some, List.length_cons, List.length_nil, Prim.sites, List.cons_append, List.nil_append]
      refine WDP_er (by exact gd dN) rfl ?_
      refine ⟨_, _, lb _ _, rfl, .inr ⟨rfl, gd dN⟩, ?_⟩
      simp (disch := first | (simp only [DS, reduceCtorEq]; done) | omega) only [WS, St.guard, St.put, evalO, reduceCtorEq, reduceIte, Nat.reduceAdd, Nat.reduceEqDiff, WDX_some, reduceIte, if_true, if_false, Bool.and_true, Bool.true_and, true_and, Bool.false_eq_true, false_or, true_or, Hp.over, AM.over, over_nil, List.foldl_cons, List.foldl_nil, List.set_cons_zero, List.set_cons_succ, List.getElem?_cons_zero, List.getElem?_cons_succ, Option.join_some, List.length_cons, List.length_nil, Prim.sites, List.cons_append, List.nil_append]
      refine WDP_er (by exact gd dN) rfl ?_
      refine ⟨_, _, l1 _ _, rfl, .inr ⟨rfl, gd dN⟩, ?_⟩
      simp (disch := first | (simp only [DS, reduceCtorEq]; done) | omega) only [WS, St.guard, St.put, evalO, reduceCtorEq, reduceIte, Nat.reduceAdd, Nat.reduceEqDiff, WDX_some, reduceIte, if_true, if_false, Bool.and_true, Bool.true_and, true_and, Bool.false_eq_true, false_or, true_or, Hp.over, AM.over, over_nil, List.foldl_cons, List.foldl_nil, List.set_cons_zero, List.set_cons_succ, List.getElem?_cons_zero, List.getElem?_cons_succ, Option.join_some, List.length_cons, List.length_nil, Prim.sites, List.cons_append, List.nil_append]
      refine WDP_er (by exact gd dN) rfl ?_
      refine ⟨_, _, la _ _, rfl, .inr ⟨rfl, gd dN⟩, ?_⟩
      have efi : (J.frm : Int) + (i : Int) = ((J.frm + i : Nat) : Int) := by omega
      simp (disch := first | (simp only [DS, reduceCtorEq]; done) | omega) only [WS, St.guard, St.put, evalO, reduceCtorEq, reduceIte, Nat.reduceAdd, Nat.reduceEqDiff, WDX_some, reduceIte, if_true, if_false, Bool.and_true, Bool.true_and, true_and, Bool.false_eq_true, false_or, true_or, Hp.over, AM.over, over_nil, List.foldl_cons, List.foldl_nil, List.set_cons_zero, List.set_cons_succ, List.getElem?_cons_zero, List.getElem?_cons_succ, Option.join_some, List.length_cons, List.length_nil, Prim.sites, List.cons_append, List.nil_append, vBin_add_i64, efi]
      refine WDP_pureU (r := .tup [.agg (w.1.map byteAV), .v (.int .i64 0)]) (fun L hg => ?_) (by exact gd dN) ?_
      · rw [← hrv, ← hm]
        exact opDj (h' i) (by simp [AV.lf, AV.lf.lfs, bytes_lfs]) (fun g => rfl) (fun G' hG' => Read_op HD hG') hg
      have al2 : ∀ G X, prim ⟨G, [none, X, none]⟩ (.alloc 2 zeros64 []) [] = some (.ptr (.l 2) 64 0, ⟨G, [none, X, some (dBlk (zs64.map byteAV) false false)]⟩) := fun G X => alloc_zeros rfl
      simp (disch := first | (simp only [DS, reduceCtorEq]; done) | omega) only [WS, St.guard, St.put, evalO, reduceCtorEq, reduceIte, Nat.reduceAdd, Nat.reduceEqDiff]
      refine WDP_of (.prim (al2 _ _)) (by exact gd dN) (by exact gd (dS _)) rfl rfl ?_
      simp (disch := first | (simp only [DS, reduceCtorEq]; done) | omega) only [WS, St.guard, St.put, evalO, reduceCtorEq, reduceIte, Nat.reduceAdd, Nat.reduceEqDiff]
      have st : ∀ G X, prim ⟨G, [none, X, some (dBlk (zs64.map byteAV) false false)]⟩ (.store 64 false) [.ptr (.l 2) 64 0, .agg (w.1.map byteAV)] = some (.v undef, ⟨G, [none, X, some (dBlk (w.1.map byteAV) false false)]⟩) := fun G X =>
        store_all (j := 2) (cells := zs64.map byteAV) (o := false) (v := false) rfl (by simp [zs64_len]) (by rw [List.length_map]; exact w.2) bytes_lfs
      refine WDP_of (.prim (st _ _)) (by exact gd (dS _)) (by exact gd (dS _)) rfl rfl ?_
      have ei : (i : Int) + 1 = ((i + 1 : Nat) : Int) := by omega
      have sa : ∀ L, prim ⟨dj (G.set a (atB i)) P q p D B (jC .o P.p q J), L⟩ (.store 1 false) [.ptr (.o a) 1 0, .v (.int .i64 ((i + 1 : Nat) : Int))] = some (.v undef, ⟨dj (G.set a (atB (i + 1))) P q p D B (jC .o P.p q J), L⟩) := fun L => by
        rw [px_store]
        simp only [AV.cellsOf, Option.bind_some, Hp.mayFreeze, Bool.false_eq_true, if_false, Hp.get, dj_off ha, List.getElem?_set_self hab, Option.join_some]
        refine (if_pos ⟨rfl, rfl, rfl, by omega, rfl⟩).trans ?_
        have e2 : (dj (G.set a (atB i)) P q p D B (jC .o P.p q J)).set a (atB (i + 1)) = dj (G.set a (atB (i + 1))) P q p D B (jC .o P.p q J) := by rw [dj_setO ha, List.set_set]
        rw [← e2]; rfl
      have ld2 : ∀ G X, prim ⟨G, [none, X, some (dBlk (w.1.map byteAV) false false)]⟩ (.load 64 true) [.ptr (.l 2) 64 0] = some (.agg (w.1.map byteAV), ⟨G, [none, X, some (dBlk (w.1.map byteAV) false false)]⟩) := fun G X => load_sec (j := 2) (bs := w.1) (o := false) (v := false) rfl w.2
      simp (disch := first | (simp only [DS, reduceCtorEq]; done) | omega) only [WS, St.guard, St.put, evalO, reduceCtorEq, reduceIte, Nat.reduceAdd, Nat.reduceEqDiff, la, vBin_add_i64, ei, sa, Int.reduceBNe, ld2]
      have ht := Take_spec H.toTakeLib (G := (⟨dj (G.set a (atB (i + 1))) P q p D B (jC .o P.p q J), [none, some (sBlk noLeaf true), some (dBlk (w.1.map byteAV) false false)]⟩ : Hp).into) w.2
      refine WP_slice (esz := 1) (len := (takeX w.1).d.length) (cells := (takeX w.1).d.map byteAV) (fun a => .tup [.agg ((takeX w.1).cells a), .v (.bool (takeOK w.1))]) (fun _ _ => rfl) (by rw [List.map_cons, ren_bytes]; exact ht) (by exact goodX (dS _)) rfl fun c Bc hat => ?_
      simp (disch := first | (simp only [DS, reduceCtorEq]; done) | omega) only [WS, St.guard, St.put, evalO, reduceCtorEq, reduceIte, Nat.reduceAdd, Nat.reduceEqDiff, px_extract]
      refine (WR_eq (store_s (j := 1) (n := 5) (off := 0) (sz := 5) (xs := (takeX w.1).cells c) rfl rfl rfl rfl (by omega))).2 ?_
      simp (disch := first | (simp only [DS, reduceCtorEq]; done) | omega) only [WS, St.guard, St.put, evalO, reduceCtorEq, reduceIte, Nat.reduceAdd, Nat.reduceEqDiff, px_extract]
      obtain ⟨r, Bs, hlv, hret⟩ := leave_at (h := ⟨dj (G.set a (atB (i + 1))) P q p D B (jC .o P.p q J), [Bc, some (sBlk ((takeX w.1).cells c) (true && AV.lf.lfs ((takeX w.1).cells c))), some (dBlk (w.1.map byteAV) false false)]⟩) hat rfl
        (fun a => .tup [.agg ((takeX w.1).cells a), .v (.bool (takeOK w.1))]) (fun _ _ => rfl) (fun a => by simp [LeafD.cells, AV.labs, AV.labs.labss]) (fun a ha => by simp [LeafD.cells, AV.lf, AV.lf.lfs, ha])
      exact ⟨by simp, _, _, hlv, r, Bs, rfl, rfl, hret⟩
    · have hge : (i : Int) ≥ (J.n : Int) := by omega
      have ex : lvX D J i = noL := if_neg hlt
      have eok : lvOK D J i = false := if_neg hlt
      have en : lvN J i = i := if_neg hlt
      rw [ex, eok, en]
      have bz : ∀ h : Hp, prim h (.build [.int .u32 0, .int .u32 0, .bool false, .bool false, .slice none 0 0] []) [] = some (.agg noLeaf, h) := fun h => rfl
      have zz : ∀ G, prim ⟨G, [none, some (sBlk noLeaf true), none]⟩ (.store 5 false) [.ptr (.l 1) 5 0, .agg noLeaf] = some (.v undef, ⟨G, [none, some (sBlk noLeaf true), none]⟩) := fun _ => rfl
      simp (disch := first | (simp only [DS, reduceCtorEq]; done) | omega) only [WS, St.guard, St.put, evalO, reduceCtorEq, reduceIte, Nat.reduceAdd, Nat.reduceEqDiff, hge, decide_true, bz, zz]
      refine ⟨by simp, .tup [.agg noLeaf, .v (.bool false)], _, ?_, .v (.slice none 0 0), [], rfl, by rw [List.append_nil], retSlice_nil (by omega)⟩
      exact leave_lf (r := .tup [.agg noLeaf, .v (.bool false)]) rfl)
  exact ⟨a', Bs, he, hr⟩
end Go.AM
namespace Go.AM
variable {prog : String → Option IFn}
variable {G L : List (Option Blk)} {P : DPos} {D : DskD} {n q p : Nat} {B : Option Blk} {cs : List AV} {J : JD}
theorem op_fnS {g first xs caps site esz len cells} {h h' : Hp} (C : AV → AV) (hC : ∀ ρ a, (C a).ren ρ = C (a.ren ρ))
    (he : ∃ r Bs, Ev prog (.call g ((first ++ xs ++ caps).map (AV.ren (up h.G.length))) h.into) (.ret (C r) (h'.into ++ Bs)) ∧ RetSlice h'.into r Bs esz len cells)
    (hG : h'.G.length = h.G.length) (hL : h'.L.length = h.L.length) (hg : Good h) (hg' : Good h') (hf : h.L[site]? = some none) (hf' : h'.L[site]? = some none) :
    ∃ a B, SliceAt site a B esz len cells ∧ Ev prog (.op (.callV [site]) (.fn g first caps :: xs) h) (.val (C a) ⟨h'.G, h'.L.set site B⟩) := by
  obtain ⟨r, Bs, he, hr⟩ := he
  have hlen : Bs.length ≤ 1 := by rcases hr.one with rfl | ⟨b, rfl, _⟩ <;> simp
  obtain ⟨B, hB, hat⟩ := retSlice_at (site := site) hr
  rw [hG, hL] at hB hat
  refine ⟨_, B, hat, .opCallV hg.okBlks he ?_⟩
  rw [back_into (h := h) (h' := h') (sites := [site]) hG hL hg'.refsOK (by simpa using hlen) (by simp) (by simp [free_of_get hf]) (by simp [free_of_get hf'])]
  simp only [List.length_singleton, hB, putAll, hC]
theorem into_djL (h : OOk G.length P q p n) : (⟨dj G P q p D B cs, L⟩ : Hp).into = dj (⟨G, L⟩ : Hp).into P q p D B cs := by
  unfold Hp.into
  simp only [dj_len]
  rw [← dj_app h]
theorem into_same {L : List (Option Blk)} (hL : ∀ B ∈ L, ∀ b, B = some b → ∀ g, b.ren (up g) = b) : (⟨G, L⟩ : Hp).into = G ++ L := by
  unfold Hp.into
  congr 1
  conv => rhs; rw [← List.map_id L]
  refine List.map_congr_left fun B hB => ?_
  cases B with
  | none => rfl
  | some b => simp only [Option.map_some, id_eq, hL _ hB b rfl]
theorem Off.of {k : Nat} (h : OOk G.length P q p n) (hk : G.length ≤ k) : Off P q p k := by
  obtain ⟨⟨a1, a2, a3, a4, a5, a6, a7, a8, a9, a10⟩, b1, b2, b3, b4, b5⟩ := h
  refine ⟨?_, ?_, ?_, ?_, ?_, ?_⟩ <;> omega
theorem arg_at {k : Nat} {b : Txt} {o : Bool} (hf : Off P q p k) (hk : G[k]? = some (some (dBlk (b.map byteAV) o false))) : Arg G P q p (.own (.o k) b.length 0 b.length 1 none) b := by
  have hlt := lt_of_get hk
  have hg : ∀ D B cs X, (dj G P q p D B cs ++ X)[k]? = some (some (dBlk (b.map byteAV) o false)) := fun D B cs X => by
    rw [List.getElem?_append_left (by rw [dj_len]; exact hlt), dj_off hf]; exact hk
  refine ⟨fun D B cs X L' => ?_, fun hb D B cs X L' => ?_, fun g => rfl⟩
  · refine ⟨rfl, ?_, by simp, rfl, trivial, by omega⟩
    simp only [Hp.sees, Hp.get, hg, Option.join_some, dBlk_cells, List.length_map, if_true, List.drop_zero, Nat.mul_one]
    rw [List.take_of_length_le (by simp)]
  · refine isNil_own (B := dBlk (b.map byteAV) o false) ?_ (by simp [dBlk_cells])
    simp only [Hp.get, hg]; rfl
def lvNext (D : DskD) (J : JD) (k : Nat) (ep : BitVec 32) : Bool :=
  lvOK D J (J.used + k) && ((lvX D J (J.used + k)).n.toNat == J.recs.length && ((lvX D J (J.used + k)).f == decide (k = 0) && (!((lvX D J (J.used + k)).e.toNat < J.la.toNat) && (decide (k = 0) || (lvX D J (J.used + k)).e == ep))))
def tkF (D : DskD) (J : JD) : Nat → Nat → Txt → BitVec 32 → Bool × JD
  | 0, k, b, ep => (false, { J with ep := ep })
  | f + 1, k, b, ep => if lvNext D J k ep then
      if (lvX D J (J.used + k)).l then (true, ({ J with ep := (lvX D J (J.used + k)).e } : JD).note (b ++ (lvX D J (J.used + k)).d) (k + 1)) else tkF D J f (k + 1) (b ++ (lvX D J (J.used + k)).d) (lvX D J (J.used + k)).e
    else (false, { J with ep := ep })
def JD.take (J : JD) (D : DskD) : Bool × JD := tkF D J (J.n - J.used + 1) 0 [] J.ep
theorem lvOK_right {i : Nat} (h : lvOK D J i = true) : i < J.n ∧ (lvX D J i).right = true := by
  unfold lvOK at h
  unfold lvX
  split at h
  · rename_i hi
    refine ⟨hi, ?_⟩
    rw [if_pos hi]
    unfold takeX
    rw [if_pos h]
    unfold takeOK at h
    simp only [Bool.and_eq_true] at h
    exact h.1
  · cases h
theorem conv_u32_i64 {e : BitVec 32} {h : Hp} : prim h (.convInt .i64) [.v (u32 e)] = some (.v (.int .i64 ((e.toNat : Nat) : Int)), h) := by
  have := e.isLt
  rw [u32, px_convInt, wrap_i64_nat (by omega)]
theorem vBin_lss_u32 {x y : BitVec 32} : vBin .lss (u32 x) (u32 y) = some (.bool (decide (x.toNat < y.toNat))) := by
  have : vBin .lss (u32 x) (u32 y) = some (.bool (decide ((x.toNat : Int) < (y.toNat : Int)))) := rfl
  rw [this]
  congr 2
  rw [decide_eq_decide]; omega
def accB (b : Txt) : Option Blk := some (dBlk (b.map byteAV) true b.isEmpty)
theorem tkL_into {u : Nat} {b : Txt} : (⟨G, [boxB p, atB u, accB b, none, none, none]⟩ : Hp).into = G ++ [boxB p, atB u, accB b, none, none, none] := rfl
theorem op_leaves (H : JourLib prog) (h : OOk G.length P q p n) (hu : J.used < 2 ^ 62) :
    Ev prog (.op (.call "(*haberdash/journal.Journal).leaves" [0, 1]) [.ptr (.o p) 9 0] ⟨dj G P q p D B (jC .o P.p q J), [none, none, none, none, none, none]⟩)
      (.val (lvF .l 1 0) ⟨dj G P q p D B (jC .o P.p q J), [boxB p, atB J.used, none, none, none, none]⟩) := by
  have d6 : Dat [(none : Option Blk), none, none, none, none, none] := by intro B hB b e; subst e; simp at hB
  have e := leaves_spec H (G := G ++ [none, none, none, none, none, none]) (D := D) (B := B) (J := J) h.app hu
  have hl : (G ++ [none, none, none, none, none, none]).length = (⟨dj G P q p D B (jC .o P.p q J), [none, none, none, none, none, none]⟩ : Hp).into.length := by rw [into_len]; simp [dj_len]
  have gd : Good ⟨dj G P q p D B (jC .o P.p q J), [none, none, none, none, none, none]⟩ := goodX d6
  rw [dj_app h, ← into_dat d6, hl] at e
  have hp := h.pg
  have hlen := dj_len (G := G) (P := P) (q := q) (p := p) (D := D) (B := B) (cs := jC .o P.p q J)
  generalize dj G P q p D B (jC .o P.p q J) = X at *
  refine .opCall gd.okBlks e ?_
  rw [back_into (h := ⟨X, [none, none, none, none, none, none]⟩) (h' := ⟨X, [none, none, none, none, none, none]⟩) rfl rfl gd.refsOK (by simp) (by decide) rfl rfl]
  have d1 := down_into (h := ⟨X, [none, none, none, none, none, none]⟩) (sites := [0, 1]) 1
  have d0 := down_into (h := ⟨X, [none, none, none, none, none, none]⟩) (sites := [0, 1]) 0
  rw [Nat.add_zero] at d0
  have e1 : (lvF .o ((⟨X, [none, none, none, none, none, none]⟩ : Hp).into.length + 1) (⟨X, [none, none, none, none, none, none]⟩ : Hp).into.length).ren (down X.length 6 [0, 1]) = lvF .l 1 0 := by
    unfold lvF
    simp only [AV.ren, AV.ren.rens]
    rw [show (6 : Nat) = ([none, none, none, none, none, none] : List (Option Blk)).length from rfl, d0, d1]
    rfl
  have eb : (sBlk [.ptr (.o p) 9 0] false).ren (down X.length 6 [0, 1]) = sBlk [.ptr (.o p) 9 0] false := by
    have : down X.length 6 [0, 1] (.o p) = some (.o p) := by simp only [down]; rw [if_pos (by omega)]
    simp [Blk.ren, sBlk, AV.ren, AV.ren.rens, this]
  have ep : padTo [0, 1].length [boxB p, atB J.used] = [boxB p, atB J.used] := rfl
  rw [ep]
  simp only [List.map_cons, List.map_nil, boxB, atB, Option.map_some]
  refine congrArg some (Prod.ext e1 ?_)
  show (⟨X, _⟩ : Hp) = _
  rw [show (List.length [none, none, none, none, none, none] : Nat) = 6 from rfl, eb]
  rfl
set_option maxHeartbeats 2000000 in
theorem take_spec (H : JourLib prog) (h : OOk G.length P q p D.b.length) (ho : D.off = false) (hf : J.frm + J.n ≤ D.b.length) (hb : D.b.length ≤ 20000) (hu : J.used ≤ J.n) (hr : J.recs.length ≤ J.used) :
    Ev prog (.call "(*haberdash/journal.Journal).take" [.ptr (.o p) 9 0] (dj G P q p D (recB J.recs) (jC .o P.p q J))) (.ret (.v (.bool (J.take D).1)) (dj G P q p D (recB (J.take D).2.recs) (jC .o P.p q (J.take D).2))) := by
  refine call_of_fin H.jtake ?_
  have hroom : room = 140737488355328 := rfl
  obtain ⟨R, hR⟩ : ∃ R, J.take D = R := ⟨_, rfl⟩
  rw [hR]
  have hp := h.pg
  simp only [f___journal_Journal__take_B, enter, List.length_cons, List.length_nil, List.replicate, Nat.reduceAdd, Nat.reduceSub, List.cons_append, List.nil_append]
  have gL : ∀ {D : DskD} {B cs} {u : Nat} {b : Txt}, Good ⟨dj G P q p D B cs, [boxB p, atB u, accB b, none, none, none]⟩ := fun {D B cs u b} => by
    refine ⟨sBlk_good ?_, sBlk_good rfl, dBlk_good, trivial⟩
    simp [AV.labs.labss, AV.labs, refLt, dj_len]; omega
  have nv : ∀ G, prim ⟨G, [boxB p, atB J.used, none, none, none, none]⟩ (.nilv 2 1) [.v (.slice none 0 0)] = some (.own (.l 2) 0 0 0 1 none, ⟨G, [boxB p, atB J.used, accB [], none, none, none]⟩) := fun G => rfl
  simp (disch := first | (simp only [DS, reduceCtorEq]; done) | omega) only [WS, St.guard, St.put, evalO, reduceCtorEq, reduceIte, Nat.reduceAdd, Nat.reduceEqDiff]
  refine WP_of (op_leaves H h (by omega)) ?_
  simp (disch := first | (simp only [DS, reduceCtorEq]; done) | omega) only [WS, St.guard, St.put, evalO, reduceCtorEq, reduceIte, Nat.reduceAdd, Nat.reduceEqDiff, nv]
  refine WC_loop (Inv := fun m st => ∃ k b ep, st = ⟨f___journal_Journal__take_H0 (.ptr (.o p) 9 0) (lvF .l 1 0) (.own (.l 2) b.length 0 b.length 1 none) (.v (.int .i64 (k : Nat))), ⟨dj G P q p D (recB J.recs) (jC .o P.p q { J with ep := ep }), [boxB p, atB (J.used + k), accB b, none, none, none]⟩⟩ ∧ tkF D J m k b ep = R ∧ 1 ≤ m ∧ m + k = J.n - J.used + 1 ∧ b.length ≤ 46 * k)
    (J.n - J.used + 1) ⟨_, ?_, 0, [], J.ep, rfl, hR, by omega, by omega, by simp⟩ ?_
  · exact clear_fre (by simp only [clear_nil, List.foldl_cons, List.foldl_nil, Option.some.injEq, LS, reduceCtorEq, reduceIte, Nat.reduceAdd] <;> rfl) (by rfl) (by rfl) (by rfl)
  rintro m st ⟨k, b, ep, rfl, hT, h1, hm, hbl⟩
  obtain ⟨f, rfl⟩ : ∃ f, m = f + 1 := ⟨m - 1, by omega⟩
  have e1 := leaf1_spec H (G := G ++ [boxB p, atB (J.used + k), accB b, none, none, none]) (D := D) (B := recB J.recs) (J := { J with ep := ep }) h.app ho hf hb (a := G.length + 1) (b := G.length) (i := J.used + k) (Off.of h (by omega)) (Off.of h (by omega))
    (by rw [List.getElem?_append_right (by omega), Nat.add_sub_cancel_left]; rfl) (by rw [List.getElem?_append_right (by omega), Nat.sub_self]; rfl) (by show J.used + k ≤ J.n; omega)
  have hset : (G ++ [boxB p, atB (J.used + k), accB b, none, none, none]).set (G.length + 1) (atB (lvN { J with ep := ep } (J.used + k))) = (⟨G, [boxB p, atB (lvN { J with ep := ep } (J.used + k)), accB b, none, none, none]⟩ : Hp).into := by
    rw [List.set_append_right _ _ (by omega), Nat.add_sub_cancel_left]; rfl
  rw [hset, ← tkL_into, ← into_djL h, ← into_djL h] at e1
  obtain ⟨x, hx⟩ : ∃ x, lvX D J (J.used + k) = x := ⟨_, rfl⟩
  obtain ⟨ok, hok⟩ : ∃ ok, lvOK D J (J.used + k) = ok := ⟨_, rfl⟩
  have hx' : lvX D { J with ep := ep } (J.used + k) = x := hx
  have hok' : lvOK D { J with ep := ep } (J.used + k) = ok := hok
  rw [hx', hok'] at e1
  have hT' : (if lvNext D J k ep then
      if (lvX D J (J.used + k)).l then (true, ({ J with ep := (lvX D J (J.used + k)).e } : JD).note (b ++ (lvX D J (J.used + k)).d) (k + 1)) else tkF D J f (k + 1) (b ++ (lvX D J (J.used + k)).d) (lvX D J (J.used + k)).e
    else (false, { J with ep := ep })) = R := hT
  unfold lvNext at hT'
  rw [hx, hok] at hT'
  have hRk : ok = true → J.used + k < J.n ∧ x.right = true := fun h => by have := lvOK_right (D := D) (J := J) (i := J.used + k) (by rw [hok]; exact h); rwa [hx] at this
  obtain ⟨a, B3, hat, hev⟩ := op_fnS (site := 3) (first := []) (xs := []) (caps := [.ptr (.l 1) 1 0, .ptr (.l 0) 1 0]) (g := "(*haberdash/journal.Journal).leaves$1") (h := ⟨dj G P q p D (recB J.recs) (jC .o P.p q { J with ep := ep }), [boxB p, atB (J.used + k), accB b, none, none, none]⟩) (h' := ⟨dj G P q p D (recB J.recs) (jC .o P.p q { J with ep := ep }), [boxB p, atB (lvN { J with ep := ep } (J.used + k)), accB b, none, none, none]⟩)
    (fun a => .tup [.agg (x.cells a), .v (.bool ok)]) (fun _ _ => rfl) (by
      have : ([] ++ [] ++ [AV.ptr (.l 1) 1 0, .ptr (.l 0) 1 0]).map (AV.ren (up (dj G P q p D (recB J.recs) (jC .o P.p q { J with ep := ep })).length)) = [.ptr (.o (G.length + 1)) 1 0, .ptr (.o G.length) 1 0] := by
        rw [dj_len]; rfl
      rw [this]; exact e1) rfl rfl gL gL rfl rfl
  generalize hat1 : lvN { J with ep := ep } (J.used + k) = at1 at hev
  have al : ∀ G b1 b2 b3, prim ⟨G, [b1, b2, b3, B3, none, none]⟩ (.alloc 4 [.int .u32 0, .int .u32 0, .bool false, .bool false, .slice none 0 0] []) [] = some (.ptr (.l 4) 5 0, ⟨G, [b1, b2, b3, B3, some (sBlk noLeaf true), none]⟩) := fun G b1 b2 b3 => rfl
  simp (disch := first | (simp only [DS, reduceCtorEq]; done) | omega) only [f___journal_Journal__take_L0, f___journal_Journal__take_H0, WS, St.guard, St.put, evalO, reduceCtorEq, reduceIte, Nat.reduceAdd, Nat.reduceEqDiff]
  refine WP_of (by exact hev) ?_
  simp (disch := first | (simp only [DS, reduceCtorEq]; done) | omega) only [WS, St.guard, St.put, evalO, reduceCtorEq, reduceIte, Nat.reduceAdd, Nat.reduceEqDiff, al]
  refine (WR_eq (store_s (j := 4) (n := 5) (off := 0) (sz := 5) (xs := x.cells a) rfl rfl rfl rfl (by omega))).2 ?_
  rw [show lay noLeaf 0 (x.cells a) = x.cells a from rfl]
  generalize (true && AV.lf.lfs (x.cells a)) = dd
  simp (disch := first | (simp only [DS, reduceCtorEq]; done) | omega) only [WS, St.guard, St.put, evalO, reduceCtorEq, reduceIte, Nat.reduceAdd, Nat.reduceEqDiff]
  have ld0 : ∀ G b1 b2 b3 b4 b6, prim ⟨G, [b1, b2, b3, b4, some (sBlk (x.cells a) dd), b6]⟩ (.load 1 false) [.ptr (.l 4) 5 0] = some (.v (u32 x.e), ⟨G, [b1, b2, b3, b4, some (sBlk (x.cells a) dd), b6]⟩) := fun _ _ _ _ _ _ => rfl
  have ld1 : ∀ G b1 b2 b3 b4 b6, prim ⟨G, [b1, b2, b3, b4, some (sBlk (x.cells a) dd), b6]⟩ (.load 1 false) [.ptr (.l 4) 5 1] = some (.v (u32 x.n), ⟨G, [b1, b2, b3, b4, some (sBlk (x.cells a) dd), b6]⟩) := fun _ _ _ _ _ _ => rfl
  have ld2 : ∀ G b1 b2 b3 b4 b6, prim ⟨G, [b1, b2, b3, b4, some (sBlk (x.cells a) dd), b6]⟩ (.load 1 false) [.ptr (.l 4) 5 2] = some (.v (.bool x.f), ⟨G, [b1, b2, b3, b4, some (sBlk (x.cells a) dd), b6]⟩) := fun _ _ _ _ _ _ => rfl
  have ld3 : ∀ G b1 b2 b3 b4 b6, prim ⟨G, [b1, b2, b3, b4, some (sBlk (x.cells a) dd), b6]⟩ (.load 1 false) [.ptr (.l 4) 5 3] = some (.v (.bool x.l), ⟨G, [b1, b2, b3, b4, some (sBlk (x.cells a) dd), b6]⟩) := fun _ _ _ _ _ _ => rfl
  have ld4 : ∀ G b1 b2 b3 b4 b6, prim ⟨G, [b1, b2, b3, b4, some (sBlk (x.cells a) dd), b6]⟩ (.load 1 false) [.ptr (.l 4) 5 4] = some (a, ⟨G, [b1, b2, b3, b4, some (sBlk (x.cells a) dd), b6]⟩) := fun _ _ _ _ _ _ => rfl
  have j3 : ∀ (e : BitVec 32) L, prim ⟨dj G P q p D (recB J.recs) (jC .o P.p q { J with ep := e }), L⟩ (.load 1 false) [.ptr (.o p) 9 3] = some (.v (u32 e), ⟨dj G P q p D (recB J.recs) (jC .o P.p q { J with ep := e }), L⟩) := fun e L => dj_ld h (i := 3) rfl rfl
  have j4 : ∀ (e : BitVec 32) L, prim ⟨dj G P q p D (recB J.recs) (jC .o P.p q { J with ep := e }), L⟩ (.load 1 false) [.ptr (.o p) 9 4] = some (.v (u32 J.la), ⟨dj G P q p D (recB J.recs) (jC .o P.p q { J with ep := e }), L⟩) := fun e L => dj_ld h (i := 4) rfl rfl
  have j6 : ∀ (e : BitVec 32) L, prim ⟨dj G P q p D (recB J.recs) (jC .o P.p q { J with ep := e }), L⟩ (.load 1 false) [.ptr (.o p) 9 6] = some (.own (.o q) J.recs.length 0 J.recs.length 1 none, ⟨dj G P q p D (recB J.recs) (jC .o P.p q { J with ep := e }), L⟩) := fun e L => dj_ld h (i := 6) rfl rfl
  have s3 : ∀ (e e' : BitVec 32) L, prim ⟨dj G P q p D (recB J.recs) (jC .o P.p q { J with ep := e }), L⟩ (.store 1 false) [.ptr (.o p) 9 3, .v (u32 e')] = some (.v undef, ⟨dj G P q p D (recB J.recs) (jC .o P.p q { J with ep := e' }), L⟩) := fun e e' L => dj_st h (i := 3) rfl (by omega) rfl
  have ls : ∀ (m : Nat) (h : Hp), prim h .lenSlice [.own (.o q) m 0 m 1 none] = some (.v (.int .i64 (m : Nat)), h) := fun m h => rfl
  have ek : ((k : Int) == 0) = decide (k = 0) := by
    by_cases h : k = 0
    · subst h; rfl
    · rw [decide_eq_false h, beq_eq_false_iff_ne]; omega
  have eg : decide ((k : Int) > 0) = !decide (k = 0) := by
    by_cases h : k = 0
    · subst h; rfl
    · rw [decide_eq_false h, decide_eq_true (by omega)]; rfl
  cases ok with
  | false =>
    have hc : (false, ({ J with ep := ep } : JD)) = R := hT'
    rw [← hc]
    simp (disch := first | (simp only [DS, reduceCtorEq]; done) | omega) only [WS, St.guard, St.put, evalO, reduceCtorEq, reduceIte, Nat.reduceAdd, Nat.reduceEqDiff, Bool.not_false, fin_tmp, leave_v]
    simp
  | true =>
    obtain ⟨hin, hxr⟩ := hRk rfl
    have hxl := right_len hxr
    simp only [Bool.true_and] at hT'
    have hc1 : ((x.n.toNat : Int) != (J.recs.length : Int)) = !(x.n.toNat == J.recs.length) := by
      cases h : (x.n.toNat == J.recs.length)
      · rw [beq_eq_false_iff_ne] at h; rw [Bool.not_false, bne_iff_ne]; omega
      · rw [beq_iff_eq] at h; rw [h, bne_self_eq_false]; rfl
    have stop : ∀ (hc : (false, ({ J with ep := ep } : JD)) = R) {X : List (Option Blk)}, (⟨dj G P q p D (recB J.recs) (jC .o P.p q { J with ep := ep }), X⟩ : Hp).leave (.v (.bool false)) = some (.v (.bool R.1), dj G P q p D (recB R.2.recs) (jC .o P.p q R.2)) := fun hc X => by rw [← hc, leave_v]
    cases h1 : (x.n.toNat == J.recs.length) with
    | false =>
      rw [h1] at hT'
      simp (disch := first | (simp only [DS, reduceCtorEq]; done) | omega) only [WS, St.guard, St.put, evalO, reduceCtorEq, reduceIte, Nat.reduceAdd, Nat.reduceEqDiff, Bool.not_true, Bool.not_false, ld1, conv_u32_i64, j6, ls, hc1, h1, fin_tmp]
      refine ⟨by simp, stop hT'⟩
    | true =>
    rw [h1] at hT'
    cases h2 : (x.f == decide (k = 0)) with
    | false =>
      rw [h2] at hT'
      simp (disch := first | (simp only [DS, reduceCtorEq]; done) | omega) only [WS, St.guard, St.put, evalO, reduceCtorEq, reduceIte, Nat.reduceAdd, Nat.reduceEqDiff, Bool.not_true, Bool.not_false, ld1, ld2, conv_u32_i64, j6, ls, hc1, h1, ek, h2, fin_tmp]
      refine ⟨by simp, stop hT'⟩
    | true =>
    rw [h2] at hT'
    cases h3 : decide (x.e.toNat < J.la.toNat) with
    | true =>
      rw [h3] at hT'
      simp (disch := first | (simp only [DS, reduceCtorEq]; done) | omega) only [WS, St.guard, St.put, evalO, reduceCtorEq, reduceIte, Nat.reduceAdd, Nat.reduceEqDiff, Bool.not_true, Bool.not_false, ld0, ld1, ld2, conv_u32_i64, j6, j4, ls, hc1, h1, ek, h2, vBin_lss_u32, h3, fin_tmp]
      refine ⟨by simp, stop hT'⟩
    | false =>
    rw [h3] at hT'
    cases h4 : (decide (k = 0) || x.e == ep) with
    | false =>
      rw [h4] at hT'
      obtain ⟨h5, h6⟩ := Bool.or_eq_false_iff.1 h4
      have h6' : (x.e != ep) = true := by rw [bne, h6]; rfl
      have h7 : x.f = false := by rw [h5] at h2; simpa using h2
      simp (disch := first | (simp only [DS, reduceCtorEq]; done) | omega) only [WS, St.guard, St.put, evalO, reduceCtorEq, reduceIte, Nat.reduceAdd, Nat.reduceEqDiff, Bool.not_true, Bool.not_false, ld0, ld1, ld2, conv_u32_i64, j6, j4, j3, ls, hc1, h1, ek, h2, vBin_lss_u32, h3, eg, h5, h7, vBin_neq_u32, h6', fin_tmp]
      refine ⟨by simp, stop hT'⟩
    | true =>
    rw [h4] at hT'
    simp only [Bool.not_false, Bool.and_true, if_true] at hT'
    have va : ∀ {G b1 b2 b4 b6}, View ⟨G, [b1, b2, accB b, B3, b4, b6]⟩ a 1 x.d.length (x.d.map byteAV) := hat.view rfl
    have ap : ∀ G b1 b2 b4, prim ⟨G, [b1, b2, accB b, B3, b4, none]⟩ (.append 5 false 1 1) [.own (.l 2) b.length 0 b.length 1 none, a] = some (.own (.l 2) (b ++ x.d).length 0 (b ++ x.d).length 1 none, ⟨G, [b1, b2, accB (b ++ x.d), B3, b4, none]⟩) := fun G b1 b2 b4 => by
      have := append_own (G := G) (L := [b1, b2, accB b, B3, b4, none]) (site := 5) (j := 2) (esz := 1) (bytes := 1) (len := b.length) (k := x.d.length) (x := a) (cells := b.map byteAV) (new := x.d.map byteAV) (v := b.isEmpty) rfl (by simp) va bytes_lfs (by omega) (by omega)
      rw [Nat.mul_one, Nat.mul_one, ← List.map_append] at this
      have e : (b ++ x.d).isEmpty = false := by
        cases hd : x.d with
        | nil => rw [hd] at hxl; simp at hxl
        | cons c d => cases b <;> rfl
      unfold accB
      rw [e, List.length_append]
      exact this
    have hap : (b ++ x.d) ≠ [] := by
      intro h; have := congrArg List.length h; simp only [List.length_append, List.length_nil] at this; omega
    have hlen : (b ++ x.d).length ≤ 46 * (k + 1) := by rw [List.length_append]; omega
    by_cases hk0 : k = 0
    case' pos =>
      have h5 : decide (k = 0) = true := decide_eq_true hk0
      have h7 : x.f = true := by rw [h5] at h2; simpa using h2
      simp (disch := first | (simp only [DS, reduceCtorEq]; done) | omega) only [WS, St.guard, St.put, evalO, reduceCtorEq, reduceIte, Nat.reduceAdd, Nat.reduceEqDiff, Bool.not_true, Bool.not_false, ld0, ld1, ld2, ld4, conv_u32_i64, j6, j4, j3, ls, hc1, h1, ek, h7, vBin_lss_u32, h3, eg, h5, vBin_neq_u32, ap, s3, ld3]
    case' neg =>
      have h5 : decide (k = 0) = false := decide_eq_false hk0
      have h7 : x.f = false := by rw [h5] at h2; simpa using h2
      have h6 : (x.e != ep) = false := by rw [h5, Bool.false_or] at h4; rw [bne, h4]; rfl
      simp (disch := first | (simp only [DS, reduceCtorEq]; done) | omega) only [WS, St.guard, St.put, evalO, reduceCtorEq, reduceIte, Nat.reduceAdd, Nat.reduceEqDiff, Bool.not_true, Bool.not_false, ld0, ld1, ld2, ld4, conv_u32_i64, j6, j4, j3, ls, hc1, h1, ek, h7, vBin_lss_u32, h3, eg, h5, vBin_neq_u32, h6, ap, s3, ld3]
    all_goals
      have hk1 : (k : Int) + 1 = ((k + 1 : Nat) : Int) := by omega
      have e1 : at1 = J.used + (k + 1) := by rw [← hat1]; exact (if_pos hin).trans (by omega)
      rw [e1]
      cases hl : x.l with
      | false =>
        rw [hl] at hT'
        simp (disch := first | (simp only [DS, reduceCtorEq]; done) | omega) only [WS, St.guard, St.put, evalO, reduceCtorEq, reduceIte, Nat.reduceAdd, Nat.reduceEqDiff, Bool.false_eq_true, vBin_add_i64, hk1]
        refine ⟨_, f, clear_fre (by simp only [clear_nil, List.foldl_cons, List.foldl_nil, Option.some.injEq, LS, reduceCtorEq, reduceIte, Nat.reduceAdd] <;> rfl) (by rfl) (by rfl) (by rfl), by omega, k + 1, b ++ x.d, x.e, rfl, hT', by omega, by omega, hlen⟩
      | true =>
        rw [hl] at hT'
        simp (disch := first | (simp only [DS, reduceCtorEq]; done) | omega) only [WS, St.guard, St.put, evalO, reduceCtorEq, reduceIte, Nat.reduceAdd, Nat.reduceEqDiff, vBin_add_i64, hk1]
        have gN : ∀ {B cs}, Good ⟨dj G P q p D B cs, [boxB p, atB (J.used + (k + 1)), accB (b ++ x.d), B3, some (sBlk (x.cells a) dd), none]⟩ := fun {B cs} => by
          refine ⟨sBlk_good ?_, sBlk_good rfl, dBlk_good, goodL_opt (fun b hb => hat.good hb) ⟨sBlk_good ?_, trivial⟩⟩
          · simp [AV.labs.labss, AV.labs, refLt, dj_len]; omega
          · have := hat.ref (g := (dj G P q p D B cs).length) (k := 4) (by omega)
            simpa [LeafD.cells, AV.labs.labss, AV.labs] using this
        refine WP_of (op_turn ⟨dj G P q p D (recB (({ J with ep := x.e } : JD).note (b ++ x.d) (k + 1)).recs) (jC .o P.p q (({ J with ep := x.e } : JD).note (b ++ x.d) (k + 1))), [boxB p, atB (J.used + (k + 1)), accB (b ++ x.d), B3, some (sBlk (x.cells a) dd), none]⟩ (r := .tup []) (by
          rw [into_djL h, into_djL h]
          have hio : OOk (⟨G, [boxB p, atB (J.used + (k + 1)), accB (b ++ x.d), B3, some (sBlk (x.cells a) dd), none]⟩ : Hp).into.length P q p D.b.length := by unfold Hp.into; exact h.app
          have en : (b ++ x.d).isEmpty = false := by cases hh : (b ++ x.d) with | nil => exact absurd hh hap | cons => rfl
          have hk2 : (⟨G, [boxB p, atB (J.used + (k + 1)), accB (b ++ x.d), B3, some (sBlk (x.cells a) dd), none]⟩ : Hp).into[G.length + 2]? = some (some (dBlk ((b ++ x.d).map byteAV) true false)) := into_at (k := 2) (by unfold accB; rw [en]; rfl) rfl
          have hA := arg_at (o := true) (Off.of h (show G.length ≤ G.length + 2 by omega)) hk2
          have := note_spec H (D := D) (J := { J with ep := x.e }) hio (k := k + 1) hA hap (by omega) (by show (J.recs.length + 1) * 24 ≤ room; omega) (by show J.used + (k + 1) < 2 ^ 62; omega)
          rw [← dj_len (G := G) (P := P) (q := q) (p := p) (D := D) (B := recB J.recs) (cs := jC .o P.p q { J with ep := x.e })] at this
          exact this) rfl (by simp only [dj_len]) rfl gN gN) ?_
        simp (disch := first | (simp only [DS, reduceCtorEq]; done) | omega) only [WS, St.guard, St.put, evalO, reduceCtorEq, reduceIte, Nat.reduceAdd, Nat.reduceEqDiff, fin_tmp, leave_v]
        rw [← hT']
        simp
end Go.AM
namespace Go.AM
variable {prog : String → Option IFn}
variable {G L : List (Option Blk)} {P : DPos} {D : DskD} {n q p : Nat} {B : Option Blk} {cs : List AV} {J : JD}
structure JOk (D : DskD) (J : JD) : Prop where
  f : J.frm + J.n ≤ D.b.length
  u : J.used ≤ J.n
  r : J.recs.length ≤ J.used
  ne : ∀ b ∈ J.recs, b ≠ [] ∧ b.length ≤ 920000
structure TakeInv (J : JD) (D : DskD) (R : Bool × JD) : Prop where
  ok : JOk D R.2
  n : R.2.n = J.n
  frm : R.2.frm = J.frm
  more : R.1 = true → J.used < R.2.used
  same : R.1 = false → R.2 = { J with ep := R.2.ep }
  dead : R.2.dead = J.dead
theorem tkF_inv (h : JOk D J) (hb : D.b.length ≤ 20000) : ∀ f k b ep, J.used + k ≤ J.n → b.length ≤ 46 * k → TakeInv J D (tkF D J f k b ep)
  | 0, k, b, ep, hk, hbl => ⟨⟨h.f, h.u, h.r, h.ne⟩, rfl, rfl, (fun h => by cases h), fun _ => rfl, rfl⟩
  | f + 1, k, b, ep, hk, hbl => by
    unfold tkF
    split
    · rename_i hN
      unfold lvNext at hN
      simp only [Bool.and_eq_true] at hN
      obtain ⟨hi, hx⟩ := lvOK_right hN.1
      have hxl := right_len hx
      have hf := h.f; have hr := h.r
      split
      · refine ⟨⟨h.f, ?_, ?_, ?_⟩, rfl, rfl, fun _ => ?_, (fun h => by cases h), rfl⟩
        · show J.used + (k + 1) ≤ J.n; omega
        · show (J.recs ++ [_]).length ≤ J.used + (k + 1)
          simp only [List.length_append, List.length_cons, List.length_nil]; omega
        · intro c hc
          have hc' : c ∈ J.recs ++ [b ++ (lvX D J (J.used + k)).d] := hc
          rcases List.mem_append.1 hc' with h' | h'
          · exact h.ne c h'
          · simp only [List.mem_singleton] at h'
            subst h'
            refine ⟨fun e => ?_, ?_⟩
            · have := congrArg List.length e; simp only [List.length_append, List.length_nil] at this; omega
            · rw [List.length_append]; omega
        · show J.used < J.used + (k + 1); omega
      · exact tkF_inv h hb f (k + 1) _ _ (by omega) (by rw [List.length_append]; omega)
    · exact ⟨⟨h.f, h.u, h.r, h.ne⟩, rfl, rfl, (fun h => by cases h), fun _ => rfl, rfl⟩
theorem take_inv (h : JOk D J) (hb : D.b.length ≤ 20000) : TakeInv J D (J.take D) := tkF_inv h hb _ _ _ _ (by have := h.u; omega) (by simp)
def tksF (D : DskD) : Nat → JD → JD
  | 0, J => J
  | f + 1, J => if (J.take D).1 then tksF D f (J.take D).2 else (J.take D).2
def openJ (D : DskD) (frm nn : Nat) (ep : BitVec 32) : JD := { tksF D (nn + 1) (newJ frm nn ep) with ep := ep }
theorem op_noneL {f xs} {sites : List Nat} {r : AV} {h : Hp} (he : Ev prog (.call f (xs.map (AV.ren (up h.G.length))) h.into) (.ret r h.into)) (hr : r.lf = true) (hn : sites.Nodup) (hf : ∀ k ∈ sites, h.L[k]? = some none) (hg : Good h) :
    Ev prog (.op (.call f sites) xs h) (.val r h) := by
  have hfr : sites.all (free h.L) = true := List.all_eq_true.2 fun k hk => free_of_get (hf k hk)
  refine .opCall hg.okBlks he ?_
  have hb := back_into (h := h) (h' := h) (sites := sites) (Bs := []) (r := r) rfl rfl hg.refsOK (by simp) hn hfr hfr
  rw [List.append_nil] at hb
  rw [hb]
  have e : r.ren (down h.G.length h.L.length sites) = r := ren_id fun ℓ hℓ => by rw [lf_of_labs_nil hr] at hℓ; cases hℓ
  rw [e]
  have e2 : ∀ (ks : List Nat) (L : List (Option Blk)), (∀ k ∈ ks, L[k]? = some none) → putAll L ks ((padTo ks.length []).map (Option.map (Blk.ren (down h.G.length h.L.length sites)))) = L := by
    intro ks
    induction ks with
    | nil => intro L _; rfl
    | cons k ks ih =>
      intro L hL
      have hs : L.set k none = L := set_same (hL k (by simp))
      have : putAll L (k :: ks) ((padTo (k :: ks).length []).map (Option.map (Blk.ren (down h.G.length h.L.length sites)))) = putAll (L.set k none) ks ((padTo ks.length []).map (Option.map (Blk.ren (down h.G.length h.L.length sites)))) := by
        simp only [padTo, List.nil_append, List.length_cons, List.length_nil, Nat.sub_zero, List.replicate_succ, List.map_cons, Option.map_none, putAll]
      rw [this, hs]
      exact ih L fun j hj => hL j (by simp [hj])
  rw [e2 sites h.L hf]
def jL (P : DPos) (J : JD) : List AV := jC (fun k => if k = 0 then .l 0 else .o (k - 1)) (P.p + 1) 0 J
def jnL (P : DPos) (J : JD) : List (Option Blk) := [recB J.recs, some (sBlk (jL P J) false)]
theorem jn_ok (h : P.Ok G.length n) : OOk (G ++ [none, none]).length P G.length (G.length + 1) n := by
  obtain ⟨a1, a2, a3, a4, a5, a6, a7, a8, a9, a10⟩ := h
  refine ⟨⟨a1, a2, a3, by rw [List.length_append]; omega, a5, a6, a7, a8, a9, a10⟩, by omega, by simp, by omega, fun k hk => ?_, fun k hk => ?_⟩
  all_goals
    simp only [List.mem_cons, List.not_mem_nil, or_false] at hk
    omega
theorem jn_set (h : P.Ok G.length n) {B : Option Blk} {cs : List AV} : dset G P D ++ [B, some (sBlk cs false)] = dj (G ++ [none, none]) P G.length (G.length + 1) D B cs := by
  have hl := dset_len (G := G) (P := P) (D := D)
  unfold dj oset
  rw [dset_app h, List.set_append_right _ _ (by omega), List.set_append_right _ _ (by rw [hl]; omega), hl, Nat.sub_self, Nat.add_sub_cancel_left]
  rfl
theorem jn_into (h : P.Ok G.length n) : (⟨dset G P D, jnL P J⟩ : Hp).into = dj (G ++ [none, none]) P G.length (G.length + 1) D (recB J.recs) (jC .o P.p G.length J) := by
  rw [← jn_set h]
  unfold Hp.into
  rw [dset_len]
  rfl
theorem jn_good (h : P.Ok G.length n) : Good ⟨dset G P D, jnL P J⟩ := by
  have := h.hp
  refine ⟨dBlk_good, sBlk_good ?_, trivial⟩
  simp [jL, jC_labs, refLt, dset_len]; omega
set_option maxHeartbeats 1000000 in
theorem openJ_ok (H : JourLib prog) {frm nn : Nat} {ep : BitVec 32} (h : P.Ok G.length D.b.length) (hl : D.b.length ≤ 20000) (hE : newE D frm nn ep = 0) :
    Ev prog (.call "haberdash/journal.Open" [.ptr (.o P.p) 5 0, .v (.int .i64 (frm : Nat)), .v (.int .i64 (nn : Nat)), .v (u32 ep)] (dset G P D)) (.ret (.tup [.ptr (.o (G.length + 1)) 9 0, .v (.int .i64 0)]) (dset G P D ++ newJO G.length P.p (openJ D frm nn ep))) := by
  refine call_of_fin H.jopen ?_
  simp only [f_journal_Open_B, enter, List.length_cons, List.length_nil, List.replicate, Nat.reduceAdd, Nat.reduceSub, List.cons_append, List.nil_append]
  have hp := h.hp
  have hoff : D.off = false ∧ frm + nn ≤ D.b.length := by
    unfold newE at hE
    by_cases c : (frm : Int) < 0 ∨ (nn : Int) < 1 ∨ (nn : Int) > (D.b.length : Int) - frm ∨ ep = 0#32
    · rw [if_pos c] at hE; omega
    · rw [if_neg c] at hE
      refine ⟨by cases h : D.off; rfl; rw [h] at hE; simp at hE, by omega⟩
  obtain ⟨ho, hfn⟩ := hoff
  have d2 : Dat [(none : Option Blk), none] := by intro B hB b e; subst e; simp at hB
  have gd : Good ⟨dset G P D, [none, none]⟩ := goodX d2
  have il : (⟨dset G P D, [none, none]⟩ : Hp).into = dset (G ++ [none, none]) P D := by rw [into_dat d2, dset_app h]
  have hil : (⟨dset G P D, [none, none]⟩ : Hp).into.length = G.length + 2 := by rw [il, dset_len, List.length_append]; rfl
  obtain ⟨T, hT⟩ : ∃ T, tksF D (nn + 1) (newJ frm nn ep) = T := ⟨_, rfl⟩
  have hO : openJ D frm nn ep = { T with ep := ep } := by unfold openJ; rw [hT]
  simp (disch := first | (simp only [DS, reduceCtorEq]; done) | omega) only [WS, St.guard, St.put, evalO, reduceCtorEq, reduceIte, Nat.reduceAdd, Nat.reduceEqDiff]
  have hnew : Ev prog (.op (.call "haberdash/journal.New" [0, 1]) [.ptr (.o P.p) 5 0, .v (.int .i64 (frm : Nat)), .v (.int .i64 (nn : Nat)), .v (u32 ep)] ⟨dset G P D, [none, none]⟩) (.val (.tup [.ptr (.l 1) 9 0, .v (.int .i64 0)]) ⟨dset G P D, jnL P (newJ frm nn ep)⟩) := by
    refine op_obj (h := ⟨dset G P D, [none, none]⟩) (Bq := dBlk (recE.row []) true true) (cs := jC .o P.p (G.length + 2) (newJ frm nn ep)) (cs2 := jL P (newJ frm nn ep)) (fun a => .tup [a, .v (.int .i64 0)]) (fun ρ a => rfl) ?_ (by omega) rfl rfl gd rfl ?_
    · rw [hil, il]
      have := newJ_ok H (G := G ++ [none, none]) (P := P) (D := D) (frm := frm) (nn := nn) (ep := ep) h.app hl hE
      have e2 : (G ++ [none, none]).length = G.length + 2 := by simp
      rw [e2] at this
      exact this
    · have d0 : down (dset G P D).length 2 [0, 1] (.o P.p) = some (.o P.p) := by simp only [down, dset_len]; rw [if_pos (by omega)]
      have d1 : down (dset G P D).length 2 [0, 1] (.o (G.length + 2)) = some (.l 0) := by simp only [down, dset_len]; rw [if_neg (by omega), if_neg (by omega)]; simp
      show AV.ren.rens (down (dset G P D).length 2 [0, 1]) _ = _
      simp only [jC, AV.ren.rens, AV.ren, d0, d1]
      rfl
  refine WP_of hnew ?_
  simp (disch := first | (simp only [DS, reduceCtorEq]; done) | omega) only [WS, St.guard, St.put, evalO, reduceCtorEq, reduceIte, Nat.reduceAdd, Nat.reduceEqDiff, Int.reduceBNe]
  refine WC_loop (Inv := fun m st => ∃ J, st = ⟨f_journal_Open_H0 (.v (u32 ep)) (.ptr (.l 1) 9 0), ⟨dset G P D, jnL P J⟩⟩ ∧ tksF D m J = T ∧ JOk D J ∧ J.n = nn ∧ J.frm = frm ∧ nn + 1 ≤ m + J.used)
    (nn + 1) ⟨_, clear_nil, newJ frm nn ep, ?_, hT, ⟨hfn, Nat.zero_le _, Nat.zero_le _, by intro b hb; cases hb⟩, rfl, rfl, Nat.le_add_right _ _⟩ ?_
  · simp only [clear_nil, List.foldl_cons, List.foldl_nil, Option.some.injEq, LS, reduceCtorEq, reduceIte, Nat.reduceAdd]
    rfl
  rintro m st ⟨J, rfl, hTm, hJ, hn, hfr, hm⟩
  have hu := hJ.u
  obtain ⟨f, rfl⟩ : ∃ f, m = f + 1 := ⟨m - 1, by omega⟩
  have I := take_inv hJ hl
  have hT' : (if (J.take D).1 then tksF D f (J.take D).2 else (J.take D).2) = T := hTm
  have hev := take_spec H (jn_ok h) ho hJ.f hl hJ.u hJ.r
  generalize J.take D = R at *
  obtain ⟨t, J'⟩ := R
  simp only at hT' hev I
  simp (disch := first | (simp only [DS, reduceCtorEq]; done) | omega) only [f_journal_Open_L0, f_journal_Open_H0, WS, St.guard, St.put, evalO, reduceCtorEq, reduceIte, Nat.reduceAdd, Nat.reduceEqDiff]
  refine WP_of (op_turn ⟨dset G P D, jnL P J'⟩ (r := .v (.bool t)) (by
    rw [jn_into h, jn_into h]
    have : [AV.ptr (.l 1) 9 0].map (AV.ren (up (⟨dset G P D, jnL P J⟩ : Hp).G.length)) = [.ptr (.o (G.length + 1)) 9 0] := by
      show [AV.ptr (.o ((dset G P D).length + 1)) 9 0] = _
      rw [dset_len]
    rw [this]
    exact hev) rfl rfl rfl (jn_good h) (jn_good h)) ?_
  cases t with
  | true =>
    rw [if_pos rfl] at hT'
    have hmore := I.more rfl
    simp only at hmore
    simp (disch := first | (simp only [DS, reduceCtorEq]; done) | omega) only [WS, St.guard, St.put, evalO, reduceCtorEq, reduceIte, Nat.reduceAdd, Nat.reduceEqDiff]
    refine ⟨_, f, clear_nil, by omega, J', ?_, hT', I.ok, by rw [I.n]; exact hn, by rw [I.frm]; exact hfr, by omega⟩
    simp only [clear_nil, List.foldl_cons, List.foldl_nil, Option.some.injEq, LS, reduceCtorEq, reduceIte, Nat.reduceAdd]
  | false =>
    rw [if_neg (by simp)] at hT'
    subst hT'
    have ld : ∀ J, prim ⟨dset G P D, jnL P J⟩ (.store 1 false) [.ptr (.l 1) 9 3, .v (u32 ep)] = some (.v undef, ⟨dset G P D, jnL P { J with ep := ep }⟩) := fun J =>
      store_f (j := 1) (n := 9) (off := 3) (cells := jL P J) (d := false) rfl rfl rfl (by omega)
    simp (disch := first | (simp only [DS, reduceCtorEq]; done) | omega) only [WS, St.guard, St.put, evalO, reduceCtorEq, reduceIte, Nat.reduceAdd, Nat.reduceEqDiff, ld, fin_tmp2]
    refine ⟨by simp, ?_⟩
    rw [hO]
    have hlen := dset_len (G := G) (P := P) (D := D)
    have := leave_obj (G := dset G P D) (A := dBlk (recE.row J'.recs) true J'.recs.isEmpty) rfl (cs := jL P { J' with ep := ep }) (m := P.p) (cs' := jC .o P.p (dset G P D).length { J' with ep := ep }) (X := [])
      (fun a => .tup [a, .v (.int .i64 0)]) (fun ρ a => rfl) (fun a => by simp [AV.labs, AV.labs.labss]) (fun ℓ hℓ => by
        simp only [jL, jC_labs] at hℓ
        simp at hℓ
        rcases hℓ with rfl | rfl
        · exact .inr ⟨_, rfl, by omega⟩
        · exact .inl rfl) rfl (by omega) rfl rfl
    refine this.trans ?_
    rw [hlen]
    rfl
end Go.AM
namespace Go.AM
variable {prog : String → Option IFn}
variable {G L : List (Option Blk)} {P : DPos} {D : DskD} {n q p : Nat} {B : Option Blk} {cs : List AV} {J : JD}
def newYO (g pd : Nat) (J : JD) : List (Option Blk) := [recB J.recs, some (sBlk (yC .o pd g J) false)]
section
variable (hf : prog "haberdash/haberdashref06.Blank" = some f_ref06_Blank)
include hf
theorem blank_ok {frm nn : Nat} {ep : BitVec 32} (h : P.Ok G.length D.b.length) (hl : D.b.length ≤ 20000) (hE : newE D frm nn ep = 0) :
    Ev prog (.call "haberdash/haberdashref06.Blank" [.ptr (.o P.p) 5 0, .v (.int .i64 (frm : Nat)), .v (.int .i64 (nn : Nat)), .v (u32 ep)] (dset G P D.sw)) (.ret (.tup [.ptr (.o (G.length + 1)) 8 0, .v (.int .i64 0)]) (dset G P D.sw ++ newYO G.length P.p (newJ frm nn ep))) := by
  refine call_of_fin hf ?_
  simp only [f_ref06_Blank_B, enter, List.length_cons, List.length_nil, List.replicate, Nat.reduceAdd, Nat.reduceSub, List.cons_append, List.nil_append]
  have ln : ∀ L, prim ⟨dset G P D.sw, L⟩ .lenSlice [dav0 .o P D.sw] = some (.v (.int .i64 (D.b.length : Nat)), ⟨dset G P D.sw, L⟩) := fun L => rfl
  unfold newE at hE
  by_cases hc : (frm : Int) < 0 ∨ (nn : Int) < 1 ∨ (nn : Int) > (D.b.length : Int) - frm ∨ ep = 0#32
  · rw [if_pos hc] at hE; omega
  rw [if_neg hc] at hE
  simp only [not_or] at hc
  obtain ⟨c1, c2, c3, c4⟩ := hc
  have c0 : ¬ (frm : Int) > (D.b.length : Int) := by omega
  have ho : D.sw.off = false := by show D.off = false; cases h : D.off; rfl; rw [h] at hE; simp at hE
  have c4d : decide (ep = 0#32) = false := decide_eq_false c4
  have hp := h.hp
  have bd : ∀ h : Hp, prim h (.build [.pointer none, .int .i64 0, .int .i64 0, .int .u32 0, .slice none 0 0, .int .u32 0, .int .i64 0, .bool false] [(0, 1), (1, 1), (2, 1), (3, 1)]) [.ptr (.o P.p) 5 0, .v (.int .i64 (frm : Nat)), .v (.int .i64 (nn : Nat)), .v (u32 ep)] =
    some (.agg [.ptr (.o P.p) 5 0, .v (.int .i64 (frm : Nat)), .v (.int .i64 (nn : Nat)), .v (u32 ep), .v (.slice none 0 0), .v (.int .u32 0), .v (.int .i64 0), .v (.bool false)], h) := fun h => rfl
  have bk : ∀ G, prim ⟨G, [none, none]⟩ (.boxK 1 [(4, 0, 1)]) [.agg [.ptr (.o P.p) 5 0, .v (.int .i64 (frm : Nat)), .v (.int .i64 (nn : Nat)), .v (u32 ep), .v (.slice none 0 0), .v (.int .u32 0), .v (.int .i64 0), .v (.bool false)]] =
    some (.ptr (.l 1) 8 0, ⟨G, [recB [], some (sBlk (yC (fun k => if k = 0 then .l 0 else .o (k - 1)) (P.p + 1) 0 (newJ frm nn ep)) false)]⟩) := fun G => rfl
  simp (disch := first | (simp only [DS, reduceCtorEq]; done) | omega) only [WS, St.guard, St.put, evalO, reduceCtorEq, reduceIte, Nat.reduceAdd, Nat.reduceEqDiff, isNilV, Hp.isNil, c1, c2, d_ld0 h, ln, c0, vBin_sub_i64, c3, u32_eq0, c4d, decide_false, d_ld3 h, ho, bd, bk, fin_tmp2]
  refine ⟨by simp, ?_⟩
  have hlen := dset_len (G := G) (P := P) (D := D.sw)
  have := leave_obj (G := dset G P D.sw) (A := dBlk (recE.row []) true true) rfl (cs := yC (fun k => if k = 0 then .l 0 else .o (k - 1)) (P.p + 1) 0 (newJ frm nn ep)) (m := P.p) (cs' := yC .o P.p (dset G P D.sw).length (newJ frm nn ep)) (X := [])
    (fun a => .tup [a, .v (.int .i64 0)]) (fun ρ a => rfl) (fun a => by simp [AV.labs, AV.labs.labss]) (fun ℓ hℓ => by
      simp only [yC, AV.labs.labss, AV.labs] at hℓ
      simp at hℓ
      rcases hℓ with rfl | rfl
      · exact .inr ⟨_, rfl, by omega⟩
      · exact .inl rfl) rfl (by omega) rfl rfl
  refine this.trans ?_
  rw [hlen]
  rfl
end
end Go.AM
