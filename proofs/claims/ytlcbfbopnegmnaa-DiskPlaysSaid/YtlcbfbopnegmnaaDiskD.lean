import Derived.Test.YtlcbfbopnegmnaaDiskC
import Derived.Test.YtlcbfbopnegmnaaDiskB
set_option linter.unusedVariables false
set_option linter.unusedSimpArgs false
namespace Go.AM
variable {prog : String → Option IFn}
variable {G L : List (Option Blk)} {P : DPos} {D : DskD} {n : Nat}
theorem keepAt_nil : keepAt [] = fun _ => (0 : Int) := by funext i; unfold keepAt; rfl
theorem refStart_spec (H : RefDisk prog) (h : P.Ok G.length D.b.length) (hl : D.l.length = D.b.length) (hb : D.a.length = D.b.length) (hN : D.b.length ≤ 20000) :
    Ev prog (.call "(*haberdash/haberdashref06.Disk).Start" [.ptr (.o P.p) 5 0] (dset G P D.sw)) (.ret (.tup []) (dset G P D.start.sw)) := by
  refine call_of_fin H.start ?_
  simp only [f___ref06_Disk__Start_B, enter, List.length_cons, List.length_nil, List.replicate, Nat.reduceAdd, Nat.reduceSub, List.cons_append, List.nil_append]
  simp (disch := first | (simp only [ne_eq, reduceCtorEq, not_false_eq_true, implies_true, List.getElem?_cons_zero, List.getElem?_cons_succ]; done) | omega) only [WS, St.guard, St.put, evalO, reduceCtorEq, reduceIte, Nat.reduceAdd, Nat.reduceEqDiff, d_ld3 h]
  cases hoff : D.off
  · have e : D.start = D := by unfold DskD.start; rw [hoff]; rfl
    have e2 : D.sw.off = false := hoff
    rw [e, e2]
    simp (disch := first | (simp only [ne_eq, reduceCtorEq, not_false_eq_true, implies_true, List.getElem?_cons_zero, List.getElem?_cons_succ]; done) | omega) only [WS, St.guard, St.put, evalO, reduceCtorEq, reduceIte, Nat.reduceAdd, Nat.reduceEqDiff]
    exact ⟨.inl trivial, fin_nil⟩
  · have e : D.start = { D.crash [] with off := false } := by unfold DskD.start DskD.crash; rw [hoff, keepAt_nil]; rfl
    have e2 : D.sw.off = true := hoff
    rw [e, e2]
    simp (disch := first | (simp only [ne_eq, reduceCtorEq, not_false_eq_true, implies_true, List.getElem?_cons_zero, List.getElem?_cons_succ]; done) | omega) only [WS, St.guard, St.put, evalO, reduceCtorEq, reduceIte, Nat.reduceAdd, Nat.reduceEqDiff]
    refine WP_of (op_turn ⟨dset G P (D.crash []).sw, []⟩ (by
      have := refCrash_spec H (D := D) (P := P) (h.app (X := [])) hl hb hN (a := .v (.slice none 0 0)) (ks := []) (fun h => view_nil (by omega))
      rw [dset_app h, dset_app h] at this
      exact this) rfl (by simp [dset_len]) rfl trivial trivial) ?_
    simp (disch := first | (simp only [ne_eq, reduceCtorEq, not_false_eq_true, implies_true, List.getElem?_cons_zero, List.getElem?_cons_succ]; done) | omega) only [WS, St.guard, St.put, evalO, reduceCtorEq, reduceIte, Nat.reduceAdd, Nat.reduceEqDiff, d_st3 h]
    exact ⟨.inl trivial, fin_nil⟩
theorem refNew_spec (H : RefDisk prog) {G} {N : Nat} (h1 : 1 ≤ N) (h2 : N ≤ 20000) :
    Ev prog (.call "haberdash/haberdashref06.New" [.v (.int .i64 (N : Nat))] G) (.ret (.ptr (.o (G.length + 3)) 5 0) (G ++ newO G.length (some N) (some N) (some N) false (newD N))) := by
  refine call_of_fin H.new ?_
  have hroom : room = 140737488355328 := rfl
  simp only [f_ref06_New_B, enter, List.length_cons, List.length_nil, List.replicate, Nat.reduceAdd, Nat.reduceSub, List.cons_append, List.nil_append]
  simp (disch := first | (simp only [ne_eq, reduceCtorEq, not_false_eq_true, implies_true, List.getElem?_cons_zero, List.getElem?_cons_succ]; done) | omega) only [WS, St.guard, St.put, evalO, reduceCtorEq, reduceIte, Nat.reduceAdd, Nat.reduceEqDiff]
  refine WDP_er (by exact trivial) rfl ?_
  have m0 := make_T (T := secE) (G := G) (L := [none, none, none, none]) (site := 0) (bytes := 64) (n := N) (k := .i64) (k' := .i64) (z := zeros64) (x0 := zsec) zeros64_map.symm rfl (by omega) (by omega)
  have m1 := make_T (T := secE) (G := G) (L := [none, none, none, none]) (site := 1) (bytes := 64) (n := N) (k := .i64) (k' := .i64) (z := zeros64) (x0 := zsec) zeros64_map.symm rfl (by omega) (by omega)
  have m2 := make_T (T := booE) (G := G) (L := [none, none, none, none]) (site := 2) (bytes := 1) (n := N) (k := .i64) (k' := .i64) (z := [.bool false]) (x0 := false) rfl rfl (by omega) (by omega)
  simp (disch := first | (simp only [ne_eq, reduceCtorEq, not_false_eq_true, implies_true, List.getElem?_cons_zero, List.getElem?_cons_succ]; done) | omega) only [WDX_some, reduceIte, if_true, if_false, Bool.and_true, Bool.true_and, true_and, Bool.false_eq_true, false_or, true_or, Hp.over, AM.over, over_nil, List.foldl_cons, List.foldl_nil, List.set_cons_zero, List.set_cons_succ, List.getElem?_cons_zero, List.getElem?_cons_succ, Option.join_some, List.length_cons, List.length_nil, Prim.sites, List.cons_append, List.nil_append]
  refine ⟨_, _, m0, rfl, .inr ⟨rfl, ?_⟩, ?_⟩
  · exact ⟨dBlk_good, trivial⟩
  simp (disch := first | (simp only [ne_eq, reduceCtorEq, not_false_eq_true, implies_true, List.getElem?_cons_zero, List.getElem?_cons_succ]; done) | omega) only [WS, St.guard, St.put, evalO, reduceCtorEq, reduceIte, Nat.reduceAdd, Nat.reduceEqDiff, WDX_some, reduceIte, if_true, if_false, Bool.and_true, Bool.true_and, true_and, Bool.false_eq_true, false_or, true_or, Hp.over, AM.over, over_nil, List.foldl_cons, List.foldl_nil, List.set_cons_zero, List.set_cons_succ, List.getElem?_cons_zero, List.getElem?_cons_succ, Option.join_some, List.length_cons, List.length_nil, Prim.sites, List.cons_append, List.nil_append]
  refine WDP_er (by exact ⟨dBlk_good, trivial⟩) rfl ?_
  refine ⟨_, _, m1, rfl, .inr ⟨rfl, ?_⟩, ?_⟩
  · exact ⟨dBlk_good, dBlk_good, trivial⟩
  simp (disch := first | (simp only [ne_eq, reduceCtorEq, not_false_eq_true, implies_true, List.getElem?_cons_zero, List.getElem?_cons_succ]; done) | omega) only [WS, St.guard, St.put, evalO, reduceCtorEq, reduceIte, Nat.reduceAdd, Nat.reduceEqDiff, WDX_some, reduceIte, if_true, if_false, Bool.and_true, Bool.true_and, true_and, Bool.false_eq_true, false_or, true_or, Hp.over, AM.over, over_nil, List.foldl_cons, List.foldl_nil, List.set_cons_zero, List.set_cons_succ, List.getElem?_cons_zero, List.getElem?_cons_succ, Option.join_some, List.length_cons, List.length_nil, Prim.sites, List.cons_append, List.nil_append]
  refine WDP_er (by exact ⟨dBlk_good, dBlk_good, trivial⟩) rfl ?_
  refine ⟨_, _, m2, rfl, .inr ⟨rfl, ?_⟩, ?_⟩
  · exact ⟨dBlk_good, dBlk_good, dBlk_good, trivial⟩
  simp (disch := first | (simp only [ne_eq, reduceCtorEq, not_false_eq_true, implies_true, List.getElem?_cons_zero, List.getElem?_cons_succ]; done) | omega) only [WS, St.guard, St.put, evalO, reduceCtorEq, reduceIte, Nat.reduceAdd, Nat.reduceEqDiff, WDX_some, reduceIte, if_true, if_false, Bool.and_true, Bool.true_and, true_and, Bool.false_eq_true, false_or, true_or, Hp.over, AM.over, over_nil, List.foldl_cons, List.foldl_nil, List.set_cons_zero, List.set_cons_succ, List.getElem?_cons_zero, List.getElem?_cons_succ, Option.join_some, List.length_cons, List.length_nil, Prim.sites, List.cons_append, List.nil_append]
  have bd : ∀ h : Hp, prim h (.build [.slice none 0 0, .slice none 0 0, .slice none 0 0, .bool false, .int .i64 0] [(0, 1), (1, 1), (2, 1)]) [.own (.l 0) (N * secE.esz) 0 N secE.esz (some N), .own (.l 1) (N * secE.esz) 0 N secE.esz (some N), .own (.l 2) (N * booE.esz) 0 N booE.esz (some N)] =
      some (.agg [.own (.l 0) (N * secE.esz) 0 N secE.esz (some N), .own (.l 1) (N * secE.esz) 0 N secE.esz (some N), .own (.l 2) (N * booE.esz) 0 N booE.esz (some N), .v (.bool false), .v (.int .i64 0)], h) := fun h => rfl
  simp (disch := first | (simp only [ne_eq, reduceCtorEq, not_false_eq_true, implies_true, List.getElem?_cons_zero, List.getElem?_cons_succ]; done) | omega) only [WS, St.guard, St.put, evalO, reduceCtorEq, reduceIte, Nat.reduceAdd, Nat.reduceEqDiff, bd]
  refine WDP_of (.prim (box_s (by exact rfl))) (by exact ⟨dBlk_good, dBlk_good, dBlk_good, trivial⟩) (by exact ⟨dBlk_good, dBlk_good, dBlk_good, sBlk_good rfl, trivial⟩) rfl rfl ?_
  simp (disch := first | (simp only [ne_eq, reduceCtorEq, not_false_eq_true, implies_true, List.getElem?_cons_zero, List.getElem?_cons_succ]; done) | omega) only [WS, St.guard, St.put, evalO, reduceCtorEq, reduceIte, Nat.reduceAdd, Nat.reduceEqDiff, fin_tmp, or_true]
  have := leave_dsk (G := G) (A := dBlk (secE.row (List.replicate N zsec)) false false) (B := dBlk (secE.row (List.replicate N zsec)) false false) (E := dBlk (booE.row (List.replicate N false)) false false) rfl rfl rfl (n0 := N * secE.esz) (f0 := 0) (l0 := N) (e0 := secE.esz) (c0 := some N)
    (n1 := N * secE.esz) (f1 := 0) (l1 := N) (e1 := secE.esz) (c1 := some N) (n2 := N * booE.esz) (f2 := 0) (l2 := N) (e2 := booE.esz) (c2 := some N) (x := .bool false) (y := .int .i64 0) (fun a => a) (fun ρ a => rfl) (fun a => rfl)
  refine this.trans ?_
  simp only [newO, newD, newP, dobj, dobjC, dav0, dav1, dav2, List.length_replicate]
  rfl
def cloneB (esz bytes : Nat) (z : List Value) : ICode :=
  (.seq (.ops [⟨some 2, .id, [.c (.slice none 0 0)], none, [], [], false⟩])
    (.seq
      (.seq (.ops [⟨some 3, .id, [.t 0], none, [], [], false⟩, ⟨some 4, .eqNil false .slice, [.t 3, .c (.slice none 0 0)], none, [], [], false⟩])
        (.cond (.t 4) (.seq (.ops [⟨some 2, .id, [.c (.slice none 0 0)], none, [], [], false⟩]) .ret) .skip))
      (.seq
        (.ops [⟨some 5, .buildSlice 0 false esz 0 z [], [], none, [], [], false⟩, ⟨some 6, .id, [.t 0], none, [], [], false⟩,
          ⟨some 7, .append 1 false esz bytes, [.t 5, .t 6], none, [], [], false⟩, ⟨some 2, .id, [.t 7], none, [], [], false⟩])
        .ret)))
theorem build0T {G L} {site esz : Nat} {z : List Value} (hL : L[site]? = some none) : prim ⟨G, L⟩ (.buildSlice site false esz 0 z []) [] = some (.own (.l site) 0 0 0 esz (some 0), ⟨G, L.set site (some (dBlk [] false false))⟩) := by
  simp only [px_buildSlice, Hp.mayFreeze, Bool.false_eq_true, if_false, Option.bind_some, List.replicate_zero, List.flatten_nil, fills, Nat.zero_mul, List.length_nil, if_true, Hp.new, hL, Option.map_some]
  rfl
theorem append_cap0T {G L} {site j bytes k esz : Nat} {x : AV} {new : List AV} (hL : L[j]? = some (some (dBlk [] false false))) (hs : L[site]? = some none) (hv : View ⟨G, L⟩ x esz k new) (hd : AV.lf.lfs new = true) (h0 : 0 < k) (hr : k * bytes ≤ room) :
    prim ⟨G, L⟩ (.append site false esz bytes) [.own (.l j) 0 0 0 esz (some 0), x] = some (.own (.l site) (k * esz) 0 k esz none, ⟨G, L.set site (some (dBlk new true false))⟩) := by
  simp only [prim, hv.source, Option.bind_some, Hp.mayFreeze, Bool.false_eq_true, if_false, Hp.append, hv.hclen, if_true, Hp.get, hL, Option.join_some, dBlk_cells, Nat.zero_add]
  refine (if_pos ⟨rfl, trivial, hr, rfl⟩).trans ?_
  rw [if_neg (by omega), if_neg (by omega)]
  simp only [Hp.new, hs, Option.map_some, dBlk, hd, Nat.zero_mul, List.take_zero, List.drop_zero, List.nil_append, Bool.and_self]
theorem CloneT {nm} {esz bytes : Nat} {z : List Value} (hf : prog nm = some ⟨8, 2, [.tmp 2], cloneB esz bytes z⟩) {G a} {k : Nat} {new : List AV} (w : ∀ L, View ⟨G, L⟩ a esz k new) (hd : AV.lf.lfs new = true) (hn : ∀ L, (⟨G, L⟩ : Hp).isNil .slice a = some false) (h0 : 0 < k) (hr : k * bytes ≤ room) :
    Ev prog (.call nm [a] G) (.ret (.own (.o G.length) (k * esz) 0 k esz none) (G ++ [some (dBlk new true false)])) := by
  refine call_of_fin hf ?_
  simp only [cloneB, enter, List.length_cons, List.length_nil, List.replicate, Nat.reduceAdd, Nat.reduceSub, List.cons_append, List.nil_append]
  simp (disch := first | (simp only [ne_eq, reduceCtorEq, not_false_eq_true, implies_true]; done) | omega) only [WS, St.guard, St.put, evalO, reduceCtorEq, reduceIte, Nat.reduceAdd, Nat.reduceEqDiff, isNilV, hn]
  rw [build0T rfl]
  simp (disch := first | (simp only [ne_eq, reduceCtorEq, not_false_eq_true, implies_true]; done) | omega) only [WS, St.guard, St.put, evalO, reduceCtorEq, reduceIte, Nat.reduceAdd, Nat.reduceEqDiff]
  rw [append_cap0T (j := 0) (site := 1) rfl rfl (w _) hd h0 hr]
  simp (disch := first | (simp only [ne_eq, reduceCtorEq, not_false_eq_true, implies_true]; done) | omega) only [WS, St.guard, St.put, evalO, reduceCtorEq, reduceIte, Nat.reduceAdd, Nat.reduceEqDiff, fin_tmp]
  exact ⟨by simp, leave_own1 (j := 1) rfl rfl⟩
end Go.AM
namespace Go.AM
variable {prog : String → Option IFn}
variable {G L : List (Option Blk)} {P : DPos} {D : DskD} {n : Nat}
structure ForkLib (prog : String → Option IFn) : Prop where
  fork : prog "(*haberdash/disk.Disk).Fork" = some f___disk_Disk__Fork
  clone64 : prog "slices.Clone[[][64]byte,[64]byte]" = some f_slices_Clone____64_byte__64_byte_
  cloneb : prog "slices.Clone[[]bool,bool]" = some f_slices_Clone___bool_bool_
theorem ForkLib.c64 (H : ForkLib prog) : prog "slices.Clone[[][64]byte,[64]byte]" = some ⟨8, 2, [.tmp 2], cloneB 64 64 zeros64⟩ := H.clone64.trans (congrArg some rfl)
theorem ForkLib.cb (H : ForkLib prog) : prog "slices.Clone[[]bool,bool]" = some ⟨8, 2, [.tmp 2], cloneB 1 1 [.bool false]⟩ := H.cloneb.trans (congrArg some rfl)
theorem clone_op {α : Type} {T : Enc α} {nm} {bytes : Nat} {z : List Value} (hf : prog nm = some ⟨8, 2, [.tmp 2], cloneB T.esz bytes z⟩) {h : Hp} {a : AV} {xs : List α} {site : Nat} (v : TView T h a xs)
    (hn : ∀ L, (⟨h.into, L⟩ : Hp).isNil .slice (a.ren (up h.G.length)) = some false) (h0 : 0 < xs.length) (hr : xs.length * bytes ≤ room) (hs : h.L[site]? = some none) (hg : Good h) :
    Ev prog (.op (.call nm [site]) [a] h) (.val (.own (.l site) (xs.length * T.esz) 0 xs.length T.esz none) ⟨h.G, h.L.set site (some (dBlk (T.row xs) true false))⟩) := by
  refine op_news (Bs := [some (dBlk (T.row xs) true false)]) (CloneT hf (v.into) (T.row_lf _) hn h0 hr) (fun B hB b e => ?_) rfl (by simp) (by simp [free_of_get hs]) hg ?_
  · subst e; simp at hB; subst hB; rfl
  · simp only [AV.ren, down_into0]; rfl
theorem isNil_o {p n off len esz : Nat} {cap} {cells : List AV} {o : Bool} {h : Hp} (hp : h.into[p]? = some (some (dBlk cells o false))) (hl : cells.length = n) (L : List (Option Blk)) :
    (⟨h.into, L⟩ : Hp).isNil .slice ((AV.own (.o p) n off len esz cap).ren (up h.G.length)) = some false := by
  refine isNil_own (B := dBlk cells o false) ?_ hl
  simp only [Hp.get, hp]; rfl
theorem Fork_spec (H : ForkLib prog) (h : P.Ok G.length D.b.length) (hl : D.l.length = D.b.length) (hb : D.a.length = D.b.length) (hN : D.b.length ≤ 20000) (h0 : 0 < D.b.length) :
    Ev prog (.call "(*haberdash/disk.Disk).Fork" [.ptr (.o P.p) 5 0] (dset G P D)) (.ret (.ptr (.o (G.length + 3)) 5 0) (dset G P D ++ newO G.length none none none true D)) := by
  refine call_of_fin H.fork ?_
  have hroom : room = 140737488355328 := rfl
  have hp := h.hp; have hq0 := h.h0; have hq1 := h.h1; have hq2 := h.h2
  have hlen := dset_len (G := G) (P := P) (D := D)
  simp only [f___disk_Disk__Fork_B, enter, List.length_cons, List.length_nil, List.replicate, Nat.reduceAdd, Nat.reduceSub, List.cons_append, List.nil_append]
  have ld5 : ∀ L, prim ⟨dset G P D, L⟩ (.load 5 true) [.ptr (.o P.p) 5 0] = some (.agg (dobjC .o P D), ⟨dset G P D, L⟩) := fun L => by rw [px_load_o, dset_p h]; rfl
  have al : ∀ G, prim ⟨G, [none, none, none, none]⟩ (.alloc 3 [.slice none 0 0, .slice none 0 0, .slice none 0 0, .bool false, .int .i64 0] []) [] = some (.ptr (.l 3) 5 0, ⟨G, [none, none, none, some (dBlk [.v (.slice none 0 0), .v (.slice none 0 0), .v (.slice none 0 0), .v (.bool false), .v (.int .i64 0)] false false)]⟩) := fun G => rfl
  have st5 : prim ⟨dset G P D, [none, none, none, some (dBlk [.v (.slice none 0 0), .v (.slice none 0 0), .v (.slice none 0 0), .v (.bool false), .v (.int .i64 0)] false false)]⟩ (.store 5 false) [.ptr (.l 3) 5 0, .agg (dobjC .o P D)] =
      some (.v undef, ⟨dset G P D, [none, none, none, some (sBlk (dobjC .o P D) false)]⟩) := rfl
  simp (disch := first | (simp only [ne_eq, reduceCtorEq, not_false_eq_true, implies_true, List.getElem?_cons_zero, List.getElem?_cons_succ]; done) | omega) only [WS, St.guard, St.put, evalO, reduceCtorEq, reduceIte, Nat.reduceAdd, Nat.reduceEqDiff, isNilV, Hp.isNil, ld5, al, st5, d_ld0 h]
  have gS : ∀ (A B C : Option Blk) (cells : List AV), (∀ b, A = some b → b.labs = []) → (∀ b, B = some b → b.labs = []) → (∀ b, C = some b → b.labs = []) → (AV.labs.labss cells).all (refLt (dset G P D).length 3) = true →
      Good ⟨dset G P D, [A, B, C, some (sBlk cells false)]⟩ := fun A B C cells hA hB hC hc => goodD hA (goodD hB (goodD hC ⟨sBlk_good hc, trivial⟩))
  have dn : ∀ b, (none : Option Blk) = some b → b.labs = [] := fun b e => by cases e
  have dd : ∀ (cells : List AV) b, (some (dBlk cells true false) : Option Blk) = some b → b.labs = [] := fun cells b e => by cases e; rfl
  have c0 : (AV.labs.labss (dobjC .o P D)).all (refLt (dset G P D).length 3) = true := by simp [dobjC, dav0, dav1, dav2, AV.labs.labss, AV.labs, refLt, hlen]; omega
  have c1 : (AV.labs.labss [.own (.l 0) (D.a.length * 64) 0 D.a.length 64 none, dav1 .o P D, dav2 .o P D, .v (.bool D.off), .v (.int .i64 (D.armed : Nat))]).all (refLt (dset G P D).length 3) = true := by simp [dav1, dav2, AV.labs.labss, AV.labs, refLt, hlen]; omega
  have c2 : (AV.labs.labss [.own (.l 0) (D.a.length * 64) 0 D.a.length 64 none, .own (.l 1) (D.b.length * 64) 0 D.b.length 64 none, dav2 .o P D, .v (.bool D.off), .v (.int .i64 (D.armed : Nat))]).all (refLt (dset G P D).length 3) = true := by simp [dav2, AV.labs.labss, AV.labs, refLt, hlen]; omega
  have c3 : (AV.labs.labss [.own (.l 0) (D.a.length * 64) 0 D.a.length 64 none, .own (.l 1) (D.b.length * 64) 0 D.b.length 64 none, .own (.l 2) (D.l.length * 1) 0 D.l.length 1 none, .v (.bool D.off), .v (.int .i64 (D.armed : Nat))]).all (refLt (dset G P D).length 3) = true := by simp [AV.labs.labss, AV.labs, refLt]
  have inG : ∀ {L : List (Option Blk)} {p : Nat}, p < (dset G P D).length → (⟨dset G P D, L⟩ : Hp).into[p]? = (dset G P D)[p]? := fun hp => by rw [into_mk, if_pos hp]
  have n0 := fun (L L' : List (Option Blk)) => isNil_o (h := ⟨dset G P D, L⟩) (p := P.q0) (n := D.a.length * 64) (off := 0) (len := D.a.length) (esz := 64) (cap := P.c0) ((inG (by rw [hlen]; omega)).trans (dset_0 h)) (secE.row_len _) L'
  have n1 := fun (L L' : List (Option Blk)) => isNil_o (h := ⟨dset G P D, L⟩) (p := P.q1) (n := D.b.length * 64) (off := 0) (len := D.b.length) (esz := 64) (cap := P.c1) ((inG (by rw [hlen]; omega)).trans (dset_1 h)) (secE.row_len _) L'
  have n2 := fun (L L' : List (Option Blk)) => isNil_o (h := ⟨dset G P D, L⟩) (p := P.q2) (n := D.l.length * 1) (off := 0) (len := D.l.length) (esz := 1) (cap := P.c2) ((inG (by rw [hlen]; omega)).trans (dset_2 h)) (booE.row_len _) L'
  refine WDP_of (clone_op (T := secE) H.c64 (site := 0) (d_v0 h hb) (n0 _) (by omega) (by omega) (by exact rfl) (by exact gS _ _ _ _ dn dn dn c0)) (by exact gS _ _ _ _ dn dn dn c0) (by exact gS _ _ _ _ (dd _) dn dn c0) rfl rfl ?_
  simp (disch := first | (simp only [ne_eq, reduceCtorEq, not_false_eq_true, implies_true, List.getElem?_cons_zero, List.getElem?_cons_succ]; done) | omega) only [WS, St.guard, St.put, evalO, reduceCtorEq, reduceIte, Nat.reduceAdd, Nat.reduceEqDiff]
  refine WDP_er (by exact gS _ _ _ _ (dd _) dn dn c0) rfl ?_
  refine ⟨_, _, d_ld1 h, rfl, .inr ⟨rfl, gS _ _ _ _ (dd _) dn dn c0⟩, ?_⟩
  simp (disch := first | (simp only [ne_eq, reduceCtorEq, not_false_eq_true, implies_true, List.getElem?_cons_zero, List.getElem?_cons_succ]; done) | omega) only [WS, St.guard, St.put, evalO, reduceCtorEq, reduceIte, Nat.reduceAdd, Nat.reduceEqDiff, WDX_some, reduceIte, if_true, if_false, Bool.and_true, Bool.true_and, true_and, Bool.false_eq_true, false_or, true_or, Hp.over, AM.over, over_nil, List.foldl_cons, List.foldl_nil, List.set_cons_zero, List.set_cons_succ, List.getElem?_cons_zero, List.getElem?_cons_succ, Option.join_some, List.length_cons, List.length_nil, Prim.sites, List.cons_append, List.nil_append]
  refine WDP_of (clone_op (T := secE) H.c64 (site := 1) (d_v1 h rfl) (n1 _) (by omega) (by omega) (by exact rfl) (by exact gS _ _ _ _ (dd _) dn dn c0)) (by exact gS _ _ _ _ (dd _) dn dn c0) (by exact gS _ _ _ _ (dd _) (dd _) dn c0) rfl rfl ?_
  simp (disch := first | (simp only [ne_eq, reduceCtorEq, not_false_eq_true, implies_true, List.getElem?_cons_zero, List.getElem?_cons_succ]; done) | omega) only [WS, St.guard, St.put, evalO, reduceCtorEq, reduceIte, Nat.reduceAdd, Nat.reduceEqDiff]
  refine WDP_er (by exact gS _ _ _ _ (dd _) (dd _) dn c0) rfl ?_
  refine ⟨_, _, d_ld2 h, rfl, .inr ⟨rfl, gS _ _ _ _ (dd _) (dd _) dn c0⟩, ?_⟩
  simp (disch := first | (simp only [ne_eq, reduceCtorEq, not_false_eq_true, implies_true, List.getElem?_cons_zero, List.getElem?_cons_succ]; done) | omega) only [WS, St.guard, St.put, evalO, reduceCtorEq, reduceIte, Nat.reduceAdd, Nat.reduceEqDiff, WDX_some, reduceIte, if_true, if_false, Bool.and_true, Bool.true_and, true_and, Bool.false_eq_true, false_or, true_or, Hp.over, AM.over, over_nil, List.foldl_cons, List.foldl_nil, List.set_cons_zero, List.set_cons_succ, List.getElem?_cons_zero, List.getElem?_cons_succ, Option.join_some, List.length_cons, List.length_nil, Prim.sites, List.cons_append, List.nil_append]
  refine WDP_of (clone_op (T := booE) H.cb (site := 2) (d_v2 h hl) (n2 _) (by omega) (by omega) (by exact rfl) (by exact gS _ _ _ _ (dd _) (dd _) dn c0)) (by exact gS _ _ _ _ (dd _) (dd _) dn c0) (by exact gS _ _ _ _ (dd _) (dd _) (dd _) c0) rfl rfl ?_
  simp (disch := first | (simp only [ne_eq, reduceCtorEq, not_false_eq_true, implies_true, List.getElem?_cons_zero, List.getElem?_cons_succ]; done) | omega) only [WS, St.guard, St.put, evalO, reduceCtorEq, reduceIte, Nat.reduceAdd, Nat.reduceEqDiff]
  refine WDP_of (a := .v undef) (h' := ⟨dset G P D, [some (dBlk (secE.row D.a) true false), some (dBlk (secE.row D.b) true false), some (dBlk (booE.row D.l) true false), some (sBlk [.own (.l 0) (D.a.length * 64) 0 D.a.length 64 none, dav1 .o P D, dav2 .o P D, .v (.bool D.off), .v (.int .i64 (D.armed : Nat))] false)]⟩) (.prim rfl) (by exact gS _ _ _ _ (dd _) (dd _) (dd _) c0) (by exact gS _ _ _ _ (dd _) (dd _) (dd _) c1) rfl rfl ?_
  simp (disch := first | (simp only [ne_eq, reduceCtorEq, not_false_eq_true, implies_true, List.getElem?_cons_zero, List.getElem?_cons_succ]; done) | omega) only [WS, St.guard, St.put, evalO, reduceCtorEq, reduceIte, Nat.reduceAdd, Nat.reduceEqDiff]
  refine WDP_of (a := .v undef) (h' := ⟨dset G P D, [some (dBlk (secE.row D.a) true false), some (dBlk (secE.row D.b) true false), some (dBlk (booE.row D.l) true false), some (sBlk [.own (.l 0) (D.a.length * 64) 0 D.a.length 64 none, .own (.l 1) (D.b.length * 64) 0 D.b.length 64 none, dav2 .o P D, .v (.bool D.off), .v (.int .i64 (D.armed : Nat))] false)]⟩) (.prim rfl) (by exact gS _ _ _ _ (dd _) (dd _) (dd _) c1) (by exact gS _ _ _ _ (dd _) (dd _) (dd _) c2) rfl rfl ?_
  simp (disch := first | (simp only [ne_eq, reduceCtorEq, not_false_eq_true, implies_true, List.getElem?_cons_zero, List.getElem?_cons_succ]; done) | omega) only [WS, St.guard, St.put, evalO, reduceCtorEq, reduceIte, Nat.reduceAdd, Nat.reduceEqDiff]
  refine WDP_of (a := .v undef) (h' := ⟨dset G P D, [some (dBlk (secE.row D.a) true false), some (dBlk (secE.row D.b) true false), some (dBlk (booE.row D.l) true false), some (sBlk [.own (.l 0) (D.a.length * 64) 0 D.a.length 64 none, .own (.l 1) (D.b.length * 64) 0 D.b.length 64 none, .own (.l 2) (D.l.length * 1) 0 D.l.length 1 none, .v (.bool D.off), .v (.int .i64 (D.armed : Nat))] false)]⟩) (.prim rfl) (by exact gS _ _ _ _ (dd _) (dd _) (dd _) c2) (by exact gS _ _ _ _ (dd _) (dd _) (dd _) c3) rfl rfl ?_
  simp (disch := first | (simp only [ne_eq, reduceCtorEq, not_false_eq_true, implies_true, List.getElem?_cons_zero, List.getElem?_cons_succ]; done) | omega) only [WS, St.guard, St.put, evalO, reduceCtorEq, reduceIte, Nat.reduceAdd, Nat.reduceEqDiff, fin_tmp, or_true]
  have := leave_dsk (G := dset G P D) (A := dBlk (secE.row D.a) true false) (B := dBlk (secE.row D.b) true false) (E := dBlk (booE.row D.l) true false) rfl rfl rfl (n0 := D.a.length * 64) (f0 := 0) (l0 := D.a.length) (e0 := 64) (c0 := none)
    (n1 := D.b.length * 64) (f1 := 0) (l1 := D.b.length) (e1 := 64) (c1 := none) (n2 := D.l.length * 1) (f2 := 0) (l2 := D.l.length) (e2 := 1) (c2 := none) (x := .bool D.off) (y := .int .i64 (D.armed : Nat)) (fun a => a) (fun ρ a => rfl) (fun a => rfl)
  refine this.trans ?_
  rw [hlen]
  rfl
theorem append_nilT {G L} {site bytes k esz : Nat} {x : AV} {new : List AV} (hs : L[site]? = some none) (hv : View ⟨G, L⟩ x esz k new) (hd : AV.lf.lfs new = true) (h0 : 0 < k) (hr : k * bytes ≤ room) :
    prim ⟨G, L⟩ (.append site false esz bytes) [.v (.slice none 0 0), x] = some (.own (.l site) (k * esz) 0 k esz none, ⟨G, L.set site (some (dBlk new true false))⟩) := by
  simp only [prim, hv.source, Option.bind_some, Hp.mayFreeze, Bool.false_eq_true, if_false, Hp.append, hv.hclen, if_true]
  rw [if_neg (by omega), if_pos hr]
  simp only [Hp.new, hs, Option.map_some, dBlk, hd]
theorem refCopy_spec (H : RefDisk prog) (h : P.Ok G.length D.b.length) (hl : D.l.length = D.b.length) (hb : D.a.length = D.b.length) (hN : D.b.length ≤ 20000) (h0 : 0 < D.b.length) :
    Ev prog (.call "(*haberdash/haberdashref06.Disk).Copy" [.ptr (.o P.p) 5 0] (dset G P D)) (.ret (.ptr (.o (G.length + 3)) 5 0) (dset G P D ++ newO G.length none none none true D)) := by
  refine call_of_fin H.copy ?_
  have hroom : room = 140737488355328 := rfl
  have hlen := dset_len (G := G) (P := P) (D := D)
  simp only [f___ref06_Disk__Copy_B, enter, List.length_cons, List.length_nil, List.replicate, Nat.reduceAdd, Nat.reduceSub, List.cons_append, List.nil_append]
  simp (disch := first | (simp only [ne_eq, reduceCtorEq, not_false_eq_true, implies_true, List.getElem?_cons_zero, List.getElem?_cons_succ]; done) | omega) only [WS, St.guard, St.put, evalO, reduceCtorEq, reduceIte, Nat.reduceAdd, Nat.reduceEqDiff, d_ld0 h]
  refine WDP_of (.prim (append_nilT (by exact rfl) (d_v0 h hb) (secE.row_lf _) (by omega) (by omega))) (by exact trivial) (by exact ⟨dBlk_good, trivial⟩) rfl rfl ?_
  simp (disch := first | (simp only [ne_eq, reduceCtorEq, not_false_eq_true, implies_true, List.getElem?_cons_zero, List.getElem?_cons_succ]; done) | omega) only [WS, St.guard, St.put, evalO, reduceCtorEq, reduceIte, Nat.reduceAdd, Nat.reduceEqDiff]
  refine WDP_er (by exact ⟨dBlk_good, trivial⟩) rfl ?_
  refine ⟨_, _, d_ld1 h, rfl, .inr ⟨rfl, ⟨dBlk_good, trivial⟩⟩, ?_⟩
  simp (disch := first | (simp only [ne_eq, reduceCtorEq, not_false_eq_true, implies_true, List.getElem?_cons_zero, List.getElem?_cons_succ]; done) | omega) only [WS, St.guard, St.put, evalO, reduceCtorEq, reduceIte, Nat.reduceAdd, Nat.reduceEqDiff, WDX_some, reduceIte, if_true, if_false, Bool.and_true, Bool.true_and, true_and, Bool.false_eq_true, false_or, true_or, Hp.over, AM.over, over_nil, List.foldl_cons, List.foldl_nil, List.set_cons_zero, List.set_cons_succ, List.getElem?_cons_zero, List.getElem?_cons_succ, Option.join_some, List.length_cons, List.length_nil, Prim.sites, List.cons_append, List.nil_append]
  refine WDP_of (.prim (append_nilT (by exact rfl) (d_v1 h rfl) (secE.row_lf _) (by omega) (by omega))) (by exact ⟨dBlk_good, trivial⟩) (by exact ⟨dBlk_good, dBlk_good, trivial⟩) rfl rfl ?_
  simp (disch := first | (simp only [ne_eq, reduceCtorEq, not_false_eq_true, implies_true, List.getElem?_cons_zero, List.getElem?_cons_succ]; done) | omega) only [WS, St.guard, St.put, evalO, reduceCtorEq, reduceIte, Nat.reduceAdd, Nat.reduceEqDiff]
  refine WDP_er (by exact ⟨dBlk_good, dBlk_good, trivial⟩) rfl ?_
  refine ⟨_, _, d_ld2 h, rfl, .inr ⟨rfl, ⟨dBlk_good, dBlk_good, trivial⟩⟩, ?_⟩
  simp (disch := first | (simp only [ne_eq, reduceCtorEq, not_false_eq_true, implies_true, List.getElem?_cons_zero, List.getElem?_cons_succ]; done) | omega) only [WS, St.guard, St.put, evalO, reduceCtorEq, reduceIte, Nat.reduceAdd, Nat.reduceEqDiff, WDX_some, reduceIte, if_true, if_false, Bool.and_true, Bool.true_and, true_and, Bool.false_eq_true, false_or, true_or, Hp.over, AM.over, over_nil, List.foldl_cons, List.foldl_nil, List.set_cons_zero, List.set_cons_succ, List.getElem?_cons_zero, List.getElem?_cons_succ, Option.join_some, List.length_cons, List.length_nil, Prim.sites, List.cons_append, List.nil_append]
  refine WDP_of (.prim (append_nilT (by exact rfl) (d_v2 h hl) (booE.row_lf _) (by omega) (by omega))) (by exact ⟨dBlk_good, dBlk_good, trivial⟩) (by exact ⟨dBlk_good, dBlk_good, dBlk_good, trivial⟩) rfl rfl ?_
  simp (disch := first | (simp only [ne_eq, reduceCtorEq, not_false_eq_true, implies_true, List.getElem?_cons_zero, List.getElem?_cons_succ]; done) | omega) only [WS, St.guard, St.put, evalO, reduceCtorEq, reduceIte, Nat.reduceAdd, Nat.reduceEqDiff]
  refine WDP_er (by exact ⟨dBlk_good, dBlk_good, dBlk_good, trivial⟩) rfl ?_
  refine ⟨_, _, d_ld3 h, rfl, .inr ⟨rfl, ⟨dBlk_good, dBlk_good, dBlk_good, trivial⟩⟩, ?_⟩
  simp (disch := first | (simp only [ne_eq, reduceCtorEq, not_false_eq_true, implies_true, List.getElem?_cons_zero, List.getElem?_cons_succ]; done) | omega) only [WS, St.guard, St.put, evalO, reduceCtorEq, reduceIte, Nat.reduceAdd, Nat.reduceEqDiff, WDX_some, reduceIte, if_true, if_false, Bool.and_true, Bool.true_and, true_and, Bool.false_eq_true, false_or, true_or, Hp.over, AM.over, over_nil, List.foldl_cons, List.foldl_nil, List.set_cons_zero, List.set_cons_succ, List.getElem?_cons_zero, List.getElem?_cons_succ, Option.join_some, List.length_cons, List.length_nil, Prim.sites, List.cons_append, List.nil_append]
  refine WDP_er (by exact ⟨dBlk_good, dBlk_good, dBlk_good, trivial⟩) rfl ?_
  refine ⟨_, _, d_ld4 h, rfl, .inr ⟨rfl, ⟨dBlk_good, dBlk_good, dBlk_good, trivial⟩⟩, ?_⟩
  have bd : ∀ h : Hp, prim h (.build [.slice none 0 0, .slice none 0 0, .slice none 0 0, .bool false, .int .i64 0] [(0, 1), (1, 1), (2, 1), (3, 1), (4, 1)]) [.own (.l 0) (D.a.length * 64) 0 D.a.length 64 none, .own (.l 1) (D.b.length * 64) 0 D.b.length 64 none, .own (.l 2) (D.l.length * 1) 0 D.l.length 1 none, .v (.bool D.off), .v (.int .i64 (D.armed : Nat))] =
      some (.agg [.own (.l 0) (D.a.length * 64) 0 D.a.length 64 none, .own (.l 1) (D.b.length * 64) 0 D.b.length 64 none, .own (.l 2) (D.l.length * 1) 0 D.l.length 1 none, .v (.bool D.off), .v (.int .i64 (D.armed : Nat))], h) := fun h => rfl
  simp (disch := first | (simp only [ne_eq, reduceCtorEq, not_false_eq_true, implies_true, List.getElem?_cons_zero, List.getElem?_cons_succ]; done) | omega) only [WS, St.guard, St.put, evalO, reduceCtorEq, reduceIte, Nat.reduceAdd, Nat.reduceEqDiff, WDX_some, reduceIte, if_true, if_false, Bool.and_true, Bool.true_and, true_and, Bool.false_eq_true, false_or, true_or, Hp.over, AM.over, over_nil, List.foldl_cons, List.foldl_nil, List.set_cons_zero, List.set_cons_succ, List.getElem?_cons_zero, List.getElem?_cons_succ, Option.join_some, List.length_cons, List.length_nil, Prim.sites, List.cons_append, List.nil_append]
  simp (disch := first | (simp only [ne_eq, reduceCtorEq, not_false_eq_true, implies_true, List.getElem?_cons_zero, List.getElem?_cons_succ]; done) | omega) only [WS, St.guard, St.put, evalO, reduceCtorEq, reduceIte, Nat.reduceAdd, Nat.reduceEqDiff, bd]
  refine WDP_of (.prim (box_s (by exact rfl))) (by exact ⟨dBlk_good, dBlk_good, dBlk_good, trivial⟩) (by exact ⟨dBlk_good, dBlk_good, dBlk_good, sBlk_good rfl, trivial⟩) rfl rfl ?_
  simp (disch := first | (simp only [ne_eq, reduceCtorEq, not_false_eq_true, implies_true, List.getElem?_cons_zero, List.getElem?_cons_succ]; done) | omega) only [WS, St.guard, St.put, evalO, reduceCtorEq, reduceIte, Nat.reduceAdd, Nat.reduceEqDiff, fin_tmp, or_true]
  have := leave_dsk (G := dset G P D) (A := dBlk (secE.row D.a) true false) (B := dBlk (secE.row D.b) true false) (E := dBlk (booE.row D.l) true false) rfl rfl rfl (n0 := D.a.length * 64) (f0 := 0) (l0 := D.a.length) (e0 := 64) (c0 := none)
    (n1 := D.b.length * 64) (f1 := 0) (l1 := D.b.length) (e1 := 64) (c1 := none) (n2 := D.l.length * 1) (f2 := 0) (l2 := D.l.length) (e2 := 1) (c2 := none) (x := .bool D.off) (y := .int .i64 (D.armed : Nat)) (fun a => a) (fun ρ a => rfl) (fun a => rfl)
  refine this.trans ?_
  rw [hlen]
  rfl
end Go.AM
namespace Go.AM
variable {prog : String → Option IFn}
variable {G L : List (Option Blk)} {P Q : DPos} {D E : DskD} {n : Nat}
theorem WDP_loadAt {k : List Kf} {s : St} {Z : Out → St → Prop} {j sz agg n off ld dst l} : WDP prog (.loadAt j sz agg) [.ptr (.l j) n off] [] [] ld dst l k s Z ↔ WDR prog (prim s.h (.load sz agg) [.ptr (.l j) n off]) dst l k s Z := by
  have e : prim s.h (.loadAt j sz agg) [.ptr (.l j) n off] = prim s.h (.load sz agg) [.ptr (.l j) n off] := by
    show (if j = j then _ else none) = _
    rw [if_pos rfl]; rfl
  constructor
  · rintro ⟨b, h', ho, _, _, _, h⟩
    have := (ev_op_prim (by simp) (by simp)).1 (ho _ okX_none)
    rw [over_nil, over_nil, e] at this
    obtain rfl := load_same this
    exact ⟨b, this, h⟩
  · rintro ⟨a, hr, h⟩
    refine WDP_any rfl (fun X _ => ?_) (by simp [okAt]) h
    rw [over_nil, e]; exact hr
theorem WDP_callU {k : List Kf} {s : St} {Z : Out → St → Prop} {f xs u dst l} {r : AV} {G' : List (Option Blk)} (he : ∀ L, Good ⟨s.h.G, L⟩ → Ev prog (.op (.call f []) xs ⟨s.h.G, L⟩) (.val r ⟨G', L⟩)) (hg : Good s.h)
    (h : WD prog l k (({ s with h := ⟨G', s.h.L⟩ } : St).put dst r) Z) : WDP prog (.call f []) xs u [] true dst l k s Z := by
  refine ⟨r, ⟨G', s.h.L⟩, fun X hX => ?_, hg.okAt, .inl rfl, fun _ _ => rfl, h⟩
  exact he _ (hg.over hX)
structure Far (P Q : DPos) : Prop where
  f : ∀ a ∈ [P.q0, P.q1, P.q2, P.p], ∀ b ∈ [Q.q0, Q.q1, Q.q2, Q.p], a ≠ b
theorem Far.symm (h : Far P Q) : Far Q P := ⟨fun a ha b hb e => h.f b hb a ha e.symm⟩
theorem dset_far (h : Far P Q) {k : Nat} (hk : k ∈ [P.q0, P.q1, P.q2, P.p]) : (dset G Q E)[k]? = G[k]? :=
  dset_o (h.f k hk _ (by simp)) (h.f k hk _ (by simp)) (h.f k hk _ (by simp)) (h.f k hk _ (by simp))
theorem dset_comm {m : Nat} (hP : P.Ok G.length n) (hQ : Q.Ok G.length m) (h : Far P Q) : dset (dset G P D) Q E = dset (dset G Q E) P D := by
  have hP' : P.Ok (dset G Q E).length n := by rw [dset_len]; exact hP
  have hQ' : Q.Ok (dset G P D).length m := by rw [dset_len]; exact hQ
  refine dset_ext hP' (by simp only [dset_len]) ?_ ?_ ?_ ?_ fun k ep e0 e1 e2 => ?_
  · rw [dset_far h (by simp), dset_p hP]
  · rw [dset_far h (by simp), dset_0 hP]
  · rw [dset_far h (by simp), dset_1 hP]
  · rw [dset_far h (by simp), dset_2 hP]
  · by_cases hk : k ∈ [Q.q0, Q.q1, Q.q2, Q.p]
    · simp only [List.mem_cons, List.not_mem_nil, or_false] at hk
      rcases hk with rfl | rfl | rfl | rfl
      · rw [dset_0 hQ', dset_0 hQ]
      · rw [dset_1 hQ', dset_1 hQ]
      · rw [dset_2 hQ', dset_2 hQ]
      · rw [dset_p hQ', dset_p hQ]
    · simp only [List.mem_cons, List.not_mem_nil, or_false, not_or] at hk
      rw [dset_o hk.2.2.2 hk.1 hk.2.1 hk.2.2.1, dset_o hk.2.2.2 hk.1 hk.2.1 hk.2.2.1, dset_o ep e0 e1 e2]
def two (G : List (Option Blk)) (P Q : DPos) (D E : DskD) : List (Option Blk) := dset (dset G Q E) P D
structure TwoOK (G : List (Option Blk)) (P Q : DPos) (n : Nat) : Prop where
  p : P.Ok G.length n
  q : Q.Ok G.length n
  far : Far P Q
theorem two_len : (two G P Q D E).length = G.length := by simp [two, dset_len]
theorem TwoOK.pp (h : TwoOK G P Q n) : P.Ok (dset G Q E).length n := by rw [dset_len]; exact h.p
theorem TwoOK.qq (h : TwoOK G P Q n) : Q.Ok (dset G P D).length n := by rw [dset_len]; exact h.q
theorem two_sw (h : TwoOK G P Q n) : two G P Q D E = dset (dset G P D) Q E := (dset_comm h.p h.q h.far).symm
theorem opP (h : TwoOK G P Q n) {f xs} {r : AV} {D' : DskD} (hr : r.lf = true) (hx : ∀ g, xs.map (AV.ren (up g)) = xs)
    (he : ∀ G', P.Ok G'.length n → Ev prog (.call f xs (dset G' P D)) (.ret r (dset G' P D'))) {L} (hg : Good ⟨two G P Q D E, L⟩) :
    Ev prog (.op (.call f []) xs ⟨two G P Q D E, L⟩) (.val r ⟨two G P Q D' E, L⟩) := by
  have hg' : Good ⟨two G P Q D' E, L⟩ := by
    have e : (two G P Q D' E).length = (two G P Q D E).length := by rw [two_len, two_len]
    unfold Good at hg ⊢; simp only [e]; exact hg
  refine op_turn ⟨two G P Q D' E, L⟩ ?_ hr (by simp only [two_len]) rfl hg hg'
  rw [hx]
  unfold Hp.into two
  simp only
  have e1 : ∀ D, (dset (dset G Q E) P D).length = G.length := fun D => by rw [dset_len, dset_len]
  rw [e1, e1, ← dset_app h.pp, ← dset_app h.pp]
  exact he _ h.pp.app
theorem opQ (h : TwoOK G P Q n) {f xs} {r : AV} {E' : DskD} (hr : r.lf = true) (hx : ∀ g, xs.map (AV.ren (up g)) = xs)
    (he : ∀ G', Q.Ok G'.length n → Ev prog (.call f xs (dset G' Q E)) (.ret r (dset G' Q E'))) {L} (hg : Good ⟨two G P Q D E, L⟩) :
    Ev prog (.op (.call f []) xs ⟨two G P Q D E, L⟩) (.val r ⟨two G P Q D E', L⟩) := by
  have hs : ∀ E, two G P Q D E = two G Q P E D := fun E => two_sw h
  rw [hs] at hg ⊢
  rw [hs]
  exact opP ⟨h.q, h.p, h.far.symm⟩ hr hx he hg
structure OpD where
  kind : Int
  at' : Int
  c : UInt8
  keep : List Int
def lastB (s : Sec) (x : UInt8) : Sec := secSet s 63 x
def byteI (n : Int) : UInt8 := UInt8.ofNat (IntKind.u8.wrap n).toNat
def DskD.step (D : DskD) (o : OpD) : DskD := match umod o.kind 6 with
  | 0 => D.write o.at' (lastB (fullS o.c) (byteI o.at'))
  | 1 => D.write o.at' (lastB (fullS o.c) (byteI o.at'))
  | 2 => D.sync
  | 3 => { D with armed := o.at'.toNat }
  | 4 => D.crash o.keep
  | _ => D.start
structure StepLib (prog : String → Option IFn) : Prop extends DiskLib prog where
  ref : RefDisk prog
  step : prog "haberdash/haberdashlaw06.step" = some f_law06_step
  same : prog "haberdash/haberdashlaw06.same" = some f_law06_same
theorem wrap_u8v {x : Int} : Value.int .u8 (IntKind.u8.wrap x) = u8 (byteI x) := by
  have h1 : 0 ≤ IntKind.u8.wrap x ∧ IntKind.u8.wrap x < 256 := by
    rw [show IntKind.u8.wrap x = x % 256 by rfl]; omega
  unfold u8 byteI
  rw [UInt8.toNat_ofNat_of_lt' (by show _ < 256; omega), Int.toNat_of_nonneg h1.1]
structure Siz (D : DskD) (N : Nat) : Prop where
  a : D.a.length = N
  b : D.b.length = N
  l : D.l.length = N
  armed : D.armed < 2 ^ 63
theorem Siz.hit {D : DskD} {N} (h : Siz D N) : Siz D.hit N := by
  have := h.armed
  unfold DskD.hit; split
  · exact h
  · exact ⟨h.a, h.b, h.l, by show D.armed - 1 < 2 ^ 63; omega⟩
theorem Siz.put {D : DskD} {N i s} (h : Siz D N) : Siz (D.put i s) N := ⟨h.a, by simp [DskD.put, h.b], by simp [DskD.put, h.l], h.armed⟩
theorem Siz.write {D : DskD} {N i s} (h : Siz D N) : Siz (D.write i s) N := by unfold DskD.write; split; exact h.put.hit; exact h
theorem Siz.sync {D : DskD} {N} (h : Siz D N) : Siz D.sync N := by
  unfold DskD.sync; split
  · split
    · exact h.hit
    · exact ⟨h.b, h.hit.b, by simp [h.l], h.hit.armed⟩
  · exact h
theorem Siz.settle {D : DskD} {N K} (h : Siz D N) : Siz (D.settle K) N := by
  obtain ⟨h1, h2, h3, _⟩ := settleN_len (D := D) (K := K) D.b.length
  exact ⟨h1.trans h.a, h2.trans h.b, h3.trans h.l, by show (0 : Nat) < _; omega⟩
theorem Siz.crash {D : DskD} {N ks} (h : Siz D N) : Siz (D.crash ks) N := by
  have := h.settle (K := keepAt ks); exact ⟨this.a, this.b, this.l, this.armed⟩
theorem Siz.start {D : DskD} {N} (h : Siz D N) : Siz D.start N := by
  unfold DskD.start; split
  · have := h.settle (K := fun _ => 0); exact ⟨this.a, this.b, this.l, this.armed⟩
  · exact h
theorem Siz.step {D : DskD} {N o} (h : Siz D N) (ho : o.at' < 2 ^ 63) : Siz (D.step o) N := by
  unfold DskD.step
  split
  · exact h.write
  · exact h.write
  · exact h.sync
  · exact ⟨h.a, h.b, h.l, by show o.at'.toNat < 2 ^ 63; omega⟩
  · exact h.crash
  · exact h.start
theorem Siz.new {N} : Siz (newD N) N := ⟨by simp [newD], by simp [newD], by simp [newD], by show (0 : Nat) < _; omega⟩
end Go.AM
namespace Go.AM
variable {prog : String → Option IFn}
variable {G L : List (Option Blk)} {P Q : DPos} {D E : DskD} {n : Nat}
theorem ren_sec {s : Sec} {ρ} : (AV.agg (s.1.map byteAV)).ren ρ = .agg (s.1.map byteAV) := ren_bytes
def opAV (o : OpD) (kp : AV) : List AV := [intAV o.kind, intAV o.at', .v (u8 o.c), kp]
set_option maxHeartbeats 1000000 in
theorem step_spec (H : StepLib prog) (h : TwoOK G P Q n) (z : Siz D n) (h1 : 1 ≤ n) (hN : n ≤ 20000) {o : OpD} {kp : AV} (va : ∀ h, View h kp 1 o.keep.length (o.keep.map intAV)) :
    Ev prog (.call "haberdash/haberdashlaw06.step" [.ptr (.o P.p) 5 0, .ptr (.o Q.p) 5 0, .agg (opAV o kp)] (two G P Q D D.sw)) (.ret (.v (.bool true)) (two G P Q (D.step o) (D.step o).sw)) := by
  obtain ⟨k, at', c, keep⟩ := o
  have HD := H.toDiskLib
  obtain ⟨hla, hlf, hc⟩ := ints_plain va
  have za := z.a; have zb := z.b; have zl := z.l; have zm := z.armed
  refine call_of_fin H.step ?_
  simp only [f_law06_step_B, enter, List.length_cons, List.length_nil, List.replicate, Nat.reduceAdd, Nat.reduceSub, List.cons_append, List.nil_append, opAV, intAV]
  have hdat : AV.lf.lfs [(.v (.int .i64 k)), (.v (.int .i64 at')), .v (u8 c), kp] = true := by simp [AV.lf.lfs, AV.lf, hlf]
  have bx : ∀ G, prim ⟨G, [none, none]⟩ (.box 0) [.agg [(.v (.int .i64 k)), (.v (.int .i64 at')), .v (u8 c), kp]] = some (.ptr (.l 0) 4 0, ⟨G, [some (sBlk [(.v (.int .i64 k)), (.v (.int .i64 at')), .v (u8 c), kp] true), none]⟩) := fun G => by
    rw [px_box, show (AV.agg [(.v (.int .i64 k)), (.v (.int .i64 at')), .v (u8 c), kp]).cellsOf = some [(.v (.int .i64 k)), (.v (.int .i64 at')), .v (u8 c), kp] from rfl]
    simp only [Option.bind_some, Hp.new, List.getElem?_cons_zero, Option.map_some, newBlk_s, hdat]; rfl
  have l0 : ∀ G X, prim ⟨G, [some (sBlk [(.v (.int .i64 k)), (.v (.int .i64 at')), .v (u8 c), kp] true), X]⟩ (.load 1 false) [.ptr (.l 0) 4 0] = some ((.v (.int .i64 k)), ⟨G, [some (sBlk [(.v (.int .i64 k)), (.v (.int .i64 at')), .v (u8 c), kp] true), X]⟩) := fun G X => rfl
  have l1 : ∀ G X, prim ⟨G, [some (sBlk [(.v (.int .i64 k)), (.v (.int .i64 at')), .v (u8 c), kp] true), X]⟩ (.load 1 false) [.ptr (.l 0) 4 1] = some ((.v (.int .i64 at')), ⟨G, [some (sBlk [(.v (.int .i64 k)), (.v (.int .i64 at')), .v (u8 c), kp] true), X]⟩) := fun G X => rfl
  have l2 : ∀ G X, prim ⟨G, [some (sBlk [(.v (.int .i64 k)), (.v (.int .i64 at')), .v (u8 c), kp] true), X]⟩ (.load 1 false) [.ptr (.l 0) 4 2] = some (.v (u8 c), ⟨G, [some (sBlk [(.v (.int .i64 k)), (.v (.int .i64 at')), .v (u8 c), kp] true), X]⟩) := fun G X => rfl
  have l3 : ∀ G X, prim ⟨G, [some (sBlk [(.v (.int .i64 k)), (.v (.int .i64 at')), .v (u8 c), kp] true), X]⟩ (.load 1 false) [.ptr (.l 0) 4 3] = some (kp, ⟨G, [some (sBlk [(.v (.int .i64 k)), (.v (.int .i64 at')), .v (u8 c), kp] true), X]⟩) := fun G X => rfl
  have gd : ∀ (G : List (Option Blk)) (X : Option Blk), (∀ b, X = some b → b.labs = []) → Good ⟨G, [some (sBlk [(.v (.int .i64 k)), (.v (.int .i64 at')), .v (u8 c), kp] true), X]⟩ := fun G X hX => goodD (fun b e => by cases e; rfl) (goodD hX trivial)
  have g0 : ∀ G, Good ⟨G, [some (sBlk [(.v (.int .i64 k)), (.v (.int .i64 at')), .v (u8 c), kp] true), none]⟩ := fun G => gd G none (fun b e => by cases e)
  simp (disch := first | (simp only [ne_eq, reduceCtorEq, not_false_eq_true, implies_true, List.getElem?_cons_zero, List.getElem?_cons_succ]; done) | omega) only [WS, St.guard, St.put, evalO, reduceCtorEq, reduceIte, Nat.reduceAdd, Nat.reduceEqDiff, bx, l0]
  rw [vRem_u64_lit (z := 6) 6 rfl (by omega)]
  have hk := umod_lt (c := k) (n := 6) (by omega)
  have hstep : D.step ⟨k, at', c, keep⟩ = match umod k 6 with
    | 0 => D.write at' (lastB (fullS c) (byteI at'))
    | 1 => D.write at' (lastB (fullS c) (byteI at'))
    | 2 => D.sync
    | 3 => { D with armed := at'.toNat }
    | 4 => D.crash keep
    | _ => D.start := rfl
  rw [hstep]
  generalize umod k 6 = m at *
  have wr : ∀ (X : DskD), X = D.write at' (lastB (fullS c) (byteI at')) → True := fun _ _ => trivial
  have hcase : m = 0 ∨ m = 1 ∨ m = 2 ∨ m = 3 ∨ m = 4 ∨ m = 5 := by omega
  rcases hcase with rfl | rfl | rfl | rfl | rfl | rfl
  case inr.inr.inl =>
    simp (disch := first | (simp only [ne_eq, reduceCtorEq, not_false_eq_true, implies_true, List.getElem?_cons_zero, List.getElem?_cons_succ]; done) | omega) only [WS, St.guard, St.put, evalO, reduceCtorEq, reduceIte, Nat.reduceAdd, Nat.reduceEqDiff, Int.cast_ofNat_Int, Int.reduceBEq]
    refine WP_of (opP h (D' := D.sync) rfl (fun g => rfl) (fun G' hG' => Sync_spec HD (by rw [zb]; exact hG') (by omega) (by omega) zm (by omega)) (by exact g0 _)) ?_
    simp (disch := first | (simp only [ne_eq, reduceCtorEq, not_false_eq_true, implies_true, List.getElem?_cons_zero, List.getElem?_cons_succ]; done) | omega) only [WS, St.guard, St.put, evalO, reduceCtorEq, reduceIte, Nat.reduceAdd, Nat.reduceEqDiff]
    refine WP_of (opQ h (E' := D.sync.sw) rfl (fun g => rfl) (fun G' hG' => refSync_spec H.ref (by rw [zb]; exact hG') (by omega) (by omega) zm (by omega) (by omega)) (by exact g0 _)) ?_
    simp (disch := first | (simp only [ne_eq, reduceCtorEq, not_false_eq_true, implies_true, List.getElem?_cons_zero, List.getElem?_cons_succ]; done) | omega) only [WS, St.guard, St.put, evalO, reduceCtorEq, reduceIte, Nat.reduceAdd, Nat.reduceEqDiff, beq_self_eq_true, fin_tmp, leave_v]
    simp
  case inr.inr.inr.inl =>
    simp (disch := first | (simp only [ne_eq, reduceCtorEq, not_false_eq_true, implies_true, List.getElem?_cons_zero, List.getElem?_cons_succ]; done) | omega) only [WS, St.guard, St.put, evalO, reduceCtorEq, reduceIte, Nat.reduceAdd, Nat.reduceEqDiff, Int.cast_ofNat_Int, Int.reduceBEq, l1]
    refine WP_of (opP h (D' := { D with armed := at'.toNat }) rfl (fun g => rfl) (fun G' hG' => Arm_spec HD hG') (by exact g0 _)) ?_
    simp (disch := first | (simp only [ne_eq, reduceCtorEq, not_false_eq_true, implies_true, List.getElem?_cons_zero, List.getElem?_cons_succ]; done) | omega) only [WS, St.guard, St.put, evalO, reduceCtorEq, reduceIte, Nat.reduceAdd, Nat.reduceEqDiff, l1]
    refine WP_of (opQ h (E' := ({ D with armed := at'.toNat } : DskD).sw) rfl (fun g => rfl) (fun G' hG' => refArm_spec H.ref hG') (by exact g0 _)) ?_
    simp (disch := first | (simp only [ne_eq, reduceCtorEq, not_false_eq_true, implies_true, List.getElem?_cons_zero, List.getElem?_cons_succ]; done) | omega) only [WS, St.guard, St.put, evalO, reduceCtorEq, reduceIte, Nat.reduceAdd, Nat.reduceEqDiff, fin_tmp, leave_v]
    simp
  case inr.inr.inr.inr.inl =>
    have hx : ∀ (p g : Nat), [AV.ptr (.o p) 5 0, kp].map (AV.ren (up g)) = [.ptr (.o p) 5 0, kp] := fun p g => by
      simp only [List.map_cons, List.map_nil]
      rw [ren_id (a := kp) fun ℓ hℓ => by rw [hla] at hℓ; cases hℓ]; rfl
    simp (disch := first | (simp only [ne_eq, reduceCtorEq, not_false_eq_true, implies_true, List.getElem?_cons_zero, List.getElem?_cons_succ]; done) | omega) only [WS, St.guard, St.put, evalO, reduceCtorEq, reduceIte, Nat.reduceAdd, Nat.reduceEqDiff, Int.cast_ofNat_Int, Int.reduceBEq, l3]
    refine WP_of (opP h (D' := D.crash keep) rfl (hx _) (fun G' hG' => Crash_spec HD (by rw [zb]; exact hG') (by omega) (by omega) (by omega) va) (by exact g0 _)) ?_
    simp (disch := first | (simp only [ne_eq, reduceCtorEq, not_false_eq_true, implies_true, List.getElem?_cons_zero, List.getElem?_cons_succ]; done) | omega) only [WS, St.guard, St.put, evalO, reduceCtorEq, reduceIte, Nat.reduceAdd, Nat.reduceEqDiff, l3]
    refine WP_of (opQ h (E' := (D.crash keep).sw) rfl (hx _) (fun G' hG' => refCrash_spec H.ref (by rw [zb]; exact hG') (by omega) (by omega) (by omega) va) (by exact g0 _)) ?_
    simp (disch := first | (simp only [ne_eq, reduceCtorEq, not_false_eq_true, implies_true, List.getElem?_cons_zero, List.getElem?_cons_succ]; done) | omega) only [WS, St.guard, St.put, evalO, reduceCtorEq, reduceIte, Nat.reduceAdd, Nat.reduceEqDiff, fin_tmp, leave_v]
    simp
  case inr.inr.inr.inr.inr =>
    simp (disch := first | (simp only [ne_eq, reduceCtorEq, not_false_eq_true, implies_true, List.getElem?_cons_zero, List.getElem?_cons_succ]; done) | omega) only [WS, St.guard, St.put, evalO, reduceCtorEq, reduceIte, Nat.reduceAdd, Nat.reduceEqDiff, Int.cast_ofNat_Int, Int.reduceBEq]
    refine WP_of (opP h (D' := D.start) rfl (fun g => rfl) (fun G' hG' => Start_spec HD (by rw [zb]; exact hG') (by omega) (by omega) (by omega)) (by exact g0 _)) ?_
    simp (disch := first | (simp only [ne_eq, reduceCtorEq, not_false_eq_true, implies_true, List.getElem?_cons_zero, List.getElem?_cons_succ]; done) | omega) only [WS, St.guard, St.put, evalO, reduceCtorEq, reduceIte, Nat.reduceAdd, Nat.reduceEqDiff]
    refine WP_of (opQ h (E' := D.start.sw) rfl (fun g => rfl) (fun G' hG' => refStart_spec H.ref (by rw [zb]; exact hG') (by omega) (by omega) (by omega)) (by exact g0 _)) ?_
    simp (disch := first | (simp only [ne_eq, reduceCtorEq, not_false_eq_true, implies_true, List.getElem?_cons_zero, List.getElem?_cons_succ]; done) | omega) only [WS, St.guard, St.put, evalO, reduceCtorEq, reduceIte, Nat.reduceAdd, Nat.reduceEqDiff, fin_tmp, leave_v]
    simp
  all_goals
    have hx : ∀ (p g : Nat) (s : Sec), [AV.ptr (.o p) 5 0, .v (.int .i64 at'), .agg (s.1.map byteAV)].map (AV.ren (up g)) = [.ptr (.o p) 5 0, .v (.int .i64 at'), .agg (s.1.map byteAV)] := fun p g s => by
      simp only [List.map_cons, List.map_nil, ren_sec]; rfl
    simp (disch := first | (simp only [ne_eq, reduceCtorEq, not_false_eq_true, implies_true, List.getElem?_cons_zero, List.getElem?_cons_succ]; done) | omega) only [WS, St.guard, St.put, evalO, reduceCtorEq, reduceIte, Nat.reduceAdd, Nat.reduceEqDiff, Int.cast_ofNat_Int, Int.reduceBEq, l2]
    refine (WP_r (r := .agg ((fullS c).1.map byteAV)) (by exact full_spec HD) (by simp [AV.lf, bytes_lfs]) (by exact g0 _)).2 ?_
    have al := fun G => alloc_zeros (G := G) (L := [some (sBlk [.v (.int .i64 k), .v (.int .i64 at'), .v (u8 c), kp] true), none]) (site := 1) rfl
    have st := fun G => store_all (G := G) (L := [some (sBlk [.v (.int .i64 k), .v (.int .i64 at'), .v (u8 c), kp] true), some (dBlk (zs64.map byteAV) false false)]) (j := 1) (n := 64) (xs := (fullS c).1.map byteAV) (cells := zs64.map byteAV) (o := false) (v := false) rfl rfl (by rw [List.length_map]; exact (fullS c).2) bytes_lfs
    have ia : ∀ h, prim h (.indexArr 64 1) [.ptr (.l 1) 64 0, .v (.int .i64 63)] = some (.ptr (.l 1) 64 63, h) := fun h => indexArr_at (i := 63) (by omega)
    have sb := fun G => store_byte (G := G) (L := [some (sBlk [.v (.int .i64 k), .v (.int .i64 at'), .v (u8 c), kp] true), some (dBlk ((fullS c).1.map byteAV) false false)]) (j := 1) (n := 64) (off := 63) (b := byteI at') (bs := (fullS c).1) (o := false) (v := false) rfl (fullS c).2 (by omega)
    simp (disch := first | (simp only [ne_eq, reduceCtorEq, not_false_eq_true, implies_true, List.getElem?_cons_zero, List.getElem?_cons_succ]; done) | omega) only [WS, St.guard, St.put, evalO, reduceCtorEq, reduceIte, Nat.reduceAdd, Nat.reduceEqDiff, al, List.set_cons_succ, List.set_cons_zero, st, l1, wrap_u8v, ia, sb]
    obtain ⟨w, hw⟩ : ∃ w : Sec, w = lastB (fullS c) (byteI at') := ⟨_, rfl⟩
    have ew : (fullS c).1.set 63 (byteI at') = w.1 := by rw [hw]; rfl
    rw [ew]
    have gw : ∀ G, Good ⟨G, [some (sBlk [.v (.int .i64 k), .v (.int .i64 at'), .v (u8 c), kp] true), some (dBlk (w.1.map byteAV) false false)]⟩ := fun G => gd G _ (fun b e => by cases e; rfl)
    have ls := fun G => load_sec (G := G) (L := [some (sBlk [.v (.int .i64 k), .v (.int .i64 at'), .v (u8 c), kp] true), some (dBlk (w.1.map byteAV) false false)]) (j := 1) (bs := w.1) (o := false) (v := false) rfl w.2
    simp (disch := first | (simp only [ne_eq, reduceCtorEq, not_false_eq_true, implies_true, List.getElem?_cons_zero, List.getElem?_cons_succ]; done) | omega) only [WS, St.guard, St.put, evalO, reduceCtorEq, reduceIte, Nat.reduceAdd, Nat.reduceEqDiff, WDP_loadAt, l1, ls]
    refine WDP_callU (fun L hg => opP h (D' := D.write at' w) rfl (fun g => hx _ _ _) (fun G' hG' => Write_spec HD (by rw [zb]; exact hG') (by omega) zm) (by exact hg)) (by exact gw _) ?_
    simp (disch := first | (simp only [ne_eq, reduceCtorEq, not_false_eq_true, implies_true, List.getElem?_cons_zero, List.getElem?_cons_succ]; done) | omega) only [WS, St.guard, St.put, evalO, reduceCtorEq, reduceIte, Nat.reduceAdd, Nat.reduceEqDiff, WDP_loadAt, l1, ls]
    have sp : ∀ G', Q.Ok G'.length n → Ev prog (.call "(*haberdash/haberdashref06.Disk).Write" [.ptr (.o Q.p) 5 0, .v (.int .i64 at'), .agg (w.1.map byteAV)] (dset G' Q D.sw)) (.ret (.v (.int .i64 (writeE D at'))) (dset G' Q (D.write at' w).sw)) := fun G' hG' => by
      have := refWrite_spec H.ref (D := D.sw) (G := G') (P := Q) (by show Q.Ok G'.length D.b.length; rw [zb]; exact hG') (by show D.l.length = D.b.length; omega) zm (at' := at') (s := w)
      rw [rwrite_sw, rwriteE_sw] at this
      exact this
    refine WDP_callU (fun L hg => opQ h (E' := (D.write at' w).sw) rfl (fun g => hx _ _ _) sp (by exact hg)) (by exact gw _) ?_
    simp (disch := first | (simp only [ne_eq, reduceCtorEq, not_false_eq_true, implies_true, List.getElem?_cons_zero, List.getElem?_cons_succ]; done) | omega) only [WS, St.guard, St.put, evalO, reduceCtorEq, reduceIte, Nat.reduceAdd, Nat.reduceEqDiff, beq_self_eq_true, fin_tmp, leave_v]
    simp
    rw [hw]
theorem dsame_spec (H : StepLib prog) (h : TwoOK G P Q n) (z : Siz D n) (hN : n ≤ 20000) :
    Ev prog (.call "haberdash/haberdashlaw06.same" [.ptr (.o P.p) 5 0, .ptr (.o Q.p) 5 0] (two G P Q D D.sw)) (.ret (.v (.bool true)) (two G P Q D D.sw)) := by
  have HD := H.toDiskLib
  have za := z.a; have zb := z.b; have zl := z.l; have zm := z.armed
  refine call_of_fin H.same ?_
  simp only [f_law06_same_B, enter, List.length_cons, List.length_nil, List.replicate, Nat.reduceAdd, Nat.reduceSub, List.cons_append, List.nil_append]
  have gn : ∀ (L : List (Option Blk)), Dat L → Good ⟨two G P Q D D.sw, L⟩ := fun L hL => goodX hL
  have d0 : Dat [none, none] := by intro B hB b e; subst e; simp at hB
  have ln : ∀ L, prim ⟨two G P Q D D.sw, L⟩ .lenSlice [dav0 .o Q D.sw] = some (.v (.int .i64 (n : Nat)), ⟨two G P Q D D.sw, L⟩) := fun L => by rw [← zb]; rfl
  have q0 : ∀ L, prim ⟨two G P Q D D.sw, L⟩ (.load 1 false) [.ptr (.o Q.p) 5 0] = some (dav0 .o Q D.sw, ⟨two G P Q D D.sw, L⟩) := fun L => by rw [two_sw h]; exact d_ld0 h.qq
  have q3 : ∀ L, prim ⟨two G P Q D D.sw, L⟩ (.load 1 false) [.ptr (.o Q.p) 5 3] = some (.v (.bool D.off), ⟨two G P Q D D.sw, L⟩) := fun L => by rw [two_sw h]; exact d_ld3 h.qq
  simp (disch := first | (simp only [ne_eq, reduceCtorEq, not_false_eq_true, implies_true, List.getElem?_cons_zero, List.getElem?_cons_succ]; done) | omega) only [WS, St.guard, St.put, evalO, reduceCtorEq, reduceIte, Nat.reduceAdd, Nat.reduceEqDiff]
  refine WDP_of (opP h (D' := D) rfl (fun g => rfl) (fun G' hG' => Len_spec HD hG') (by exact gn _ d0)) (by exact gn _ d0) (by exact gn _ d0) rfl rfl ?_
  rw [zb]
  simp (disch := first | (simp only [ne_eq, reduceCtorEq, not_false_eq_true, implies_true, List.getElem?_cons_zero, List.getElem?_cons_succ]; done) | omega) only [WS, St.guard, St.put, evalO, reduceCtorEq, reduceIte, Nat.reduceAdd, Nat.reduceEqDiff, q0, ln, bne_self_eq_false]
  refine WDP_of (opP h (D' := D) rfl (fun g => rfl) (fun G' hG' => Down_spec HD hG') (by exact gn _ d0)) (by exact gn _ d0) (by exact gn _ d0) rfl rfl ?_
  simp (disch := first | (simp only [ne_eq, reduceCtorEq, not_false_eq_true, implies_true, List.getElem?_cons_zero, List.getElem?_cons_succ]; done) | omega) only [WS, St.guard, St.put, evalO, reduceCtorEq, reduceIte, Nat.reduceAdd, Nat.reduceEqDiff, q3, bne_self_eq_false]
  refine WC_count (fun j => ⟨f_law06_same_H0 (.ptr (.o P.p) 5 0) (.ptr (.o Q.p) 5 0) (.v (.int .i64 ((j : Int) - 1))), ⟨two G P Q D D.sw, [none, none]⟩⟩) (n + 2) ?_ (fun j hj => ?_) ?_
  · exact clear_fre (by simp only [clear_nil, List.foldl_cons, List.foldl_nil, Option.some.injEq, List.map_cons, List.map_nil, List.getD_cons_zero, List.getD_cons_succ, List.set_cons_zero, List.set_cons_succ, Option.map_some, Option.bind_some, ne_eq, reduceCtorEq, not_false_eq_true, implies_true, beq_self_eq_true, BEq.rfl, if_true, if_false, Bool.false_eq_true, not_true_eq_false, Option.some.injEq, reduceIte, Bool.not_true, Bool.not_false, beq_true, beq_false, Bool.true_and, Bool.and_true, Bool.false_and, Bool.and_false, true_and, List.getElem?_cons_zero, List.getElem?_cons_succ, List.length_cons, List.length_nil, Nat.reduceAdd] <;> rfl) (by rfl) (by rfl) (by rfl)
  · have hle : (j : Int) - 1 ≤ (n : Int) := by omega
    simp (disch := first | (simp only [ne_eq, reduceCtorEq, not_false_eq_true, implies_true, List.getElem?_cons_zero, List.getElem?_cons_succ]; done) | omega) only [f_law06_same_L0, f_law06_same_H0, WS, St.guard, St.put, evalO, reduceCtorEq, reduceIte, Nat.reduceAdd, Nat.reduceEqDiff, q0, ln, hle, decide_true]
    refine WP_of (opP h (D' := D) (by simp [AV.lf, AV.lf.lfs, bytes_lfs]) (fun g => rfl) (fun G' hG' => Read_op HD (by rw [zb]; exact hG')) (by exact gn _ d0)) ?_
    have al0 := fun G => alloc_zeros (G := G) (L := [none, none]) (site := 0) rfl
    have al1 := fun (G : List (Option Blk)) (w : Sec) => alloc_zeros (G := G) (L := [some (dBlk (w.1.map byteAV) false false), none]) (site := 1) rfl
    have st0 := fun (G : List (Option Blk)) (w : Sec) => store_all (G := G) (L := [some (dBlk (zs64.map byteAV) false false), none]) (j := 0) (n := 64) (xs := w.1.map byteAV) (cells := zs64.map byteAV) (o := false) (v := false) rfl rfl (by rw [List.length_map]; exact w.2) bytes_lfs
    have st1 := fun (G : List (Option Blk)) (w : Sec) => store_all (G := G) (L := [some (dBlk (w.1.map byteAV) false false), some (dBlk (zs64.map byteAV) false false)]) (j := 1) (n := 64) (xs := w.1.map byteAV) (cells := zs64.map byteAV) (o := false) (v := false) rfl rfl (by rw [List.length_map]; exact w.2) bytes_lfs
    have dw : ∀ w : Sec, Dat [some (dBlk (w.1.map byteAV) false false), none] := fun w => by intro B hB b e; subst e; simp at hB; subst hB; rfl
    simp (disch := first | (simp only [ne_eq, reduceCtorEq, not_false_eq_true, implies_true, List.getElem?_cons_zero, List.getElem?_cons_succ]; done) | omega) only [WS, St.guard, St.put, evalO, reduceCtorEq, reduceIte, Nat.reduceAdd, Nat.reduceEqDiff, al0, List.set_cons_zero, st0]
    have gw : ∀ w u : Sec, Good ⟨two G P Q D D.sw, [some (dBlk (w.1.map byteAV) false false), some (dBlk (u.1.map byteAV) false false)]⟩ := fun w u => gn _ (by intro B hB b e; subst e; simp at hB; rcases hB with rfl | rfl <;> rfl)
    refine WP_of (opQ h (E' := D.sw) (by simp [AV.lf, AV.lf.lfs, bytes_lfs]) (fun g => rfl) (fun G' hG' => refRead_spec H.ref (D := D.sw) (by show Q.Ok G'.length D.b.length; rw [zb]; exact hG')) (by exact gn _ (dw _))) ?_
    rw [readR_sw, mayR_sw]
    generalize readV D ((j : Int) - 1) = w
    generalize mayE D ((j : Int) - 1) = e
    have lw0 := fun G => load_sec (G := G) (L := [some (dBlk (w.1.map byteAV) false false), some (dBlk (w.1.map byteAV) false false)]) (j := 0) (bs := w.1) (o := false) (v := false) rfl w.2
    have lw1 := fun G => load_sec (G := G) (L := [some (dBlk (w.1.map byteAV) false false), some (dBlk (w.1.map byteAV) false false)]) (j := 1) (bs := w.1) (o := false) (v := false) rfl w.2
    have eq1 : ∀ h : Hp, prim h (.eq true ints64) [.agg (w.1.map byteAV), .agg (w.1.map byteAV)] = some (.v (.bool false), h) := fun h => by rw [eq64 w.2 w.2]; simp
    simp (disch := first | (simp only [ne_eq, reduceCtorEq, not_false_eq_true, implies_true, List.getElem?_cons_zero, List.getElem?_cons_succ]; done) | omega) only [WS, St.guard, St.put, evalO, reduceCtorEq, reduceIte, Nat.reduceAdd, Nat.reduceEqDiff, al1, List.set_cons_zero, List.set_cons_succ, st1, lw0, lw1, eq1, bne_self_eq_false]
    have e3 : (j : Int) - 1 + 1 = ((j + 1 : Nat) : Int) - 1 := by omega
    simp (disch := first | (simp only [ne_eq, reduceCtorEq, not_false_eq_true, implies_true, List.getElem?_cons_zero, List.getElem?_cons_succ]; done) | omega) only [WS, St.guard, St.put, evalO, reduceCtorEq, reduceIte, Nat.reduceAdd, Nat.reduceEqDiff, vBin_add_i64, e3]
    exact clear_fre (by simp only [clear_nil, List.foldl_cons, List.foldl_nil, Option.some.injEq, List.map_cons, List.map_nil, List.getD_cons_zero, List.getD_cons_succ, List.set_cons_zero, List.set_cons_succ, Option.map_some, Option.bind_some, ne_eq, reduceCtorEq, not_false_eq_true, implies_true, beq_self_eq_true, BEq.rfl, if_true, if_false, Bool.false_eq_true, not_true_eq_false, Option.some.injEq, reduceIte, Bool.not_true, Bool.not_false, beq_true, beq_false, Bool.true_and, Bool.and_true, Bool.false_and, Bool.and_false, true_and, List.getElem?_cons_zero, List.getElem?_cons_succ, List.length_cons, List.length_nil, Nat.reduceAdd] <;> rfl) (by rfl) (by rfl) (by rfl)
  · have hle : ¬ ((n + 2 : Nat) : Int) - 1 ≤ (n : Int) := by omega
    simp (disch := first | (simp only [ne_eq, reduceCtorEq, not_false_eq_true, implies_true, List.getElem?_cons_zero, List.getElem?_cons_succ]; done) | omega) only [f_law06_same_L0, f_law06_same_H0, WS, St.guard, St.put, evalO, reduceCtorEq, reduceIte, Nat.reduceAdd, Nat.reduceEqDiff, q0, ln, hle, decide_false, fin_tmp, leave_v]
    simp
end Go.AM
namespace Go.AM
variable {prog : String → Option IFn}
structure OpV where
  o : OpD
  kp : AV
  va : ∀ h, View h kp 1 o.keep.length (o.keep.map intAV)
  hk : I64 o.kind
  ha : I64 o.at'
  hl : o.keep.length ≤ maxLen
def OpV.cells (x : OpV) : List AV := opAV x.o x.kp
theorem OpV.lf (x : OpV) : AV.lf.lfs x.cells = true := by
  have := (ints_plain x.va).2.1
  simp [OpV.cells, opAV, AV.lf.lfs, AV.lf, intAV, this]
def opE : Enc OpV := ⟨OpV.cells, 4, true, fun _ => rfl, by omega, .inl rfl, OpV.lf, fun h => by cases h⟩
abbrev opTy : Ty := .fcons (.int .i64) (.fcons (.int .i64) (.fcons (.int .u8) (.fcons (.slice (.int .i64)) .fnil)))
theorem is_ops {cs : List AV} (h : (Ty.slice opTy).Is cs) : ∃ a, ∃ xs : List OpV, cs = [a] ∧ (∀ h, TView opE h a xs) ∧ xs.length ≤ maxLen := by
  rcases h with rfl | ⟨es, rfl, h, hl⟩
  · exact ⟨_, [], rfl, fun h => view_nil' (by decide), by simp⟩
  · obtain ⟨xs, hb⟩ : ∃ xs : List OpV, es = xs.map opE.E := by
      clear hl
      induction es with
      | nil => exact ⟨[], rfl⟩
      | cons e es ih =>
        obtain ⟨xs, hb⟩ := ih fun x hx => h x (by simp [hx])
        obtain ⟨c1, r1, he, h1, c2, r2, rfl, h2, c3, r3, rfl, h3, c4, r4, rfl, h4, h5⟩ := h e (by simp)
        obtain ⟨n1, rfl, i1⟩ := is_i64 h1
        obtain ⟨n2, rfl, i2⟩ := is_i64 h2
        obtain ⟨c, rfl⟩ := is_u8 h3
        obtain ⟨a, ns, rfl, va, hl, hi⟩ := is_ints h4
        refine ⟨⟨⟨n1, n2, c, ns⟩, a, va, i1, i2, hl⟩ :: xs, ?_⟩
        rw [hb, he, show r4 = [] from h5]; rfl
    subst hb
    have e : (xs.map opE.E).flatten = opE.row xs := by rw [Enc.row, List.flatMap_def]
    refine ⟨_, xs, rfl, fun h => ?_, by simpa using hl⟩
    rw [e, List.length_map]
    exact view_ro (by decide) (opE.row_len xs)
def dpos (i : Nat) (c : Option Nat) (o : Bool) : DPos := ⟨i + 2, i + 1, i, i + 3, c, c, c, o, o, o⟩
theorem dpos_ok {i g n : Nat} {c : Option Nat} {o : Bool} (hi : i + 3 < g) (hc : ∀ x, c = some x → n ≤ x) : (dpos i c o).Ok g n :=
  ⟨show i + 2 < i + 3 by omega, show i + 1 < i + 3 by omega, show i < i + 3 by omega, hi, show i + 2 ≠ i + 1 by omega, show i + 2 ≠ i by omega, show i + 1 ≠ i by omega, hc, hc, hc⟩
theorem dpos_far {i j : Nat} {c c' : Option Nat} {o o' : Bool} (h : i + 4 ≤ j) : Far (dpos i c o) (dpos j c' o') := ⟨fun a ha b hb => by
  simp only [dpos, List.mem_cons, List.not_mem_nil, or_false] at ha hb
  omega⟩
theorem two_ok {G : List (Option Blk)} {i j n : Nat} {c c' : Option Nat} {o o' : Bool} (h : i + 4 ≤ j) (hj : j + 3 < G.length) (hc : ∀ x, c = some x → n ≤ x) (hc' : ∀ x, c' = some x → n ≤ x) : TwoOK G (dpos i c o) (dpos j c' o') n :=
  ⟨dpos_ok (by omega) hc, dpos_ok hj hc', dpos_far h⟩
theorem le_some {n : Nat} : ∀ x, some n = some x → n ≤ x := fun x h => by cases h; exact Nat.le_refl _
theorem le_none {n : Nat} : ∀ x, (none : Option Nat) = some x → n ≤ x := fun x h => by cases h
theorem ren_op {x : OpV} {ρ} : (AV.agg (opAV x.o x.kp)).ren ρ = .agg (opAV x.o x.kp) := ren_id fun ℓ hℓ => by
  rw [lf_of_labs_nil (show (AV.agg (opAV x.o x.kp)).lf = true from x.lf)] at hℓ; cases hℓ
theorem op_ix {h : Hp} {a : AV} {xs : List OpV} {i : Nat} {x : OpV} (v : TView opE h a xs) (hx : xs[i]? = some x) :
    prim h (.indexAddr 4) [a, .v (.int .i64 (i : Int))] = some (elemPtr a 4 i, h) := v.index (lt_of_get hx)
theorem op_ld {h : Hp} {a : AV} {xs : List OpV} {i : Nat} {x : OpV} (v : TView opE h a xs) (hx : xs[i]? = some x) :
    prim h (.load 4 true) [elemPtr a 4 i] = some (.agg (opAV x.o x.kp), h) := v.load hx
structure LawF (prog : String → Option IFn) : Prop extends Law6 prog, StepLib prog, ForkLib prog
theorem aw6_25 : run (look fs6) 400 (.call "haberdash/haberdashlaw06.awake" [] (List.replicate 25 none)) = some (.ret (.v (.bool true)) (List.replicate 25 none)) := by kernel_rfl
theorem awake6_25 (H : Law6 prog) {G} (hG : G.length = 25) : Ev prog (.call "haberdash/haberdashlaw06.awake" [] G) (.ret (.v (.bool true)) G) := ev_run H.fs hG aw6_25
end Go.AM
