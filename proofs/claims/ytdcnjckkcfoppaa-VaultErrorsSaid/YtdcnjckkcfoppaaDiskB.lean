import Derived.Test.YtdcnjckkcfoppaaDiskA
set_option linter.unusedVariables false
set_option linter.unusedSimpArgs false
namespace Go.AM
variable {prog : String → Option IFn}
variable {G L : List (Option Blk)} {P : DPos} {D : DskD} {n : Nat}
theorem make_T {α : Type} {T : Enc α} {G L} {site bytes n : Nat} {k k' : IntKind} {z : List Value} {x0 : α} (hz : T.E x0 = z.map AV.v) (hL : L[site]? = some none) (h1 : n ≤ room) (h2 : n * bytes ≤ room) :
    prim ⟨G, L⟩ (.makeSlice site T.esz bytes z) [.v (.int k (n : Int)), .v (.int k' (n : Int))] = some (.own (.l site) (n * T.esz) 0 n T.esz (some n), ⟨G, L.set site (some (dBlk (T.row (List.replicate n x0)) false false))⟩) := by
  have e : (List.replicate n (z.map AV.v)).flatten = T.row (List.replicate n x0) := by rw [Enc.row, List.flatMap_def, List.map_replicate, hz]
  rw [px_makeSlice, natOf_nat, natOf_nat]
  simp only [Option.bind_some, e]
  refine (if_pos ⟨Nat.le_refl _, h1, h2, by rw [← List.length_map (f := AV.v), ← hz, T.len]⟩).trans ?_
  rw [newBlk_data (T.row_lf _)]
  simp only [Hp.new, hL, Option.map_some]
theorem leave_dsk {G : List (Option Blk)} {A B E : Blk} (hA : A.labs = []) (hB : B.labs = []) (hE : E.labs = []) {n0 f0 l0 e0 n1 f1 l1 e1 n2 f2 l2 e2 : Nat} {c0 c1 c2 : Option Nat} {x y : Value} (C : AV → AV) (hC : ∀ ρ a, (C a).ren ρ = C (a.ren ρ)) (hCl : ∀ a, (C a).labs = a.labs) :
    (⟨G, [some A, some B, some E, some (sBlk [.own (.l 0) n0 f0 l0 e0 c0, .own (.l 1) n1 f1 l1 e1 c1, .own (.l 2) n2 f2 l2 e2 c2, .v x, .v y] false)]⟩ : Hp).leave (C (.ptr (.l 3) 5 0)) =
      some (C (.ptr (.o (G.length + 3)) 5 0), G ++ [some E, some B, some A, some (sBlk [.own (.o (G.length + 2)) n0 f0 l0 e0 c0, .own (.o (G.length + 1)) n1 f1 l1 e1 c1, .own (.o G.length) n2 f2 l2 e2 c2, .v x, .v y] false)]) := by
  have hcol : collect (⟨G, [some A, some B, some E, some (sBlk [.own (.l 0) n0 f0 l0 e0 c0, .own (.l 1) n1 f1 l1 e1 c1, .own (.l 2) n2 f2 l2 e2 c2, .v x, .v y] false)]⟩ : Hp) 40 [.l 3] [] = [3, 0, 1, 2] := by
    have hs : (sBlk [.own (.l 0) n0 f0 l0 e0 c0, .own (.l 1) n1 f1 l1 e1 c1, .own (.l 2) n2 f2 l2 e2 c2, .v x, .v y] false).labs = [.l 0, .l 1, .l 2] := rfl
    simp [collect, Hp.get, hs, hA, hB, hE]
  have rA : ∀ ρ, A.ren ρ = A := fun ρ => blk_ren_id fun ℓ hℓ => by rw [hA] at hℓ; cases hℓ
  have rB : ∀ ρ, B.ren ρ = B := fun ρ => blk_ren_id fun ℓ hℓ => by rw [hB] at hℓ; cases hℓ
  have rE : ∀ ρ, E.ren ρ = E := fun ρ => blk_ren_id fun ℓ hℓ => by rw [hE] at hℓ; cases hℓ
  have rs : (sBlk [.own (.l 0) n0 f0 l0 e0 c0, .own (.l 1) n1 f1 l1 e1 c1, .own (.l 2) n2 f2 l2 e2 c2, .v x, .v y] false).ren (keepMap G.length [2, 1, 0, 3]) =
      sBlk [.own (.o (G.length + 2)) n0 f0 l0 e0 c0, .own (.o (G.length + 1)) n1 f1 l1 e1 c1, .own (.o G.length) n2 f2 l2 e2 c2, .v x, .v y] false := rfl
  unfold Hp.leave
  simp only [hCl, AV.labs, hcol, List.reverse_cons, List.reverse_nil, List.nil_append, List.cons_append, List.map_cons, List.map_nil, List.getElem?_cons_zero, List.getElem?_cons_succ, Option.join_some, Option.map_some, rA, rB, rE, rs, hC]
  rw [if_pos]
  · rfl
  · refine ⟨?_, by decide⟩
    have hl2 : (sBlk [.own (.o (G.length + 2)) n0 f0 l0 e0 c0, .own (.o (G.length + 1)) n1 f1 l1 e1 c1, .own (.o G.length) n2 f2 l2 e2 c2, .v x, .v y] false).labs = [.o (G.length + 2), .o (G.length + 1), .o G.length] := rfl
    simp only [outBlks, hA, hB, hE, hl2, List.all_nil, List.all_cons, Bool.and_true, Bool.true_and, labLt]
    simp
    omega
def newP (g : Nat) (c0 c1 c2 : Option Nat) (o : Bool) : DPos := ⟨g + 2, g + 1, g, g + 3, c0, c1, c2, o, o, o⟩
def newO (g : Nat) (c0 c1 c2 : Option Nat) (o : Bool) (D : DskD) : List (Option Blk) := [dboo o D.l, dsec o D.b, dsec o D.a, dobj .o (newP g c0 c1 c2 o) D]
theorem op_dsk {f xs} {i0 i1 i2 i3 : Nat} {h : Hp} {c0 c1 c2 : Option Nat} {o : Bool} (R : AV → AV) (hR : ∀ ρ a, (R a).ren ρ = R (a.ren ρ))
    (he : Ev prog (.call f (xs.map (AV.ren (up h.G.length))) h.into) (.ret (R (.ptr (.o (h.into.length + 3)) 5 0)) (h.into ++ newO h.into.length c0 c1 c2 o D)))
    (hd : [i0, i1, i2, i3].Nodup) (h0 : h.L[i0]? = some none) (h1 : h.L[i1]? = some none) (h2 : h.L[i2]? = some none) (h3 : h.L[i3]? = some none) (hg : Good h) :
    Ev prog (.op (.call f [i0, i1, i2, i3]) xs h) (.val (R (.ptr (.l i3) 5 0)) ⟨h.G, (((h.L.set i0 (dboo o D.l)).set i1 (dsec o D.b)).set i2 (dsec o D.a)).set i3 (dobj .l ⟨i2, i1, i0, i3, c0, c1, c2, o, o, o⟩ D)⟩) := by
  refine .opCall hg.okBlks he ?_
  have hfr : [i0, i1, i2, i3].all (free h.L) = true := by simp [free_of_get h0, free_of_get h1, free_of_get h2, free_of_get h3]
  rw [back_into (h' := h) rfl rfl hg.refsOK (by simp [newO]) hd hfr hfr]
  have e4 : padTo [i0, i1, i2, i3].length (newO h.into.length c0 c1 c2 o D) = newO h.into.length c0 c1 c2 o D := rfl
  rw [e4]
  have d1 : down h.G.length h.L.length [i0, i1, i2, i3] (.o (h.into.length + 1)) = some (.l i1) := down_into 1
  have d2 : down h.G.length h.L.length [i0, i1, i2, i3] (.o (h.into.length + 2)) = some (.l i2) := down_into 2
  have d3 : down h.G.length h.L.length [i0, i1, i2, i3] (.o (h.into.length + 3)) = some (.l i3) := down_into 3
  have d0 : down h.G.length h.L.length [i0, i1, i2, i3] (.o h.into.length) = some (.l i0) := down_into0
  have e3 : (R (.ptr (.o (h.into.length + 3)) 5 0)).ren (down h.G.length h.L.length [i0, i1, i2, i3]) = R (.ptr (.l i3) 5 0) := by
    rw [hR]; simp only [AV.ren, d3]
  have eo : (dobj .o (newP h.into.length c0 c1 c2 o) D).map (Blk.ren (down h.G.length h.L.length [i0, i1, i2, i3])) = dobj .l ⟨i2, i1, i0, i3, c0, c1, c2, o, o, o⟩ D := by
    simp only [dobj, dobjC, dav0, dav1, dav2, newP, Option.map_some, Blk.ren, sBlk, Bool.false_eq_true, if_false, AV.ren.rens, AV.ren, d0, d1, d2]
  simp only [newO, List.map_cons, List.map_nil, e3, eo, AM.putAll]
  rfl
def newD (N : Nat) : DskD := ⟨List.replicate N zsec, List.replicate N zsec, List.replicate N false, false, 0⟩
theorem New_spec (H : DiskLib prog) {G} {N : Nat} (h1 : 1 ≤ N) (h2 : N ≤ 20000) :
    Ev prog (.call "haberdash/disk.New" [.v (.int .i64 (N : Nat))] G) (.ret (.tup [.ptr (.o (G.length + 3)) 5 0, .v (.int .i64 0)]) (G ++ newO G.length (some N) (some N) (some N) false (newD N))) := by
  refine call_of_fin H.new ?_
  have hroom : room = 140737488355328 := rfl
  simp only [f_disk_New_B, enter, List.length_cons, List.length_nil, List.replicate, Nat.reduceAdd, Nat.reduceSub, List.cons_append, List.nil_append]
  have n1 : ¬ (N : Int) < 1 := by omega
  have n2 : ¬ (N : Int) > 20000 := by omega
  simp (disch := first | (simp only [DS, reduceCtorEq]; done) | omega) only [WS, St.guard, St.put, evalO, reduceCtorEq, reduceIte, Nat.reduceAdd, Nat.reduceEqDiff, n1, n2, decide_false]
  refine WDP_er (by exact trivial) rfl ?_
  have m0 := make_T (T := secE) (G := G) (L := [none, none, none, none]) (site := 0) (bytes := 64) (n := N) (k := .i64) (k' := .i64) (z := zeros64) (x0 := zsec) zeros64_map.symm rfl (by omega) (by omega)
  have m1 := make_T (T := secE) (G := G) (L := [none, none, none, none]) (site := 1) (bytes := 64) (n := N) (k := .i64) (k' := .i64) (z := zeros64) (x0 := zsec) zeros64_map.symm rfl (by omega) (by omega)
  have m2 := make_T (T := booE) (G := G) (L := [none, none, none, none]) (site := 2) (bytes := 1) (n := N) (k := .i64) (k' := .i64) (z := [.bool false]) (x0 := false) rfl rfl (by omega) (by omega)
  simp (disch := first | (simp only [DS, reduceCtorEq]; done) | omega) only [WDX_some, reduceIte, if_true, if_false, Bool.and_true, Bool.true_and, true_and, Bool.false_eq_true, false_or, true_or, Hp.over, AM.over, over_nil, List.foldl_cons, List.foldl_nil, List.set_cons_zero, List.set_cons_succ, List.getElem?_cons_zero, List.getElem?_cons_succ, Option.join_some, List.length_cons, List.length_nil, Prim.sites, List.cons_append, List.nil_append]
  refine ⟨_, _, m0, rfl, .inr ⟨rfl, ?_⟩, ?_⟩
  · exact ⟨dBlk_good, trivial⟩
  simp (disch := first | (simp only [DS, reduceCtorEq]; done) | omega) only [WS, St.guard, St.put, evalO, reduceCtorEq, reduceIte, Nat.reduceAdd, Nat.reduceEqDiff, WDX_some, reduceIte, if_true, if_false, Bool.and_true, Bool.true_and, true_and, Bool.false_eq_true, false_or, true_or, Hp.over, AM.over, over_nil, List.foldl_cons, List.foldl_nil, List.set_cons_zero, List.set_cons_succ, List.getElem?_cons_zero, List.getElem?_cons_succ, Option.join_some, List.length_cons, List.length_nil, Prim.sites, List.cons_append, List.nil_append]
  refine WDP_er (by exact ⟨dBlk_good, trivial⟩) rfl ?_
  refine ⟨_, _, m1, rfl, .inr ⟨rfl, ?_⟩, ?_⟩
  · exact ⟨dBlk_good, dBlk_good, trivial⟩
  simp (disch := first | (simp only [DS, reduceCtorEq]; done) | omega) only [WS, St.guard, St.put, evalO, reduceCtorEq, reduceIte, Nat.reduceAdd, Nat.reduceEqDiff, WDX_some, reduceIte, if_true, if_false, Bool.and_true, Bool.true_and, true_and, Bool.false_eq_true, false_or, true_or, Hp.over, AM.over, over_nil, List.foldl_cons, List.foldl_nil, List.set_cons_zero, List.set_cons_succ, List.getElem?_cons_zero, List.getElem?_cons_succ, Option.join_some, List.length_cons, List.length_nil, Prim.sites, List.cons_append, List.nil_append]
  refine WDP_er (by exact ⟨dBlk_good, dBlk_good, trivial⟩) rfl ?_
  refine ⟨_, _, m2, rfl, .inr ⟨rfl, ?_⟩, ?_⟩
  · exact ⟨dBlk_good, dBlk_good, dBlk_good, trivial⟩
  simp (disch := first | (simp only [DS, reduceCtorEq]; done) | omega) only [WS, St.guard, St.put, evalO, reduceCtorEq, reduceIte, Nat.reduceAdd, Nat.reduceEqDiff, WDX_some, reduceIte, if_true, if_false, Bool.and_true, Bool.true_and, true_and, Bool.false_eq_true, false_or, true_or, Hp.over, AM.over, over_nil, List.foldl_cons, List.foldl_nil, List.set_cons_zero, List.set_cons_succ, List.getElem?_cons_zero, List.getElem?_cons_succ, Option.join_some, List.length_cons, List.length_nil, Prim.sites, List.cons_append, List.nil_append]
  have bd : ∀ h : Hp, prim h (.build [.slice none 0 0, .slice none 0 0, .slice none 0 0, .bool false, .int .i64 0] [(0, 1), (1, 1), (2, 1)]) [.own (.l 0) (N * secE.esz) 0 N secE.esz (some N), .own (.l 1) (N * secE.esz) 0 N secE.esz (some N), .own (.l 2) (N * booE.esz) 0 N booE.esz (some N)] =
      some (.agg [.own (.l 0) (N * secE.esz) 0 N secE.esz (some N), .own (.l 1) (N * secE.esz) 0 N secE.esz (some N), .own (.l 2) (N * booE.esz) 0 N booE.esz (some N), .v (.bool false), .v (.int .i64 0)], h) := fun h => rfl
  simp (disch := first | (simp only [DS, reduceCtorEq]; done) | omega) only [WS, St.guard, St.put, evalO, reduceCtorEq, reduceIte, Nat.reduceAdd, Nat.reduceEqDiff, bd]
  refine WDP_of (.prim (box_s (by exact rfl))) (by exact ⟨dBlk_good, dBlk_good, dBlk_good, trivial⟩) (by exact ⟨dBlk_good, dBlk_good, dBlk_good, sBlk_good rfl, trivial⟩) rfl rfl ?_
  simp (disch := first | (simp only [DS, reduceCtorEq]; done) | omega) only [WS, St.guard, St.put, evalO, reduceCtorEq, reduceIte, Nat.reduceAdd, Nat.reduceEqDiff, fin_tmp2, or_true]
  have := leave_dsk (G := G) (A := dBlk (secE.row (List.replicate N zsec)) false false) (B := dBlk (secE.row (List.replicate N zsec)) false false) (E := dBlk (booE.row (List.replicate N false)) false false) rfl rfl rfl (n0 := N * secE.esz) (f0 := 0) (l0 := N) (e0 := secE.esz) (c0 := some N)
    (n1 := N * secE.esz) (f1 := 0) (l1 := N) (e1 := secE.esz) (c1 := some N) (n2 := N * booE.esz) (f2 := 0) (l2 := N) (e2 := booE.esz) (c2 := some N) (x := .bool false) (y := .int .i64 0) (fun a => .tup [a, .v (.int .i64 0)]) (fun ρ a => rfl) (fun a => by simp [AV.labs, AV.labs.labss])
  refine this.trans ?_
  simp only [newO, newD, newP, dobj, dobjC, dav0, dav1, dav2, List.length_replicate]
  rfl
end Go.AM
namespace Go.AM
variable {prog : String → Option IFn}
variable {G L : List (Option Blk)} {P : DPos} {D : DskD} {n : Nat}
structure Law6 (prog : String → Option IFn) : Prop extends DiskLib prog where
  awake : prog "haberdash/haberdashlaw06.awake" = some f_law06_awake
  full : prog "haberdash/haberdashlaw06.full" = some f_law06_full
theorem mayE_on {at' : Nat} (ho : D.off = false) (hi : at' < D.b.length) : mayE D (at' : Int) = 0 := by unfold mayE; rw [ho, if_neg (by simp), if_neg (by omega)]
theorem hit_off (ha : D.armed = 0) : D.hit = D := by unfold DskD.hit; rw [if_pos ha]
end Go.AM
namespace Go.AM
variable {prog : String → Option IFn}
variable {N : Nat} {D : DskD} {X : List (Option Blk)}
def Dat (X : List (Option Blk)) : Prop := ∀ B ∈ X, ∀ b, B = some b → b.labs = []
theorem goodX : ∀ {X : List (Option Blk)} {g k : Nat}, Dat X → goodL g k X
  | [], _, _, _ => trivial
  | B :: X, g, k, h => goodD (fun b e => h B (by simp) b e) (goodX fun C hC => h C (by simp [hC]))
section
variable (H : DiskLib prog) (hX : Dat X)
include H hX
end
end Go.AM
