import Derived.Test.YtdcnjckkcfoppaaDiskC
import Derived.Test.YtdcnjckkcfoppaaDiskB
set_option linter.unusedVariables false
set_option linter.unusedSimpArgs false
namespace Go.AM
variable {prog : String → Option IFn}
variable {G L : List (Option Blk)} {P : DPos} {D : DskD} {n : Nat}
theorem refNew_spec (H : RefDisk prog) {G} {N : Nat} (h1 : 1 ≤ N) (h2 : N ≤ 20000) :
    Ev prog (.call "haberdash/haberdashref06.New" [.v (.int .i64 (N : Nat))] G) (.ret (.ptr (.o (G.length + 3)) 5 0) (G ++ newO G.length (some N) (some N) (some N) false (newD N))) := by
  refine call_of_fin H.new ?_
  have hroom : room = 140737488355328 := rfl
  simp only [f_ref06_New_B, enter, List.length_cons, List.length_nil, List.replicate, Nat.reduceAdd, Nat.reduceSub, List.cons_append, List.nil_append]
  simp (disch := first | (simp only [DS, reduceCtorEq]; done) | omega) only [WS, St.guard, St.put, evalO, reduceCtorEq, reduceIte, Nat.reduceAdd, Nat.reduceEqDiff]
  refine WDP_er (by exact trivial) rfl ?_
  have m0 := make_T (T := secE) (G := G) (L := [none, none, none, none]) (site := 0) (bytes := 64) (n := N) (k := .i64) (k' := .i64) (z := zeros64) (x0 := zsec) zeros64_map.symm rfl (by omega) (by omega)
  have m1 := make_T (T := secE) (G := G) (L := [none, none, none, none]) (site := 1) (bytes := 64) (n := N) (k := .i64) (k' := .i64) (z := zeros64) (x0 := zsec) zeros64_map.symm rfl (by omega) (by omega)
  have m2 := make_T (T := booE) (G := G) (L := [none, none, none, none]) (site := 2) (bytes := 1) (n := N) (k := .i64) (k' := .i64) (z := [.bool false]) (x0 := false) rfl rfl (by omega) (by omega)
  simp (disch := first | (simp only [DS, reduceCtorEq]; done) | omega) only [WDX_some, reduceIte, if_true, if_false, Bool.and_true, Bool.true_and, true_and, Bool.false_eq_true, false_or, true_or, Hp.over, AM.over, over_nil, List.foldl_cons, List.foldl_nil, List.set_cons_zero, List.set_cons_succ, List.getElem?_cons_zero, List.getElem?_cons_succ, Option.join_some, List.length_cons, List.length_nil, Prim.sites, List.cons_append, List.nil_append]
  refine ⟨_, _, m0, rfl, .inr ⟨rfl, ?_⟩, ?_⟩
  · exact ⟨dBlk_good, trivial⟩
  simp (disch := first | (simp only [DS, reduceCtorEq]; done) | omega) only [WS, St.guard, St.put, evalO, reduceCtorEq, reduceIte, Nat.reduceAdd, Nat.reduceEqDiff, WDX_some, reduceIte, if_true, if_false, Bool.and_true, Bool.true_and, true_and, Bool.false_eq_true, false_or, true_or, Hp.over, AM.over, over_nil, List.foldl_cons, List.foldl_nil, List.set_cons_zero, List.set_cons_succ, List.getElem?_cons_zero, List.getElem?_cons_succ, Option.join_some, List.length_cons, List.length_nil, Prim.sites, List.cons_append, List.nil_append]
  refine WDP_er (by exact ⟨dBlk_good, trivial⟩) rfl ?_
  refine ⟨_, _, m1, rfl, .inr ⟨rfl, ?_⟩, ?_⟩
  · exact ⟨dBlk_good, dBlk_good, trivial⟩
  simp (disch := first | (simp only [DS, reduceCtorEq]; done) | omega) only [WS, St.guard, St.put, evalO, reduceCtorEq, reduceIte, Nat.reduceAdd, Nat.reduceEqDiff, WDX_some, reduceIte, if_true, if_false, Bool.and_true, Bool.true_and, true_and, Bool.false_eq_true, false_or, true_or, Hp.over, AM.over, over_nil, List.foldl_cons, List.foldl_nil, List.set_cons_zero, List.set_cons_succ, List.getElem?_cons_zero, List.getElem?_cons_succ, Option.join_some, List.length_cons, List.length_nil, Prim.sites, List.cons_append, List.nil_append]
  refine WDP_er (by exact ⟨dBlk_good, dBlk_good, trivial⟩) rfl ?_
  refine ⟨_, _, m2, rfl, .inr ⟨rfl, ?_⟩, ?_⟩
  · exact ⟨dBlk_good, dBlk_good, dBlk_good, trivial⟩
  simp (disch := first | (simp only [DS, reduceCtorEq]; done) | omega) only [WS, St.guard, St.put, evalO, reduceCtorEq, reduceIte, Nat.reduceAdd, Nat.reduceEqDiff, WDX_some, reduceIte, if_true, if_false, Bool.and_true, Bool.true_and, true_and, Bool.false_eq_true, false_or, true_or, Hp.over, AM.over, over_nil, List.foldl_cons, List.foldl_nil, List.set_cons_zero, List.set_cons_succ, List.getElem?_cons_zero, List.getElem?_cons_succ, Option.join_some, List.length_cons, List.length_nil, Prim.sites, List.cons_append, List.nil_append]
  have bd : ∀ h : Hp, prim h (.build [.slice none 0 0, .slice none 0 0, .slice none 0 0, .bool false, .int .i64 0] [(0, 1), (1, 1), (2, 1)]) [.own (.l 0) (N * secE.esz) 0 N secE.esz (some N), .own (.l 1) (N * secE.esz) 0 N secE.esz (some N), .own (.l 2) (N * booE.esz) 0 N booE.esz (some N)] =
      some (.agg [.own (.l 0) (N * secE.esz) 0 N secE.esz (some N), .own (.l 1) (N * secE.esz) 0 N secE.esz (some N), .own (.l 2) (N * booE.esz) 0 N booE.esz (some N), .v (.bool false), .v (.int .i64 0)], h) := fun h => rfl
  simp (disch := first | (simp only [DS, reduceCtorEq]; done) | omega) only [WS, St.guard, St.put, evalO, reduceCtorEq, reduceIte, Nat.reduceAdd, Nat.reduceEqDiff, bd]
  refine WDP_of (.prim (box_s (by exact rfl))) (by exact ⟨dBlk_good, dBlk_good, dBlk_good, trivial⟩) (by exact ⟨dBlk_good, dBlk_good, dBlk_good, sBlk_good rfl, trivial⟩) rfl rfl ?_
  simp (disch := first | (simp only [DS, reduceCtorEq]; done) | omega) only [WS, St.guard, St.put, evalO, reduceCtorEq, reduceIte, Nat.reduceAdd, Nat.reduceEqDiff, fin_tmp, or_true]
  have := leave_dsk (G := G) (A := dBlk (secE.row (List.replicate N zsec)) false false) (B := dBlk (secE.row (List.replicate N zsec)) false false) (E := dBlk (booE.row (List.replicate N false)) false false) rfl rfl rfl (n0 := N * secE.esz) (f0 := 0) (l0 := N) (e0 := secE.esz) (c0 := some N)
    (n1 := N * secE.esz) (f1 := 0) (l1 := N) (e1 := secE.esz) (c1 := some N) (n2 := N * booE.esz) (f2 := 0) (l2 := N) (e2 := booE.esz) (c2 := some N) (x := .bool false) (y := .int .i64 0) (fun a => a) (fun ρ a => rfl) (fun a => rfl)
  refine this.trans ?_
  simp only [newO, newD, newP, dobj, dobjC, dav0, dav1, dav2, List.length_replicate]
  rfl
def cloneB (esz bytes : Nat) (z : List Value) : ICode :=
  (.seq (.ops [⟨some 2, .id, [.c (.slice none 0 0)], none, [], [], false⟩])
    (.seq
      (.seq (.ops [⟨some 3, .id, [.t 0], none, [], [], false⟩, ⟨some 4, .eqNil false .slice, [.t 3, .c (.slice none 0 0)], none, [], [], false⟩])
        (.cond (.t 4) (.seq (.ops [⟨some 2, .id, [.c (.slice none 0 0)], none, [], [], false⟩]) .ret) .skip))
      (.seq
        (.ops [⟨some 5, .buildSlice 0 false esz 0 z [], [], none, [], [], false⟩, ⟨some 6, .id, [.t 0], none, [], [], false⟩,
          ⟨some 7, .append 1 false esz bytes, [.t 5, .t 6], none, [], [], false⟩, ⟨some 2, .id, [.t 7], none, [], [], false⟩])
        .ret)))
theorem build0T {G L} {site esz : Nat} {z : List Value} (hL : L[site]? = some none) : prim ⟨G, L⟩ (.buildSlice site false esz 0 z []) [] = some (.own (.l site) 0 0 0 esz (some 0), ⟨G, L.set site (some (dBlk [] false false))⟩) := by
  simp only [px_buildSlice, Hp.mayFreeze, Bool.false_eq_true, if_false, Option.bind_some, List.replicate_zero, List.flatten_nil, fills, Nat.zero_mul, List.length_nil, if_true, Hp.new, hL, Option.map_some]
  rfl
theorem append_cap0T {G L} {site j bytes k esz : Nat} {x : AV} {new : List AV} (hL : L[j]? = some (some (dBlk [] false false))) (hs : L[site]? = some none) (hv : View ⟨G, L⟩ x esz k new) (hd : AV.lf.lfs new = true) (h0 : 0 < k) (hr : k * bytes ≤ room) :
    prim ⟨G, L⟩ (.append site false esz bytes) [.own (.l j) 0 0 0 esz (some 0), x] = some (.own (.l site) (k * esz) 0 k esz none, ⟨G, L.set site (some (dBlk new true false))⟩) := by
  simp only [prim, hv.source, Option.bind_some, Hp.mayFreeze, Bool.false_eq_true, if_false, Hp.append, hv.hclen, if_true, Hp.get, hL, Option.join_some, dBlk_cells, Nat.zero_add]
  refine (if_pos ⟨rfl, trivial, hr, rfl⟩).trans ?_
  rw [if_neg (by omega), if_neg (by omega)]
  simp only [Hp.new, hs, Option.map_some, dBlk, hd, Nat.zero_mul, List.take_zero, List.drop_zero, List.nil_append, Bool.and_self]
theorem CloneT {nm} {esz bytes : Nat} {z : List Value} (hf : prog nm = some ⟨8, 2, [.tmp 2], cloneB esz bytes z⟩) {G a} {k : Nat} {new : List AV} (w : ∀ L, View ⟨G, L⟩ a esz k new) (hd : AV.lf.lfs new = true) (hn : ∀ L, (⟨G, L⟩ : Hp).isNil .slice a = some false) (h0 : 0 < k) (hr : k * bytes ≤ room) :
    Ev prog (.call nm [a] G) (.ret (.own (.o G.length) (k * esz) 0 k esz none) (G ++ [some (dBlk new true false)])) := by
  refine call_of_fin hf ?_
  simp only [cloneB, enter, List.length_cons, List.length_nil, List.replicate, Nat.reduceAdd, Nat.reduceSub, List.cons_append, List.nil_append]
  simp (disch := first | (simp only [DS, reduceCtorEq]; done) | omega) only [WS, St.guard, St.put, evalO, reduceCtorEq, reduceIte, Nat.reduceAdd, Nat.reduceEqDiff, isNilV, hn]
  rw [build0T rfl]
  simp (disch := first | (simp only [DS, reduceCtorEq]; done) | omega) only [WS, St.guard, St.put, evalO, reduceCtorEq, reduceIte, Nat.reduceAdd, Nat.reduceEqDiff]
  rw [append_cap0T (j := 0) (site := 1) rfl rfl (w _) hd h0 hr]
  simp (disch := first | (simp only [DS, reduceCtorEq]; done) | omega) only [WS, St.guard, St.put, evalO, reduceCtorEq, reduceIte, Nat.reduceAdd, Nat.reduceEqDiff, fin_tmp]
  exact ⟨by simp, leave_own1 (j := 1) rfl rfl⟩
end Go.AM
namespace Go.AM
variable {prog : String → Option IFn}
variable {G L : List (Option Blk)} {P : DPos} {D : DskD} {n : Nat}
structure ForkLib (prog : String → Option IFn) : Prop where
  fork : prog "(*haberdash/disk.Disk).Fork" = some f___disk_Disk__Fork
  clone64 : prog "slices.Clone[[][64]byte,[64]byte]" = some f_slices_Clone____64_byte__64_byte_
  cloneb : prog "slices.Clone[[]bool,bool]" = some f_slices_Clone___bool_bool_
end Go.AM
namespace Go.AM
variable {prog : String → Option IFn}
variable {G L : List (Option Blk)} {P Q : DPos} {D E : DskD} {n : Nat}
theorem WDP_callU {k : List Kf} {s : St} {Z : Out → St → Prop} {f xs u dst l} {r : AV} {G' : List (Option Blk)} (he : ∀ L, Good ⟨s.h.G, L⟩ → Ev prog (.op (.call f []) xs ⟨s.h.G, L⟩) (.val r ⟨G', L⟩)) (hg : Good s.h)
    (h : WD prog l k (({ s with h := ⟨G', s.h.L⟩ } : St).put dst r) Z) : WDP prog (.call f []) xs u [] true dst l k s Z := by
  refine ⟨r, ⟨G', s.h.L⟩, fun X hX => ?_, hg.okAt, .inl rfl, fun _ _ => rfl, h⟩
  exact he _ (hg.over hX)
structure OpD where
  kind : Int
  at' : Int
  c : UInt8
  keep : List Int
def lastB (s : Sec) (x : UInt8) : Sec := secSet s 63 x
def byteI (n : Int) : UInt8 := UInt8.ofNat (IntKind.u8.wrap n).toNat
def DskD.step (D : DskD) (o : OpD) : DskD := match umod o.kind 6 with
  | 0 => D.write o.at' (lastB (fullS o.c) (byteI o.at'))
  | 1 => D.write o.at' (lastB (fullS o.c) (byteI o.at'))
  | 2 => D.sync
  | 3 => { D with armed := o.at'.toNat }
  | 4 => D.crash o.keep
  | _ => D.start
structure StepLib (prog : String → Option IFn) : Prop extends DiskLib prog where
  ref : RefDisk prog
  rcopy : prog "(*haberdash/haberdashref06.Disk).Copy" = some f___ref06_Disk__Copy
  rread : prog "(*haberdash/haberdashref06.Disk).Read" = some f___ref06_Disk__Read
  full : prog "haberdash/haberdashlaw06.full" = some f_law06_full
  step : prog "haberdash/haberdashlaw06.step" = some f_law06_step
  same : prog "haberdash/haberdashlaw06.same" = some f_law06_same
structure Siz (D : DskD) (N : Nat) : Prop where
  a : D.a.length = N
  b : D.b.length = N
  l : D.l.length = N
  armed : D.armed < 2 ^ 63
theorem Siz.hit {D : DskD} {N} (h : Siz D N) : Siz D.hit N := by
  have := h.armed
  unfold DskD.hit; split
  · exact h
  · exact ⟨h.a, h.b, h.l, by show D.armed - 1 < 2 ^ 63; omega⟩
theorem Siz.put {D : DskD} {N i s} (h : Siz D N) : Siz (D.put i s) N := ⟨h.a, by simp [DskD.put, h.b], by simp [DskD.put, h.l], h.armed⟩
theorem Siz.write {D : DskD} {N i s} (h : Siz D N) : Siz (D.write i s) N := by unfold DskD.write; split; exact h.put.hit; exact h
theorem Siz.sync {D : DskD} {N} (h : Siz D N) : Siz D.sync N := by
  unfold DskD.sync; split
  · split
    · exact h.hit
    · exact ⟨h.b, h.hit.b, by simp [h.l], h.hit.armed⟩
  · exact h
theorem Siz.settle {D : DskD} {N K} (h : Siz D N) : Siz (D.settle K) N := by
  obtain ⟨h1, h2, h3, _⟩ := settleN_len (D := D) (K := K) D.b.length
  exact ⟨h1.trans h.a, h2.trans h.b, h3.trans h.l, by show (0 : Nat) < _; omega⟩
theorem Siz.crash {D : DskD} {N ks} (h : Siz D N) : Siz (D.crash ks) N := by
  have := h.settle (K := keepAt ks); exact ⟨this.a, this.b, this.l, this.armed⟩
theorem Siz.start {D : DskD} {N} (h : Siz D N) : Siz D.start N := by
  unfold DskD.start; split
  · have := h.settle (K := fun _ => 0); exact ⟨this.a, this.b, this.l, this.armed⟩
  · exact h
theorem Siz.step {D : DskD} {N o} (h : Siz D N) (ho : o.at' < 2 ^ 63) : Siz (D.step o) N := by
  unfold DskD.step
  split
  · exact h.write
  · exact h.write
  · exact h.sync
  · exact ⟨h.a, h.b, h.l, by show o.at'.toNat < 2 ^ 63; omega⟩
  · exact h.crash
  · exact h.start
theorem Siz.new {N} : Siz (newD N) N := ⟨by simp [newD], by simp [newD], by simp [newD], by show (0 : Nat) < _; omega⟩
end Go.AM
namespace Go.AM
variable {prog : String → Option IFn}
variable {G L : List (Option Blk)} {P Q : DPos} {D E : DskD} {n : Nat}
theorem ren_sec {s : Sec} {ρ} : (AV.agg (s.1.map byteAV)).ren ρ = .agg (s.1.map byteAV) := ren_bytes
end Go.AM
namespace Go.AM
variable {prog : String → Option IFn}
def dpos (i : Nat) (c : Option Nat) (o : Bool) : DPos := ⟨i + 2, i + 1, i, i + 3, c, c, c, o, o, o⟩
theorem dpos_ok {i g n : Nat} {c : Option Nat} {o : Bool} (hi : i + 3 < g) (hc : ∀ x, c = some x → n ≤ x) : (dpos i c o).Ok g n :=
  ⟨show i + 2 < i + 3 by omega, show i + 1 < i + 3 by omega, show i < i + 3 by omega, hi, show i + 2 ≠ i + 1 by omega, show i + 2 ≠ i by omega, show i + 1 ≠ i by omega, hc, hc, hc⟩
theorem le_some {n : Nat} : ∀ x, some n = some x → n ≤ x := fun x h => by cases h; exact Nat.le_refl _
theorem row_fld {α : Type} {T : Enc α} {xs : List α} {i f : Nat} {x : α} {y : AV} (hx : xs[i]? = some x) (hf : f < T.esz) (hy : (T.E x)[f]? = some y) : (T.row xs)[i * T.esz + f]? = some y := by
  have ch := T.row_chunk hx
  have := congrArg (fun l : List AV => l[f]?) ch
  simp only [List.getElem?_take] at this
  rw [if_pos hf, List.getElem?_drop] at this
  rw [this, hy]
structure LawF (prog : String → Option IFn) : Prop extends Law6 prog, StepLib prog, ForkLib prog
end Go.AM
