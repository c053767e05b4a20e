import Derived.Test.YtdcnjckkcfoppaaDiskC
import Derived.Test.YtdcnjckkcfoppaaDiskB
set_option linter.unusedVariables false
set_option linter.unusedSimpArgs false
namespace Go.AM
variable {prog : String → Option IFn}
variable {G L : List (Option Blk)} {P : DPos} {D : DskD} {n : Nat}
def cloneB (esz bytes : Nat) (z : List Value) : ICode :=
  (.seq (.ops [⟨some 2, .id, [.c (.slice none 0 0)], none, [], [], false⟩])
    (.seq
      (.seq (.ops [⟨some 3, .id, [.t 0], none, [], [], false⟩, ⟨some 4, .eqNil false .slice, [.t 3, .c (.slice none 0 0)], none, [], [], false⟩])
        (.cond (.t 4) (.seq (.ops [⟨some 2, .id, [.c (.slice none 0 0)], none, [], [], false⟩]) .ret) .skip))
      (.seq
        (.ops [⟨some 5, .buildSlice 0 false esz 0 z [], [], none, [], [], false⟩, ⟨some 6, .id, [.t 0], none, [], [], false⟩,
          ⟨some 7, .append 1 false esz bytes, [.t 5, .t 6], none, [], [], false⟩, ⟨some 2, .id, [.t 7], none, [], [], false⟩])
        .ret)))
theorem build0T {G L} {site esz : Nat} {z : List Value} (hL : L[site]? = some none) : prim ⟨G, L⟩ (.buildSlice site false esz 0 z []) [] = some (.own (.l site) 0 0 0 esz (some 0), ⟨G, L.set site (some (dBlk [] false false))⟩) := by
  simp only [px_buildSlice, Hp.mayFreeze, Bool.false_eq_true, if_false, Option.bind_some, List.replicate_zero, List.flatten_nil, fills, Nat.zero_mul, List.length_nil, if_true, Hp.new, hL, Option.map_some]
  rfl
theorem append_cap0T {G L} {site j bytes k esz : Nat} {x : AV} {new : List AV} (hL : L[j]? = some (some (dBlk [] false false))) (hs : L[site]? = some none) (hv : View ⟨G, L⟩ x esz k new) (hd : AV.lf.lfs new = true) (h0 : 0 < k) (hr : k * bytes ≤ room) :
    prim ⟨G, L⟩ (.append site false esz bytes) [.own (.l j) 0 0 0 esz (some 0), x] = some (.own (.l site) (k * esz) 0 k esz none, ⟨G, L.set site (some (dBlk new true false))⟩) := by
  simp only [prim, hv.source, Option.bind_some, Hp.mayFreeze, Bool.false_eq_true, if_false, Hp.append, hv.hclen, if_true, Hp.get, hL, Option.join_some, dBlk_cells, Nat.zero_add]
  refine (if_pos ⟨rfl, trivial, hr, rfl⟩).trans ?_
  rw [if_neg (by omega), if_neg (by omega)]
  simp only [Hp.new, hs, Option.map_some, dBlk, hd, Nat.zero_mul, List.take_zero, List.drop_zero, List.nil_append, Bool.and_self]
theorem CloneT {nm} {esz bytes : Nat} {z : List Value} (hf : prog nm = some ⟨8, 2, [.tmp 2], cloneB esz bytes z⟩) {G a} {k : Nat} {new : List AV} (w : ∀ L, View ⟨G, L⟩ a esz k new) (hd : AV.lf.lfs new = true) (hn : ∀ L, (⟨G, L⟩ : Hp).isNil .slice a = some false) (h0 : 0 < k) (hr : k * bytes ≤ room) :
    Ev prog (.call nm [a] G) (.ret (.own (.o G.length) (k * esz) 0 k esz none) (G ++ [some (dBlk new true false)])) := by
  refine call_of_fin hf ?_
  simp only [cloneB, enter, List.length_cons, List.length_nil, List.replicate, Nat.reduceAdd, Nat.reduceSub, List.cons_append, List.nil_append]
  simp (disch := first | (simp only [DS, reduceCtorEq]; done) | omega) only [WS, St.guard, St.put, evalO, reduceCtorEq, reduceIte, Nat.reduceAdd, Nat.reduceEqDiff, isNilV, hn]
  rw [build0T rfl]
  simp (disch := first | (simp only [DS, reduceCtorEq]; done) | omega) only [WS, St.guard, St.put, evalO, reduceCtorEq, reduceIte, Nat.reduceAdd, Nat.reduceEqDiff]
  rw [append_cap0T (j := 0) (site := 1) rfl rfl (w _) hd h0 hr]
  simp (disch := first | (simp only [DS, reduceCtorEq]; done) | omega) only [WS, St.guard, St.put, evalO, reduceCtorEq, reduceIte, Nat.reduceAdd, Nat.reduceEqDiff, fin_tmp]
  exact ⟨by simp, leave_own1 (j := 1) rfl rfl⟩
end Go.AM
namespace Go.AM
variable {prog : String → Option IFn}
variable {G L : List (Option Blk)} {P : DPos} {D : DskD} {n : Nat}
structure ForkLib (prog : String → Option IFn) : Prop where
  fork : prog "(*haberdash/disk.Disk).Fork" = some f___disk_Disk__Fork
  clone64 : prog "slices.Clone[[][64]byte,[64]byte]" = some f_slices_Clone____64_byte__64_byte_
  cloneb : prog "slices.Clone[[]bool,bool]" = some f_slices_Clone___bool_bool_
theorem ForkLib.c64 (H : ForkLib prog) : prog "slices.Clone[[][64]byte,[64]byte]" = some ⟨8, 2, [.tmp 2], cloneB 64 64 zeros64⟩ := H.clone64.trans (congrArg some rfl)
theorem ForkLib.cb (H : ForkLib prog) : prog "slices.Clone[[]bool,bool]" = some ⟨8, 2, [.tmp 2], cloneB 1 1 [.bool false]⟩ := H.cloneb.trans (congrArg some rfl)
end Go.AM
namespace Go.AM
variable {prog : String → Option IFn}
variable {G L : List (Option Blk)} {P Q : DPos} {D E : DskD} {n : Nat}
theorem WDP_callU {k : List Kf} {s : St} {Z : Out → St → Prop} {f xs u dst l} {r : AV} {G' : List (Option Blk)} (he : ∀ L, Good ⟨s.h.G, L⟩ → Ev prog (.op (.call f []) xs ⟨s.h.G, L⟩) (.val r ⟨G', L⟩)) (hg : Good s.h)
    (h : WD prog l k (({ s with h := ⟨G', s.h.L⟩ } : St).put dst r) Z) : WDP prog (.call f []) xs u [] true dst l k s Z := by
  refine ⟨r, ⟨G', s.h.L⟩, fun X hX => ?_, hg.okAt, .inl rfl, fun _ _ => rfl, h⟩
  exact he _ (hg.over hX)
structure Far (P Q : DPos) : Prop where
  f : ∀ a ∈ [P.q0, P.q1, P.q2, P.p], ∀ b ∈ [Q.q0, Q.q1, Q.q2, Q.p], a ≠ b
theorem Far.symm (h : Far P Q) : Far Q P := ⟨fun a ha b hb e => h.f b hb a ha e.symm⟩
def two (G : List (Option Blk)) (P Q : DPos) (D E : DskD) : List (Option Blk) := dset (dset G Q E) P D
structure TwoOK (G : List (Option Blk)) (P Q : DPos) (n : Nat) : Prop where
  p : P.Ok G.length n
  q : Q.Ok G.length n
  far : Far P Q
theorem TwoOK.pp (h : TwoOK G P Q n) : P.Ok (dset G Q E).length n := by rw [dset_len]; exact h.p
structure OpD where
  kind : Int
  at' : Int
  c : UInt8
  keep : List Int
def lastB (s : Sec) (x : UInt8) : Sec := secSet s 63 x
def byteI (n : Int) : UInt8 := UInt8.ofNat (IntKind.u8.wrap n).toNat
def DskD.step (D : DskD) (o : OpD) : DskD := match umod o.kind 6 with
  | 0 => D.write o.at' (lastB (fullS o.c) (byteI o.at'))
  | 1 => D.write o.at' (lastB (fullS o.c) (byteI o.at'))
  | 2 => D.sync
  | 3 => { D with armed := o.at'.toNat }
  | 4 => D.crash o.keep
  | _ => D.start
structure StepLib (prog : String → Option IFn) : Prop extends DiskLib prog where
  ref : RefDisk prog
  rcopy : prog "(*haberdash/haberdashref06.Disk).Copy" = some f___ref06_Disk__Copy
  rread : prog "(*haberdash/haberdashref06.Disk).Read" = some f___ref06_Disk__Read
  full : prog "haberdash/haberdashlaw06.full" = some f_law06_full
  step : prog "haberdash/haberdashlaw06.step" = some f_law06_step
  same : prog "haberdash/haberdashlaw06.same" = some f_law06_same
structure Siz (D : DskD) (N : Nat) : Prop where
  a : D.a.length = N
  b : D.b.length = N
  l : D.l.length = N
  armed : D.armed < 2 ^ 63
theorem Siz.hit {D : DskD} {N} (h : Siz D N) : Siz D.hit N := by
  have := h.armed
  unfold DskD.hit; split
  · exact h
  · exact ⟨h.a, h.b, h.l, by show D.armed - 1 < 2 ^ 63; omega⟩
theorem Siz.put {D : DskD} {N i s} (h : Siz D N) : Siz (D.put i s) N := ⟨h.a, by simp [DskD.put, h.b], by simp [DskD.put, h.l], h.armed⟩
theorem Siz.write {D : DskD} {N i s} (h : Siz D N) : Siz (D.write i s) N := by unfold DskD.write; split; exact h.put.hit; exact h
theorem Siz.sync {D : DskD} {N} (h : Siz D N) : Siz D.sync N := by
  unfold DskD.sync; split
  · split
    · exact h.hit
    · exact ⟨h.b, h.hit.b, by simp [h.l], h.hit.armed⟩
  · exact h
theorem Siz.settle {D : DskD} {N K} (h : Siz D N) : Siz (D.settle K) N := by
  obtain ⟨h1, h2, h3, _⟩ := settleN_len (D := D) (K := K) D.b.length
  exact ⟨h1.trans h.a, h2.trans h.b, h3.trans h.l, by show (0 : Nat) < _; omega⟩
theorem Siz.crash {D : DskD} {N ks} (h : Siz D N) : Siz (D.crash ks) N := by
  have := h.settle (K := keepAt ks); exact ⟨this.a, this.b, this.l, this.armed⟩
theorem Siz.start {D : DskD} {N} (h : Siz D N) : Siz D.start N := by
  unfold DskD.start; split
  · have := h.settle (K := fun _ => 0); exact ⟨this.a, this.b, this.l, this.armed⟩
  · exact h
theorem Siz.step {D : DskD} {N o} (h : Siz D N) (ho : o.at' < 2 ^ 63) : Siz (D.step o) N := by
  unfold DskD.step
  split
  · exact h.write
  · exact h.write
  · exact h.sync
  · exact ⟨h.a, h.b, h.l, by show o.at'.toNat < 2 ^ 63; omega⟩
  · exact h.crash
  · exact h.start
theorem Siz.new {N} : Siz (newD N) N := ⟨by simp [newD], by simp [newD], by simp [newD], by show (0 : Nat) < _; omega⟩
end Go.AM
namespace Go.AM
variable {prog : String → Option IFn}
variable {G L : List (Option Blk)} {P Q : DPos} {D E : DskD} {n : Nat}
theorem ren_sec {s : Sec} {ρ} : (AV.agg (s.1.map byteAV)).ren ρ = .agg (s.1.map byteAV) := ren_bytes
def opAV (o : OpD) (kp : AV) : List AV := [intAV o.kind, intAV o.at', .v (u8 o.c), kp]
end Go.AM
namespace Go.AM
variable {prog : String → Option IFn}
structure OpV where
  o : OpD
  kp : AV
  va : ∀ h, View h kp 1 o.keep.length (o.keep.map intAV)
  hk : I64 o.kind
  ha : I64 o.at'
  hl : o.keep.length ≤ maxLen
def OpV.cells (x : OpV) : List AV := opAV x.o x.kp
theorem OpV.lf (x : OpV) : AV.lf.lfs x.cells = true := by
  have := (ints_plain x.va).2.1
  simp [OpV.cells, opAV, AV.lf.lfs, AV.lf, intAV, this]
def dpos (i : Nat) (c : Option Nat) (o : Bool) : DPos := ⟨i + 2, i + 1, i, i + 3, c, c, c, o, o, o⟩
theorem dpos_ok {i g n : Nat} {c : Option Nat} {o : Bool} (hi : i + 3 < g) (hc : ∀ x, c = some x → n ≤ x) : (dpos i c o).Ok g n :=
  ⟨show i + 2 < i + 3 by omega, show i + 1 < i + 3 by omega, show i < i + 3 by omega, hi, show i + 2 ≠ i + 1 by omega, show i + 2 ≠ i by omega, show i + 1 ≠ i by omega, hc, hc, hc⟩
theorem le_some {n : Nat} : ∀ x, some n = some x → n ≤ x := fun x h => by cases h; exact Nat.le_refl _
theorem row_fld {α : Type} {T : Enc α} {xs : List α} {i f : Nat} {x : α} {y : AV} (hx : xs[i]? = some x) (hf : f < T.esz) (hy : (T.E x)[f]? = some y) : (T.row xs)[i * T.esz + f]? = some y := by
  have ch := T.row_chunk hx
  have := congrArg (fun l : List AV => l[f]?) ch
  simp only [List.getElem?_take] at this
  rw [if_pos hf, List.getElem?_drop] at this
  rw [this, hy]
structure LawF (prog : String → Option IFn) : Prop extends Law6 prog, StepLib prog, ForkLib prog
end Go.AM
