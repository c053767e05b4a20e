import Derived.RangeFuncNested
import Derived.RangeFuncBound
import Derived.RangeFuncCalls
import Derived.RangeFuncLeaves
import Derived.RangeFuncBox
import Derived.Shelf.Abstract
import Derived.Shelf.RegionOpen
import Derived.Maps.AppendAt
import Derived.WalkKit
import Derived.OwnWalkIn
import Derived.TacticsInMore
import Derived.LoopNIn
import Derived.LoopIn
import Derived.Sort.CutIn
import Derived.Test.YtphknfgiljkjaaaProg
set_option linter.unusedVariables false
set_option linter.unusedSimpArgs false
namespace Go.Proofs
open Go.RowKit Go.Shelf
attribute [local go_sem] Oper.semAt_some
def OneRow (w : World) (v : Value) : Prop := ∀ g, v.ownBlock = some g → ∀ cur e r, w.heap[g]? = some (Obj.cells cur e r) → ∀ u ∈ cur, u.oneCell' = true
theorem OneRow.nil {w : World} : OneRow w (.slice none 0 0) := fun g h => by simp [Value.ownBlock] at h
theorem OneRow.kept {w w' : World} {v : Value} {row : Option Nat} (h : OneRow w v) (hg : w.grownBy w' row) (hlt : ∀ g, v.ownBlock = some g → g < w.heap.size) (hne : v.ownBlock = none ∨ v.ownBlock ≠ row) : OneRow w' v := fun g hv cur e r hc => by
  refine h g hv cur e r ?_
  rw [← hg.block g (hlt g hv) (by rw [← hv]; exact hne.resolve_left (by rw [hv]; simp))]
  exact hc
theorem zero_one {z : Array Value} (hz : ∀ u ∈ z, u.oneCell' = true) (n : Nat) : ∀ u ∈ Builtin.zeroCells z n, u.oneCell' = true := by
  intro u hu
  simp [Builtin.zeroCells] at hu
  obtain ⟨i, h1, h2⟩ := hu
  have h0 : 0 < z.size := Nat.pos_of_ne_zero fun e => by rw [e] at h1; simp at h1
  have hi : i % z.size < z.size := Nat.mod_lt _ h0
  rw [← h2, getElem!_pos z (i % z.size) hi]
  exact hz _ (Array.getElem_mem hi)
theorem append_own2 {P : Program} (w : World) (base : Nat) (t ty e : TypeId) (i : TypeInfo) (z : Value) (size bytes : Nat) (ht : P.underlying t = some (.slice e)) (hi : P.info? e = some i) (hz : i.zero = some z)
    (hsize : i.size = size) (hby : i.bytes = bytes) (hzs : z.cells.size = size) (hz1 : ∀ u ∈ z.cells, u.oneCell' = true)
    (v : Value) (n : Nat) (xs : List Value) (hown : w.ownsRow base e size v n xs) (hone : OneRow w v)
    (a : Addr) (m c : Nat) (news : List Value) (hl : news.length = m * size) (hnews : ∀ j u, news[j]? = some u → w.cell? (a.add j) = some u) (h1 : ∀ u ∈ news, u.oneCell' = true)
    (h63 : n + m ≤ maxLen) (hbytes : (n + m) * bytes ≤ 140737488355328) (hbase : base ≤ w.heap.size) :
    ∃ v' w', (Builtin.append_ #[t, t] ty #[v, .slice (some a) m c]).run P w = .ok v' w' ∧ w'.ownsRow base e size v' (n + m) (xs ++ news) ∧ w.grownBy w' v.ownBlock ∧
      (v' = .slice none 0 0 ↔ v = .slice none 0 0 ∧ m = 0) ∧ OneRow w' v' ∧ (v'.ownBlock = v.ownBlock ∨ ∀ g, v'.ownBlock = some g → w.heap.size ≤ g) := by
  subst hsize
  subst hby
  have hsmall : n + m ≤ 9223372036854775807 := by simp only [maxLen] at h63; omega
  have hlen : (xs ++ news).length = (n + m) * i.size := by rw [List.length_append, hown.1, hl, Nat.add_mul]
  have grown : ∀ (old : Nat), old < n + m → (∀ u ∈ xs, u.oneCell' = true) → ∀ (row : Option Nat),
      (w.drew.alloc (.cells (xs.toArray ++ news.toArray ++ Builtin.zeroCells z.cells (grownCap w (n + m) old e - (n + m))) e)).ownsRow base e i.size
        (.slice (some ⟨w.heap.size, 0, none⟩) (n + m) (grownCap w (n + m) old e)) (n + m) (xs ++ news) ∧
      w.grownBy (w.drew.alloc (.cells (xs.toArray ++ news.toArray ++ Builtin.zeroCells z.cells (grownCap w (n + m) old e - (n + m))) e)) row ∧
      OneRow (w.drew.alloc (.cells (xs.toArray ++ news.toArray ++ Builtin.zeroCells z.cells (grownCap w (n + m) old e - (n + m))) e)) (.slice (some ⟨w.heap.size, 0, none⟩) (n + m) (grownCap w (n + m) old e)) := by
    intro old ho hx row
    have hge := grownCap_ge w (n + m) old e
    have hcm : grownCap w (n + m) old e ≤ maxLen := grownCap_le_maxLen w (n + m) old e h63
    refine ⟨⟨hlen, .inr ⟨w.heap.size, _, _, rfl, hbase, World.alloc_heap_new w.drew _, hge, hcm, ?_, ?_⟩⟩, ⟨rfl, rfl, rfl, by simp, fun k hk _ => Below.heap_alloc w.drew _ k hk⟩, fun g hg cur e' r hc u hu => ?_⟩
    · simp only [Array.size_append, List.size_toArray, size_zeroCells, hzs, hown.1, hl, ← Nat.add_mul]
      congr 1
      omega
    · simp only [Array.toList_append, List.append_assoc]
      rw [← List.append_assoc, ← hlen]
      exact List.take_left
    · obtain rfl : w.heap.size = g := by simpa [Value.ownBlock] using hg
      have hn := World.alloc_heap_new w.drew (.cells (xs.toArray ++ news.toArray ++ Builtin.zeroCells z.cells (grownCap w (n + m) old e - (n + m))) e)
      have hn' := hn.symm.trans hc
      simp only [Option.some.injEq, Obj.cells.injEq] at hn'
      rw [← hn'.1] at hu
      simp only [Array.mem_append, List.mem_toArray] at hu
      rcases hu with (hu | hu) | hu
      · exact hx u hu
      · exact h1 u hu
      · exact zero_one hz1 _ u hu
  rcases hown.2 with ⟨rfl, rfl⟩ | ⟨g, cap, cur, rfl, hbg, hg, hnc, hcm, hcs, htake⟩
  · have hx : xs = [] := List.eq_nil_of_length_eq_zero (by simpa using hown.1)
    subst hx
    by_cases hm : m = 0
    · subst hm
      have hn : news = [] := List.eq_nil_of_length_eq_zero (by simpa using hl)
      subst hn
      refine ⟨.slice none 0 0, w, ?_, World.ownsRow_nil w base e i.size, ⟨rfl, rfl, rfl, Nat.le_refl _, fun _ _ _ => rfl⟩, by simp, .nil, .inl rfl⟩
      simp [Builtin.append_, run_underlying ht, sizeOf, typeInfo, hi, Builtin.lenOf, Builtin.firstCells, loadCells, loadCellsFrom]
    · have hr := run_append_nil (P := P) w t ty e i z ht hi hz a m c news hl hnews (by omega) (by omega) (by have hb := hbytes; simp only [Nat.zero_add] at hb; omega)
      have hgr := grown 0 (by omega) (by simp) (Value.ownBlock (.slice none 0 0))
      simp only [Nat.zero_add, List.nil_append, Array.empty_append] at hgr ⊢
      exact ⟨_, _, hr, hgr.1, hgr.2.1, by simp [hm], hgr.2.2, .inr fun g h => by (obtain rfl : w.heap.size = g := by simpa [Value.ownBlock] using h); exact Nat.le_refl _⟩
  · have ho := hone g rfl _ _ _ hg
    by_cases hroom : n + m ≤ cap
    · have hfit : n * i.size + news.length ≤ cur.size := by rw [hl, hcs, ← Nat.add_mul]; exact Nat.mul_le_mul_right _ hroom
      have hr := run_append_room (P := P) w t ty e i ht hi g n cap cur hg a m c news hl hnews h1 hroom hfit
      refine ⟨_, _, hr, ⟨hlen, .inr ⟨g, cap, _, rfl, hbg, setRow_heap w g cur _ e _ hg, hroom, hcm, ?_, ?_⟩⟩, ⟨rfl, rfl, rfl, by simp, fun k _ hk => setRow_other w g k _ (fun e => hk (by simp [Value.ownBlock, e]))⟩, by simp, fun g' hg' cur' e' r' hc u hu => ?_, .inl rfl⟩
      · simp only [List.size_toArray, List.length_append, List.length_take, List.length_drop, Array.length_toList]
        omega
      · rw [htake, ← hlen]
        exact List.take_left
      · obtain rfl : g = g' := by simpa [Value.ownBlock] using hg'
        have hn' := (setRow_heap w g cur _ e _ hg).symm.trans hc
        simp only [Option.some.injEq, Obj.cells.injEq] at hn'
        rw [← hn'.1] at hu
        simp only [List.mem_toArray, List.mem_append] at hu
        rcases hu with (hu | hu) | hu
        · exact ho u (by simpa using List.mem_of_mem_take hu)
        · exact h1 u hu
        · exact ho u (by simpa using List.mem_of_mem_drop hu)
    · have holds : ∀ j u, xs[j]? = some u → w.cell? ((⟨g, 0, none⟩ : Addr).add j) = some u := hown.cells (g := g) rfl
      have hr := run_append_grow (P := P) w t ty e i z ht hi hz ⟨g, 0, none⟩ n cap xs hown.1 holds a m c news hl hnews (by omega) (by omega) (growslice_fits (by omega) hbytes)
      have hgr := grown cap (by omega) (fun u hu => ho u (by rw [← htake] at hu; simpa using List.mem_of_mem_take hu)) (Value.ownBlock (.slice (some ⟨g, 0, none⟩) n cap))
      exact ⟨_, _, hr, hgr.1, hgr.2.1, by simp, hgr.2.2, .inr fun g h => by (obtain rfl : w.heap.size = g := by simpa [Value.ownBlock] using h); exact Nat.le_refl _⟩
theorem wpListIn_append_own2 {F : Fence} {n : Nat} {P : Program} (w : World) {ops : Array Oper} {rest : List Oper} {o : Oper} {a : Act} {Q : Exit → Act → World → Prop}
    (hg : o.guard = none) (s x : Operand) (t : TypeId) (hop : o.op = Op.call { callee := Callee.builtin Builtin.append, args := #[s, x], argTypes := #[t, t] })
    (base : Nat) (e : TypeId) (i : TypeInfo) (z : Value) (size bytes : Nat) (h1 : P.underlying t = some (.slice e)) (h2 : P.info? e = some i) (h3 : i.zero = some z) (h4 : i.size = size) (h5 : i.bytes = bytes) (h6 : z.cells.size = size) (h7 : ∀ u ∈ z.cells, u.oneCell' = true)
    (v : Value) (k : Nat) (xs : List Value) (hs : a.eval s = v) (hown : w.ownsRow base e size v k xs) (hone : OneRow w v) (ad : Addr) (m c : Nat) (news : List Value) (hx : a.eval x = .slice (some ad) m c) (hn : news.length = m * size)
    (hc : ∀ j u, news[j]? = some u → w.cell? (ad.add j) = some u) (h1c : ∀ u ∈ news, u.oneCell' = true) (b1 : k + m ≤ maxLen) (b2 : (k + m) * bytes ≤ 140737488355328) (b3 : base ≤ w.heap.size)
    (hK : ∀ v' w', w'.ownsRow base e size v' (k + m) (xs ++ news) → w.grownBy w' v.ownBlock → (v' = .slice none 0 0 ↔ v = .slice none 0 0 ∧ m = 0) → OneRow w' v' → (v'.ownBlock = v.ownBlock ∨ ∀ g, v'.ownBlock = some g → w.heap.size ≤ g) → wpListIn F n P ops Q rest (a.put o.dst v') w') :
    wpListIn F n P ops Q (o :: rest) a w := by
  refine wpListIn_plain hg fun K hK' => ?_
  obtain ⟨v', w', hrun, r1, r2, r3, r4, r5⟩ := append_own2 (P := P) w base t o.type e i z size bytes h1 h2 h3 h4 h5 h6 h7 v k xs hown hone ad m c news hn hc h1c b1 b2 b3
  unfold Oper.wpIn
  refine ⟨?_, ?_⟩
  · simp [Oper.about, hop, resolve, Target.leads, Sem.run_pure]
  · rw [Oper.semAt_plain F _ _ (by rw [hop]; intro c hc'; cases hc')]
    simp [execOp, hop, resolve, invoke, builtin, hs, hx, hrun, Result.andThen]
    exact hK' _ _ (hK v' w' r1 r2 r3 r4 r5)
def RowsX (n₀ : Nat) (W : World) (g n : Nat) (R : Nat → List Nat) : Prop :=
  ∃ vs : Array Value, W.heap[g]? = some (.cells vs 66 (0, 0)) ∧ vs.size = n ∧ n₀ ≤ g ∧
    (∀ (i : Nat) v, vs[i]? = some v → W.ownsRow n₀ 3 1 v (R i).length ((R i).map fun (k : Nat) => .int .i64 (k : Int)) ∧ OneRow W v ∧ (v = .slice none 0 0 ↔ R i = [])) ∧
    ∀ (i j : Nat) v v', vs[i]? = some v → vs[j]? = some v' → i ≠ j → v.ownBlock = none ∨ v.ownBlock ≠ v'.ownBlock
theorem below_grown {W W' : World} (h : Below W.heap.size W W') (row : Option Nat) : W.grownBy W' row := ⟨h.os, h.tape, h.output, h.size, fun k hk _ => h.block k hk⟩
theorem RowsX.lt {n₀ : Nat} {W : World} {g n : Nat} {R} (h : RowsX n₀ W g n R) : g < W.heap.size := by
  obtain ⟨vs, h1, _⟩ := h
  exact (Array.getElem?_eq_some_iff.1 h1).1
theorem RowsX.congr {n₀ : Nat} {W : World} {g n : Nat} {R R'} (h : RowsX n₀ W g n R) (e : ∀ i, i < n → R' i = R i) : RowsX n₀ W g n R' := by
  obtain ⟨vs, h1, h2, h3, h4, h5⟩ := h
  refine ⟨vs, h1, h2, h3, fun i v hv => ?_, h5⟩
  rw [e i (by rw [← h2]; exact (Array.getElem?_eq_some_iff.1 hv).1)]
  exact h4 i v hv
theorem RowsX.kept {n₀ : Nat} {W W' : World} {g n : Nat} {R} (h : RowsX n₀ W g n R) (hb : Below W.heap.size W W') : RowsX n₀ W' g n R := by
  have hlt := h.lt
  obtain ⟨vs, h1, h2, h3, h4, h5⟩ := h
  refine ⟨vs, by rw [hb.block g hlt]; exact h1, h2, h3, fun i v hv => ?_, h5⟩
  obtain ⟨a, b, c⟩ := h4 i v hv
  have hn : v.ownBlock = none ∨ v.ownBlock ≠ none := by cases v.ownBlock <;> simp
  exact ⟨a.kept (below_grown hb none) hn, b.kept (below_grown hb none) (fun g hg => (a.lt g hg).2) hn, c⟩
theorem RowsX.new {n₀ : Nat} {W : World} (n : Nat) (h : n₀ ≤ W.heap.size) : RowsX n₀ (W.alloc (.cells (madeCells #[Value.slice none 0 0] n) 66)) W.heap.size n (fun _ => []) := by
  have e : ∀ (i : Nat) v, (madeCells #[Value.slice none 0 0] n)[i]? = some v → v = .slice none 0 0 := fun i v hv => by
    simp only [madeCells, Array.getElem?_map] at hv
    obtain ⟨j, _, rfl⟩ := Option.map_eq_some_iff.1 hv
    simp [Nat.mod_one]
  refine ⟨_, World.alloc_heap_new _ _, by rw [size_madeCells], h, fun i v hv => ?_, fun i j v v' hv hv' hne => ?_⟩
  · obtain rfl := e i v hv
    exact ⟨World.ownsRow_nil _ _ _ _, .nil, by simp⟩
  · obtain rfl := e i v hv
    exact .inl rfl
theorem RowsX.put {n₀ : Nat} {W w1 w2 : World} {g n i k : Nat} {R} {vs : Array Value} {v v' : Value} (hg : W.heap[g]? = some (.cells vs 66 (0, 0))) (h : RowsX n₀ W g n R) (hv : vs[i]? = some v) (hb : Below W.heap.size W w1)
    (hgr : w1.grownBy w2 v.ownBlock) (ho : w2.ownsRow n₀ 3 1 v' ((R i).length + 1) ((R i).map (fun (k : Nat) => Value.int .i64 (k : Int)) ++ [.int .i64 (k : Int)])) (hone : OneRow w2 v')
    (hf : v'.ownBlock = v.ownBlock ∨ ∀ g, v'.ownBlock = some g → w1.heap.size ≤ g) :
    RowsX n₀ (w2.setCell ⟨g, i, none⟩ v') g n (fun j => if j = i then R i ++ [k] else R j) ∧ (∀ k, k < n₀ → (w2.setCell ⟨g, i, none⟩ v').heap[k]? = W.heap[k]?) := by
  have hlt := h.lt
  obtain ⟨vs', h1, h2, h3, h4, h5⟩ := h
  rw [hg] at h1
  simp only [Option.some.injEq, Obj.cells.injEq, and_true] at h1
  subst h1
  obtain ⟨a, b, c⟩ := h4 i v hv
  have gne : ∀ (j : Nat) u, vs[j]? = some u → u.ownBlock ≠ some g := fun j u hu e => by
    obtain ⟨a', _, _⟩ := h4 j u hu
    rcases a'.2 with ⟨rfl, _⟩ | ⟨g', cap, cur, rfl, _, hc, _⟩
    · simp [Value.ownBlock] at e
    · obtain rfl : g' = g := by simpa [Value.ownBlock] using e
      rw [hg] at hc
      simp at hc
  have hg1 : w1.heap[g]? = some (.cells vs 66 (0, 0)) := (hb.block g hlt).trans hg
  have hg2 : w2.heap[g]? = some (.cells vs 66 (0, 0)) := (hgr.block g (Nat.lt_of_lt_of_le hlt hb.size) (fun e => gne i v hv e.symm)).trans hg1
  have hi : i < vs.size := (Array.getElem?_eq_some_iff.1 hv).1
  have gne' : v'.ownBlock ≠ some g := by
    rcases hf with hf | hf
    · rw [hf]; exact gne i v hv
    · intro e
      have := hf g e
      have := hb.size
      omega
  have nn : ∀ {u : Value}, u.ownBlock = none ∨ u.ownBlock ≠ none := fun {u} => by cases u.ownBlock <;> simp
  have other : ∀ (j : Nat) u, vs[j]? = some u → j ≠ i → (u.ownBlock = none ∨ u.ownBlock ≠ v.ownBlock) ∧ (u.ownBlock = none ∨ u.ownBlock ≠ v'.ownBlock) := fun j u hu hj => by
    have e1 := h5 j i u v hu hv hj
    refine ⟨e1, ?_⟩
    rcases hf with hf | hf
    · rw [hf]; exact e1
    · by_cases hn : u.ownBlock = none
      · exact .inl hn
      · obtain ⟨g', hg'⟩ := Option.ne_none_iff_exists'.1 hn
        refine .inr fun e => ?_
        have l1 := ((h4 j u hu).1.lt g' hg').2
        have l2 := hf g' (by rw [← e, hg'])
        have := hb.size
        omega
  refine ⟨⟨vs.setIfInBounds i v', heap_setCell_same _ _ _ _ _ _ hg2, by simp [h2], h3, fun j u hu => ?_, fun j j' u u' hu hu' hne => ?_⟩, fun k' hk' => ?_⟩
  · rw [Array.getElem?_setIfInBounds] at hu
    by_cases hj : i = j
    · subst hj
      rw [if_pos rfl, if_pos hi] at hu
      cases hu
      simp only [if_true, List.length_append, List.length_cons, List.length_nil, Nat.zero_add, List.map_append, List.map_cons, List.map_nil]
      refine ⟨ownsRow_setCell_other ho (a := ⟨g, i, none⟩) gne' _, fun g' hg' cur e r hc => ?_, ?_⟩
      · rw [Below.heap_setCell _ _ _ _ (fun e => gne' (by rw [hg', e]))] at hc
        exact hone g' hg' cur e r hc
      · constructor
        · rintro rfl
          have := ho.2
          simp at this
        · intro e; simp at e
    · rw [if_neg hj] at hu
      have hji : ¬ j = i := fun e => hj e.symm
      simp only [hji, if_false]
      obtain ⟨a', b', c'⟩ := h4 j u hu
      have l1 := fun g hg => (a'.lt g hg).2
      have o1 := a'.kept (below_grown hb none) nn
      have p1 := b'.kept (below_grown hb none) l1 nn
      have o2 := o1.kept hgr (other j u hu (fun e => hj e.symm)).1
      have p2 := p1.kept hgr (fun g hg => (o1.lt g hg).2) (other j u hu (fun e => hj e.symm)).1
      refine ⟨ownsRow_setCell_other o2 (a := ⟨g, i, none⟩) (gne j u hu) _, fun g' hg' cur e r hc => ?_, c'⟩
      rw [Below.heap_setCell _ _ _ _ (fun e => gne j u hu (by rw [hg', e]))] at hc
      exact p2 g' hg' cur e r hc
  · rw [Array.getElem?_setIfInBounds] at hu hu'
    by_cases hj : i = j
    · subst hj
      rw [if_pos rfl, if_pos hi] at hu
      rw [if_neg hne] at hu'
      cases hu
      have := (other j' u' hu' (fun e => hne e.symm)).2
      rcases this with e | e
      · by_cases hn : v'.ownBlock = none
        · exact .inl hn
        · exact .inr (by rw [e]; exact hn)
      · exact .inr (fun e' => e e'.symm)
    · rw [if_neg hj] at hu
      by_cases hj' : i = j'
      · subst hj'
        rw [if_pos rfl, if_pos hi] at hu'
        cases hu'
        exact (other j u hu (fun e => hj e.symm)).2
      · rw [if_neg hj'] at hu'
        exact h5 j j' u u' hu hu' hne
  · have hkg : k' ≠ g := by omega
    have hk1 : k' < W.heap.size := by omega
    rw [Below.heap_setCell _ _ _ _ hkg, hgr.block k' (Nat.lt_of_lt_of_le hk1 hb.size) (fun e => ?_), hb.block k' hk1]
    have := (a.lt k' e.symm).1
    omega
structure ItX where
  s : ByteArray
  c : ByteArray
  q : Int
  b : Bool
structure ScX where
  ua : Option Addr
  ul : Nat
  uc : Nat
  va : Option Addr
  vl : Nat
  vc : Nat
def whoX (H : Nat → Nat → Bool) (i k : Nat) : List Nat := (List.range k).filter fun j => H j i
theorem whoX_succ (H : Nat → Nat → Bool) (i k : Nat) : whoX H i (k + 1) = whoX H i k ++ if H k i then [k] else [] := by
  unfold whoX
  rw [List.range_succ, List.filter_append]
  cases h : H k i <;> simp [h]
theorem whoX_len (H : Nat → Nat → Bool) (i k : Nat) : (whoX H i k).length ≤ k := by
  have := List.length_filter_le (fun j => H j i) (List.range k)
  simpa [whoX] using this
theorem info66 : (Try.prog.info? 66).map (fun i => (i.zero, i.size, i.bytes)) = some (some (.slice none 0 0), 1, 24) := by kernel_rfl
theorem info3 : (Try.prog.info? 3).map (fun i => (i.zero, i.size, i.bytes)) = some (some (.int .i64 0), 1, 8) := by kernel_rfl
theorem RowsX.not_out {n₀ : Nat} {W : World} {g n i : Nat} {R} {vs : Array Value} {v : Value} (h : RowsX n₀ W g n R) (hg : W.heap[g]? = some (.cells vs 66 (0, 0))) (hv : vs[i]? = some v) : v.ownBlock ≠ some g := fun e => by
  obtain ⟨vs', h1, h2, h3, h4, h5⟩ := h
  rw [hg] at h1
  simp only [Option.some.injEq, Obj.cells.injEq, and_true] at h1
  subst h1
  obtain ⟨a', _, _⟩ := h4 i v hv
  rcases a'.2 with ⟨rfl, _⟩ | ⟨g', cap, cur, rfl, _, hc, _⟩
  · simp [Value.ownBlock] at e
  · obtain rfl : g' = g := by simpa [Value.ownBlock] using e
    rw [hg] at hc
    simp at hc
theorem cell1_new (W : World) (a : Value) (t : TypeId) : ∀ j u, [a][j]? = some u → (W.alloc (Obj.cells #[a] t)).cell? ((⟨W.heap.size, 0, none⟩ : Addr).add j) = some u := fun j u h => by
  have hn := World.alloc_heap_new W (Obj.cells #[a] t)
  have hj : j < 1 := (List.getElem?_eq_some_iff.1 h).1
  obtain rfl : j = 0 := by omega
  have e : (⟨W.heap.size, 0, none⟩ : Addr).add 0 = ⟨W.heap.size, 0, none⟩ := rfl
  rw [e]
  simp only [World.cell?]
  rw [hn]
  exact h
set_option maxRecDepth 100000 in
set_option maxHeartbeats 4000000 in
theorem index_in (F : Fence) (n : Nat) (h26 : F.fn 26) (h40 : F.fn 40) (hro : F.round = none) (hn : 6 ≤ n)
    (b off cap d doff dcap : Nat) (xs : List ItX) (ss : List ScX) (hx : xs.length ≤ 1000000) (hs : ss.length ≤ 1000000)
    (a : Option Addr) (ha : xs ≠ [] → a = some ⟨b, off, none⟩) (a2 : Option Addr) (ha2 : ss ≠ [] → a2 = some ⟨d, doff, none⟩) (w : World)
    (hb : xs ≠ [] → b < w.heap.size) (hd : ss ≠ [] → d < w.heap.size)
    (hc : ∀ (j : Nat) x, xs[j]? = some x → w.cell? ⟨b, off + j * 4, none⟩ = some (.string x.s) ∧ w.cell? ⟨b, off + j * 4 + 1, none⟩ = some (.string x.c) ∧ w.cell? ⟨b, off + j * 4 + 2, none⟩ = some (.int .i64 x.q) ∧ w.cell? ⟨b, off + j * 4 + 3, none⟩ = some (.bool x.b))
    (hcs : ∀ (j : Nat) s, ss[j]? = some s → w.cell? ⟨d, doff + j * 2, none⟩ = some (.slice s.ua s.ul s.uc) ∧ w.cell? ⟨d, doff + j * 2 + 1, none⟩ = some (.slice s.va s.vl s.vc))
    (hsl : ∀ (j : Nat) s, ss[j]? = some s → s.ul ≤ 281474976710656 ∧ s.vl ≤ 281474976710656)
    (H1 H2 H : Nat → Nat → Bool) (hH : ∀ (j i : Nat) s, ss[j]? = some s → H j i = (decide (s.ul + s.vl = 0) || H1 j i || H2 j i))
    (hH1 : ∀ (j i : Nat) s x, ss[j]? = some s → xs[i]? = some x → ∀ W, Below w.heap.size w W → CallsIn F (n - 1) Try.prog 40 #[.slice s.ua s.ul s.uc, .string x.s] W fun e W' => e = .returned (.bool (H1 j i)) ∧ Below W.heap.size W W')
    (hH2 : ∀ (j i : Nat) s x, ss[j]? = some s → xs[i]? = some x → ∀ W, Below w.heap.size w W → CallsIn F (n - 1) Try.prog 40 #[.slice s.va s.vl s.vc, .string x.c] W fun e W' => e = .returned (.bool (H2 j i)) ∧ Below W.heap.size W W') :
    CallsIn F n Try.prog 26 #[.slice a xs.length cap, .slice a2 ss.length dcap] w fun e W' => e = .returned (.slice (some ⟨w.heap.size, 0, none⟩) xs.length xs.length) ∧ RowsX w.heap.size W' w.heap.size xs.length (fun i => whoX H i ss.length) ∧ Below w.heap.size w W' := by
  have h1 : 1 ≤ n := by omega
  refine callsIn_of_wp Try.func26 rfl h26 ?_ hro
  simp only [Try.ntmps26, List.size_toArray, List.length_cons, List.length_nil, Nat.reduceAdd, Nat.reduceSub, Array.replicate_succ, Array.replicate_zero, List.push_toArray, List.append_toArray, List.nil_append, List.cons_append]
  obtain ⟨i44, hi, hz0, hz1, hz2⟩ := info_parts info66
  have hmk := run_make (P := Try.prog) w 44 66 i44 (.slice none 0 0) Try.underlying44 hi hz0 .i64 .i64 (xs.length : Int) (xs.length : Int) (by omega) (by omega) (by rw [hz2]; omega) (by omega)
  rw [hz1, Int.toNat_natCast] at hmk
  gi_wp2
  clear hmk
  obtain ⟨i3, hj, hj0, hj1, hj2⟩ := info_parts info3
  gi_loopw [18] (fun i wr => ∃ k : Nat, k ≤ ss.length ∧ i = .int .i64 k ∧ RowsX w.heap.size wr w.heap.size xs.length (fun i => whoX H i k) ∧ Below w.heap.size w wr)
    (fun i _ => ss.length - (intOf i).toNat)
  case atStart => exact ⟨0, Nat.zero_le _, rfl, RowsX.new _ (Nat.le_refl _), (Below.refl _ _).alloc (Nat.le_refl _) _⟩
  case round =>
    obtain ⟨k, hk, rfl, hR, hB⟩ := hrel
    by_cases hlt : k < ss.length
    · obtain ⟨s, hsk⟩ : ∃ s, ss[k]? = some s := ⟨_, List.getElem?_eq_getElem hlt⟩
      have hne : ss ≠ [] := fun e => by rw [e] at hlt; simp at hlt
      obtain rfl := ha2 hne
      have hd := hd hne
      obtain ⟨c0, c1⟩ := hcs k s hsk
      obtain ⟨sl1, sl2⟩ := hsl k s hsk
      have d0 := (hB.cell (p := ⟨d, doff + k * 2, none⟩) hd).trans c0
      have d1 := (hB.cell (p := ⟨d, doff + k * 2 + 1, none⟩) hd).trans c1
      gi_wp2
      gi_cut [8, 9] from 70 (fun s8 s9 wc => s8 = .func (.func 40) #[.slice s.ua s.ul s.uc] #[] ∧ s9 = .func (.func 40) #[.slice s.va s.vl s.vc] #[] ∧ wc = (wr.alloc (Obj.cells #[.slice s.ua s.ul s.uc, .slice s.va s.vl s.vc] 24)).drew)
      case first =>
        rename_i J K' hJ hK'
        gi_region
        all_goals exact hK' _ _ (Met.intro (hJ _ _ (by (repeat apply Exists.intro); exact ⟨⟨rfl, rfl, rfl⟩, rfl⟩)))
      case rest =>
      obtain ⟨rfl, rfl, rfl⟩ := hcut
      have hbx : (wr.alloc (Obj.cells #[.slice s.ua s.ul s.uc, .slice s.va s.vl s.vc] 24)).drew.heap[wr.heap.size]? = some (Obj.cells #[.slice s.ua s.ul s.uc, .slice s.va s.vl s.vc] 24 (0, 0)) := World.alloc_heap_new _ _
      have hR1 : RowsX w.heap.size (wr.alloc (Obj.cells #[.slice s.ua s.ul s.uc, .slice s.va s.vl s.vc] 24)).drew w.heap.size xs.length (fun i => whoX H i k) := hR.kept ((Below.refl _ _).alloc (Nat.le_refl _) _).drew
      have hB1 : Below w.heap.size w (wr.alloc (Obj.cells #[.slice s.ua s.ul s.uc, .slice s.va s.vl s.vc] 24)).drew := (hB.alloc hB.size _).drew
      have hnew : w.heap.size ≤ wr.heap.size := hB.size
      generalize (wr.alloc (Obj.cells #[.slice s.ua s.ul s.uc, .slice s.va s.vl s.vc] 24)).drew = W1 at *
      have e0 : W1.cell? ⟨wr.heap.size, 0, none⟩ = some (.slice s.ua s.ul s.uc) := by simp only [World.cell?]; rw [hbx]; rfl
      have e1 : W1.cell? ⟨wr.heap.size, 1, none⟩ = some (.slice s.va s.vl s.vc) := by simp only [World.cell?]; rw [hbx]; rfl
      have hHk : ∀ i, H k i = (decide (s.ul + s.vl = 0) || H1 k i || H2 k i) := fun i => hH k i s hsk
      have hEd : decide (s.ul + s.vl = 0) = ((s.ul : Int) + (s.vl : Int) == 0) := by
        by_cases h : s.ul + s.vl = 0
        · rw [decide_eq_true h]; symm; rw [beq_iff_eq]; omega
        · rw [decide_eq_false h]; symm; rw [beq_eq_false_iff_ne]; omega
      rw [hEd] at hHk
      clear hEd
      gi_upto_region 6 with fail
      gi_cut [10] from 70 (fun s10 wc => s10 = .bool ((s.ul : Int) + (s.vl : Int) == 0) ∧ wc = W1)
      case first =>
        gi_wp2
        gi_meet
        case rel => exact ⟨rfl, rfl⟩
      case rest =>
      obtain ⟨rfl, rfl⟩ := hcut
      generalize ((s.ul : Int) + (s.vl : Int) == 0) = E at *
      gi_wp2
      gi_loopw [39] (fun i w2 => ∃ m : Nat, m ≤ xs.length ∧ i = .int .i64 m ∧ RowsX w.heap.size w2 w.heap.size xs.length (fun i => if i < m then whoX H i (k + 1) else whoX H i k) ∧ Below w.heap.size w w2)
        (fun i _ => xs.length - (intOf i).toNat)
      case atStart => exact ⟨0, Nat.zero_le _, rfl, hR1.congr fun i hi => by rw [if_neg (by omega)], hB1⟩
      case round =>
        obtain ⟨m, hm, rfl, hR2, hB2⟩ := hrel
        by_cases hltm : m < xs.length
        · obtain ⟨x, hxm⟩ : ∃ x, xs[m]? = some x := ⟨_, List.getElem?_eq_getElem hltm⟩
          have hnex : xs ≠ [] := fun e => by rw [e] at hltm; simp at hltm
          obtain rfl := ha hnex
          have hb := hb hnex
          obtain ⟨q0, q1, q2, q3⟩ := hc m x hxm
          have r0 := (hB2.cell (p := ⟨b, off + m * 4, none⟩) hb).trans q0
          have r1 := (hB2.cell (p := ⟨b, off + m * 4 + 1, none⟩) hb).trans q1
          have r2 := (hB2.cell (p := ⟨b, off + m * 4 + 2, none⟩) hb).trans q2
          have r3 := (hB2.cell (p := ⟨b, off + m * 4 + 3, none⟩) hb).trans q3
          rename_i wr0 _ _ _ _ _ w2 _
          gi_upto_region 10 with fail
          gi_cut [56] from 70 (fun s56 wc => s56 = .bool (H k m) ∧ Below (wr.heap.size + 1) (wr.alloc (Obj.cells #[.string x.s, .string x.c, .int .i64 x.q, .bool x.b] 33)) wc)
          case first =>
            have hbx := World.alloc_heap_new wr (Obj.cells #[.string x.s, .string x.c, .int .i64 x.q, .bool x.b] 33)
            have hB3 : Below w.heap.size w (wr.alloc (Obj.cells #[.string x.s, .string x.c, .int .i64 x.q, .bool x.b] 33)) := hB2.alloc hB2.size _
            have hk1 := hH1 k m s x hsk hxm _ hB3
            have hv := hHk m
            cases E
            · cases hv1 : H1 k m
              · rw [hv1] at hk1 hv
                gi_wp2_with (first
                  | (gi_at_call 40; refine hk2.mono ?_; rintro e w4 ⟨rfl, hb4⟩)
                  | (gi_at_call 40; refine hk1.mono ?_; rintro e w3 ⟨rfl, hb3⟩; have hB4 := hB3.trans (hb3.mono (by simp; have := hB2.size; omega)); have hk2 := hH2 k m s x hsk hxm _ hB4; have hbx4 := (hb3.block _ (by simp)).trans hbx; have t0 : w3.cell? ⟨wr.heap.size, 1, none⟩ = some (.string x.c) := by simp only [World.cell?]; rw [hbx4]; rfl)
                  | gi_in)
                gi_meet
                case rel => exact ⟨by rw [hv]; simp, (hb3.mono (by simp)).trans (hb4.mono (by have := hb3.size; simp at this; omega))⟩
              · rw [hv1] at hk1 hv
                gi_wp2_with (first
                  | (gi_at_call 40; refine hk1.mono ?_; rintro e w3 ⟨rfl, hb3⟩)
                  | gi_in)
                refine ⟨fun f h => (by cases h), ?_⟩
                gi_wp2_with gi_in
                gi_meet
                case rel => exact ⟨by rw [hv]; simp, hb3.mono (by simp)⟩
            · gi_wp2_with gi_in
              refine ⟨fun f h => (by cases h), ?_⟩
              gi_wp2_with gi_in
              gi_meet
              case rel => exact ⟨by rw [hv]; simp, Below.refl _ _⟩
          case rest =>
          obtain ⟨rfl, hb5⟩ := hcut
          have hsz : (wr.alloc (Obj.cells #[.string x.s, .string x.c, .int .i64 x.q, .bool x.b] 33)).heap.size = wr.heap.size + 1 := by simp
          have hb6 : Below wr.heap.size wr wc := ((Below.refl _ _).alloc (Nat.le_refl _) _).trans (hb5.mono (by omega))
          have hR3 := hR2.kept hb6
          have hB5 : Below w.heap.size w wc := hB2.trans (hb6.mono hB2.size)
          clear hb5 hb6 hsz
          cases hHv : H k m
          · gi_wp2
            go_roundw
            case rel => exact ⟨m + 1, by omega, by simp, hR3.congr fun i hi => by
              rcases Nat.lt_trichotomy i m with h | h | h
              · rw [if_pos h, if_pos (by omega)]
              · subst h; rw [if_pos (by omega), if_neg (by omega), whoX_succ, hHv]; simp
              · rw [if_neg (by omega), if_neg (by omega)], hB5⟩
            case measure => simp [intOf]; omega
          · obtain ⟨vs, hg, hvs, _, hrows, _⟩ := id hR3
            obtain ⟨v, hv⟩ : ∃ v, vs[m]? = some v := ⟨_, Array.getElem?_eq_getElem (by omega)⟩
            obtain ⟨hrow, hone, hnil⟩ := hrows m v hv
            have hcell : wc.cell? ⟨w.heap.size, m, none⟩ = some v := by simp only [World.cell?]; rw [hg]; exact hv
            have hfro : wc.frozen? ⟨w.heap.size, m, none⟩ = false := frozen_of_row _ _ _ _ _ hg
            have hlen : (whoX H m k).length ≤ 1000000 := Nat.le_trans (whoX_len _ _ _) (by omega)
            have hRm : (if m < m then whoX H m (k + 1) else whoX H m k) = whoX H m k := if_neg (by omega)
            dsimp only at hrow hone hnil
            rw [hRm] at hrow
            have ha1 : Below wc.heap.size wc (wc.alloc (Obj.cells #[.int .i64 (k : Int)] 3)) := (Below.refl _ _).alloc (Nat.le_refl _) _
            have hnn : v.ownBlock = none ∨ v.ownBlock ≠ none := by cases v.ownBlock <;> simp
            have hsz0 := hB5.size
            have hno := hR3.not_out hg hv
            have hold : ∀ l, l = (whoX H m k).length → l + 1 ≤ 1000001 := fun l h => by omega
            generalize hL : whoX H m k = L at *
            gi_wp2_with (first
              | (gi_at_builtin; refine wpListIn_append_own2 _ rfl _ _ 66 rfl w.heap.size 3 i3 _ 1 8 Try.underlying66 hj hj0 hj1 hj2 rfl (by intro u hu; simp [Value.cells] at hu; subst hu; rfl) _ _ _ rfl (hrow.alloc _) (hone.kept (World.grownBy_alloc _ _ none) (fun g hg => (hrow.lt g hg).2) hnn) ⟨wc.heap.size, 0, none⟩ 1 1 [.int .i64 (k : Int)] rfl rfl (cell1_new _ _ _) (by simp [Value.oneCell']) (by unfold maxLen; omega) (by omega) (by simp; omega) ?_; intro v' w2 hown' hgrow _ ho2 hfr; obtain ⟨g', cap', rfl⟩ := ownsRow_succ hown'; have hg2 := (hgrow.block _ (by have := hR3.lt; simp; omega) (fun e => hno e.symm)).trans ((ha1.block _ hR3.lt).trans hg); have hcell2 : w2.cell? ⟨w.heap.size, m, none⟩ = some v := (by simp only [World.cell?]; rw [hg2]; exact hv); have hfro2 : w2.frozen? ⟨w.heap.size, m, none⟩ = false := frozen_of_row _ _ _ _ _ hg2)
              | gi_in)
            obtain ⟨p1, p2⟩ := RowsX.put (k := k) hg hR3 hv ha1 hgrow (by rw [if_neg (Nat.lt_irrefl m), hL]; exact hown') ho2 hfr
            refine ⟨⟨m + 1, by omega, by simp, p1.congr fun i hi => ?_, ?_⟩, by simp [intOf]; omega⟩
            · rcases Nat.lt_trichotomy i m with h | h | h
              · rw [if_pos (by omega), if_neg (by omega), if_pos h]
              · subst h; rw [if_pos (by omega), if_pos rfl, if_neg (by omega), whoX_succ, hHv]; simp
              · rw [if_neg (by omega), if_neg (by omega), if_neg (by omega)]
            · refine hB5.trans ⟨hgrow.os, hgrow.tape, hgrow.output, ?_, p2⟩
              have := hgrow.size
              simp at this ⊢
              omega
        · obtain rfl : m = xs.length := by omega
          gi_wp2
          go_roundw
          case rel => exact ⟨k + 1, by omega, by simp, hR2.congr fun i hi => by rw [if_pos hi], hB2⟩
          case measure => simp [intOf]; omega
    · obtain rfl : k = ss.length := by omega
      gi_wp2
      go_ret
      exact ⟨rfl, hR, hB⟩
end Go.Proofs
