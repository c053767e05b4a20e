import Derived.RangeFuncNested
import Derived.RangeFuncBound
import Derived.RangeFuncCalls
import Derived.RangeFuncLeaves
import Derived.RangeFuncBox
import Derived.Shelf.Abstract
import Derived.Shelf.RegionOpen
import Derived.Maps.AppendAt
import Derived.WalkKit
import Derived.OwnWalkIn
import Derived.TacticsInMore
import Derived.LoopNIn
import Derived.LoopIn
import Derived.Test.YtikbagggffehkaaProg
set_option linter.unusedVariables false
set_option linter.unusedSimpArgs false
namespace Go.Proofs
open Go.RowKit Go.Shelf
attribute [local go_sem] Oper.semAt_some
structure LnX where
  s : ByteArray
  q : Nat
  p : Int
  lq : q ≤ 100000
def outX : Nat → List LnX → List (Nat × Int)
  | _, [] => []
  | i, x :: l => List.replicate x.q (i, x.p) ++ outX (i + 1) l
def encU (x : Nat × Int) : Array Value := #[.agg #[.int .i64 (x.1 : Int), .int .i64 x.2, .bool true]]
def KeepL (W W' : World) : Prop := ∀ (j : Nat) (c : Array Value) (r : Nat × Nat), W.heap[j]? = some (Obj.cells c 28 r) → W'.heap[j]? = W.heap[j]?
def KpU (n₀ : Nat) (W W' : World) : Prop := Below n₀ W W' ∧ KeepL W W'
theorem outX_app : ∀ (xs ys : List LnX) (i : Nat), outX i (xs ++ ys) = outX i xs ++ outX (i + xs.length) ys
  | [], ys, i => by simp [outX]
  | a :: xs, ys, i => by
    simp only [List.cons_append, outX, outX_app xs ys (i + 1), List.append_assoc, List.length_cons]
    rw [show i + 1 + xs.length = i + (xs.length + 1) by omega]
theorem cell2_of {w : World} {B : Nat} {a b c : Value} (h : w.heap[B]? = some (Obj.cells #[a, b, c] 28 (0, 0))) : w.cell? ⟨B, 2, none⟩ = some c := by simp only [World.cell?]; rw [h]; rfl
def pre2 (xs : List LnX) (k m : Nat) : List (Nat × Int) := outX 0 (xs.take k) ++ (match xs[k]? with | some x => List.replicate m (k, x.p) | none => [])
theorem pre2_zero {xs : List LnX} {k : Nat} : pre2 xs k 0 = outX 0 (xs.take k) := by
  unfold pre2; cases xs[k]? <;> simp
theorem pre2_next {xs : List LnX} {k : Nat} {x : LnX} (hx : xs[k]? = some x) : pre2 xs k x.q = outX 0 (xs.take (k + 1)) := by
  have hk : k < xs.length := (List.getElem?_eq_some_iff.1 hx).1
  unfold pre2
  rw [hx, List.take_add_one, hx, outX_app]
  simp [outX, List.length_take, Nat.min_eq_left (Nat.le_of_lt hk)]
theorem pre2_step {xs : List LnX} {k m : Nat} {x : LnX} (hx : xs[k]? = some x) : pre2 xs k (m + 1) = pre2 xs k m ++ [(k, x.p)] := by
  unfold pre2
  rw [hx]
  simp only [List.replicate_succ', List.append_assoc]
theorem pre2_lt {xs : List LnX} {k m : Nat} {x : LnX} (hx : xs[k]? = some x) (hm : m < x.q) : (pre2 xs k m).length < (outX 0 xs).length := by
  have e : xs = xs.take (k + 1) ++ xs.drop (k + 1) := (List.take_append_drop _ _).symm
  have h1 : (outX 0 xs).length = (outX 0 (xs.take (k + 1))).length + (outX (0 + (xs.take (k + 1)).length) (xs.drop (k + 1))).length := by
    conv => lhs; rw [e, outX_app, List.length_append]
  rw [h1, ← pre2_next hx]
  unfold pre2
  rw [hx]
  simp only [List.length_append, List.length_replicate]
  omega
set_option maxHeartbeats 1000000 in
theorem each_in (F : Fence) (n : Nat) (h54 : F.fn 54) (hro : F.round = none) (a : Option Addr) (len cap : Nat) (w : World) :
    CallsIn F n Try.prog 54 #[.slice a len cap] w fun e w' => e = .returned (.func (.func 76) #[] #[.pointer (some ⟨w.heap.size, 0, none⟩)]) ∧ w' = w.alloc (.cells #[.slice a len cap] 23) := by
  refine callsIn_of_wp Try.func54 rfl h54 ?_ hro
  simp only [Try.ntmps54, List.size_toArray, List.length_cons, List.length_nil, Nat.reduceAdd, Nat.reduceSub, Array.replicate_succ, Array.replicate_zero, List.push_toArray, List.append_toArray, List.nil_append, List.cons_append]
  gi_wp2
  go_ret
  exact ⟨rfl, rfl⟩
set_option maxRecDepth 100000 in
set_option maxHeartbeats 2000000 in
theorem each1_in (F : Fence) (n : Nat) (h76 : F.fn 76) (hro : F.round = none) (hn : 1 ≤ n) (l Bs n₀ b off cap : Nat) (xs : List LnX) (hreach : xs.length ≤ 1000) (hb : xs ≠ [] → b < n₀) (a : Option Addr) (ha : xs ≠ [] → a = some ⟨b, off, none⟩) (J Jx : List (Nat × Int) → World → Prop)
    (hY : ∀ pre x W, J pre W → pre.length < (outX 0 xs).length → YieldAt F (n - 1) Try.prog l (encU x) W fun e W' =>
      (e = .returned (.bool true) ∧ J (pre ++ [x]) W' ∧ KpU n₀ W W') ∨ (e = .returned (.bool false) ∧ Jx (pre ++ [x]) W'))
    (W : World) (hn₀ : n₀ ≤ W.heap.size) (hJ : AbidesFrom W.heap.size J)
    (hBs : W.cell? ⟨Bs, 0, none⟩ = some (.slice a xs.length cap))
    (hc : ∀ j x, xs[j]? = some x → W.cell? ⟨b, off + j * 3, none⟩ = some (.string x.s) ∧ W.cell? ⟨b, off + j * 3 + 1, none⟩ = some (.int .i64 x.q) ∧ W.cell? ⟨b, off + j * 3 + 2, none⟩ = some (.int .i64 x.p)) (h0 : J [] W) :
    CallsIn F n Try.prog 76 #[.func (.yield l) #[] #[], .pointer (some ⟨Bs, 0, none⟩)] W fun e W' => (∃ v, e = .returned v) ∧ ((∃ ys, ys = outX 0 xs ∧ J ys W') ∨ (∃ pre, True ∧ Jx pre W')) := by
  refine callsIn_of_wp Try.func76 rfl h76 ?_ hro
  simp only [Try.ntmps76, List.size_toArray, List.length_cons, List.length_nil, Nat.reduceAdd, Nat.reduceSub, Array.replicate_succ, Array.replicate_zero, List.push_toArray, List.append_toArray, List.nil_append, List.cons_append]
  gi_wp2
  gi_loopw [7] (fun i wr => ∃ k : Nat, k ≤ xs.length ∧ i = .int .i64 k ∧ J (pre2 xs k 0) wr ∧ Below n₀ W wr)
    (fun i _ => xs.length - (intOf i).toNat)
  case atStart => exact ⟨0, Nat.zero_le _, rfl, by rw [pre2_zero]; exact h0, Below.refl _ _⟩
  case round =>
    obtain ⟨k, hk, rfl, hJs, hnx⟩ := hrel
    by_cases hlt : k < xs.length
    · obtain ⟨x, hx⟩ : ∃ x, xs[k]? = some x := ⟨_, List.getElem?_eq_getElem hlt⟩
      have hne : xs ≠ [] := fun e => by rw [e] at hlt; simp at hlt
      obtain rfl := ha hne
      have hb := hb hne
      obtain ⟨c0, c1, c2⟩ := hc k x hx
      have d0 := (hnx.cell (p := ⟨b, off + k * 3, none⟩) hb).trans c0
      have d1 := (hnx.cell (p := ⟨b, off + k * 3 + 1, none⟩) hb).trans c1
      have d2 := (hnx.cell (p := ⟨b, off + k * 3 + 2, none⟩) hb).trans c2
      have hsz : n₀ ≤ wr.heap.size := Nat.le_trans hn₀ hnx.size
      gi_wp2
      gi_loopw [14] (fun i w2 => ∃ m : Nat, m ≤ x.q ∧ i = .int .i64 m ∧ J (pre2 xs k m) w2 ∧ Below n₀ W w2 ∧ w2.heap[wr.heap.size]? = some (Obj.cells #[.string x.s, .int .i64 x.q, .int .i64 x.p] 28 (0, 0)))
        (fun i _ => x.q - (intOf i).toNat)
      case atStart =>
        exact ⟨0, Nat.zero_le _, rfl, hJ _ _ _ none hJs (World.grownBy_alloc _ _ none) (fun r e => by cases e), hnx.alloc hsz _, World.alloc_heap_new _ _⟩
      case round =>
        obtain ⟨m, hm, rfl, hJm, hnm, hbx⟩ := hrel
        have hlq := x.lq
        by_cases hltm : m < x.q
        · obtain ⟨fn, tmps, assign, body, hy, hR⟩ := hY _ (k, x.p) _ hJm (pre2_lt hx hltm)
          dsimp only [encU] at hy
          have hp2 := cell2_of hbx
          gi_wp2
          refine hR.mono ?_
          rintro e W3 (⟨rfl, hJ3, hk3⟩ | ⟨rfl, hJx3⟩)
          · gi_wp2
            go_roundw
            case rel => exact ⟨m + 1, by omega, by simp, by rw [pre2_step hx]; exact hJ3, hnm.trans hk3.1, (hk3.2 _ _ _ hbx).trans hbx⟩
            case measure => simp [intOf]; omega
          · gi_wp2
            refine bodyPost_ret (results_none rfl _ _ _) rfl ?_
            exact ⟨⟨_, rfl⟩, .inr ⟨_, trivial, hJx3⟩⟩
        · obtain rfl : m = x.q := by omega
          gi_wp2
          go_roundw
          case rel => exact ⟨k + 1, by omega, by simp, by rw [pre2_zero, ← pre2_next hx]; exact hJm, hnm⟩
          case measure => simp [intOf]; omega
    · obtain rfl : k = xs.length := by omega
      gi_wp2
      go_end0
      rw [pre2_zero, List.take_length] at hJs
      exact ⟨⟨_, rfl⟩, .inl ⟨_, rfl, hJs⟩⟩
theorem each_stops (F : Fence) (n : Nat) (h76 : F.fn 76) (hro : F.round = none) (hn : 1 ≤ n) (Bs n₀ b off cap : Nat) (xs : List LnX) (hreach : xs.length ≤ 1000) (hb : xs ≠ [] → b < n₀) (a : Option Addr) (ha : xs ≠ [] → a = some ⟨b, off, none⟩) (w : World) (hBs : Bs < w.heap.size) (hn₀ : n₀ ≤ w.heap.size)
    (hbx : w.cell? ⟨Bs, 0, none⟩ = some (.slice a xs.length cap))
    (hc : ∀ j x, xs[j]? = some x → w.cell? ⟨b, off + j * 3, none⟩ = some (.string x.s) ∧ w.cell? ⟨b, off + j * 3 + 1, none⟩ = some (.int .i64 x.q) ∧ w.cell? ⟨b, off + j * 3 + 2, none⟩ = some (.int .i64 x.p)) :
    SeqStopsK F n Try.prog 76 #[.pointer (some ⟨Bs, 0, none⟩)] encU (KpU n₀) (fun ys => ys = outX 0 xs) (fun _ => True) (outX 0 xs).length w := fun l J Jx W hW hJ hJx hY h0 => by
  refine each1_in F n h76 hro hn l Bs n₀ b off cap xs hreach hb a ha J Jx hY W (Nat.le_trans hn₀ hW.size) hJ ((hW.cell (p := ⟨Bs, 0, none⟩) hBs).trans hbx) (fun j x hj => ?_) h0
  obtain ⟨c0, c1, c2⟩ := hc j x hj
  have hl : b < w.heap.size := Nat.lt_of_lt_of_le (hb (fun e => by rw [e] at hj; simp at hj)) hn₀
  exact ⟨(hW.cell (p := ⟨b, off + j * 3, none⟩) hl).trans c0, (hW.cell (p := ⟨b, off + j * 3 + 1, none⟩) hl).trans c1, (hW.cell (p := ⟨b, off + j * 3 + 2, none⟩) hl).trans c2⟩
theorem cells3_new (W : World) (a b c : Value) (t : TypeId) : ∀ j u, [a, b, c][j]? = some u → (W.alloc (Obj.cells #[a, b, c] t)).cell? ((⟨W.heap.size, 0, none⟩ : Addr).add j) = some u := fun j u h => by
  have hn := World.alloc_heap_new W (Obj.cells #[a, b, c] t)
  have hj : j < 3 := (List.getElem?_eq_some_iff.1 h).1
  have e : (⟨W.heap.size, 0, none⟩ : Addr).add j = ⟨W.heap.size, j, none⟩ := by
    have : j = 0 ∨ j = 1 ∨ j = 2 := by omega
    rcases this with rfl | rfl | rfl <;> rfl
  rw [e]
  simp only [World.cell?]
  rw [hn]
  have : j = 0 ∨ j = 1 ∨ j = 2 := by omega
  rcases this with rfl | rfl | rfl <;> exact h
def OneRow (w : World) (v : Value) : Prop := ∀ g, v.ownBlock = some g → ∀ cur e r, w.heap[g]? = some (Obj.cells cur e r) → ∀ u ∈ cur, u.oneCell' = true
theorem OneRow.nil {w : World} : OneRow w (.slice none 0 0) := fun g h => by simp [Value.ownBlock] at h
theorem OneRow.kept {w w' : World} {v : Value} {row : Option Nat} (h : OneRow w v) (hg : w.grownBy w' row) (hlt : ∀ g, v.ownBlock = some g → g < w.heap.size) (hne : v.ownBlock = none ∨ v.ownBlock ≠ row) : OneRow w' v := fun g hv cur e r hc => by
  refine h g hv cur e r ?_
  rw [← hg.block g (hlt g hv) (by rw [← hv]; exact hne.resolve_left (by rw [hv]; simp))]
  exact hc
theorem zero_one {z : Array Value} (hz : ∀ u ∈ z, u.oneCell' = true) (n : Nat) : ∀ u ∈ Builtin.zeroCells z n, u.oneCell' = true := by
  intro u hu
  simp [Builtin.zeroCells] at hu
  obtain ⟨i, h1, h2⟩ := hu
  have h0 : 0 < z.size := Nat.pos_of_ne_zero fun e => by rw [e] at h1; simp at h1
  have hi : i % z.size < z.size := Nat.mod_lt _ h0
  rw [← h2, getElem!_pos z (i % z.size) hi]
  exact hz _ (Array.getElem_mem hi)
theorem append_own1 {P : Program} (w : World) (base : Nat) (t ty e : TypeId) (i : TypeInfo) (z : Value) (size bytes : Nat) (ht : P.underlying t = some (.slice e)) (hi : P.info? e = some i) (hz : i.zero = some z)
    (hsize : i.size = size) (hby : i.bytes = bytes) (hzs : z.cells.size = size) (hz1 : ∀ u ∈ z.cells, u.oneCell' = true)
    (v : Value) (n : Nat) (xs : List Value) (hown : w.ownsRow base e size v n xs) (hone : OneRow w v)
    (a : Addr) (m c : Nat) (news : List Value) (hl : news.length = m * size) (hnews : ∀ j u, news[j]? = some u → w.cell? (a.add j) = some u) (h1 : ∀ u ∈ news, u.oneCell' = true)
    (h63 : n + m ≤ maxLen) (hbytes : (n + m) * bytes ≤ 140737488355328) (hbase : base ≤ w.heap.size) :
    ∃ v' w', (Builtin.append_ #[t, t] ty #[v, .slice (some a) m c]).run P w = .ok v' w' ∧ w'.ownsRow base e size v' (n + m) (xs ++ news) ∧ w.grownBy w' v.ownBlock ∧
      (v' = .slice none 0 0 ↔ v = .slice none 0 0 ∧ m = 0) ∧ OneRow w' v' := by
  subst hsize
  subst hby
  have hsmall : n + m ≤ 9223372036854775807 := by simp only [maxLen] at h63; omega
  have hlen : (xs ++ news).length = (n + m) * i.size := by rw [List.length_append, hown.1, hl, Nat.add_mul]
  have grown : ∀ (old : Nat), old < n + m → (∀ u ∈ xs, u.oneCell' = true) → ∀ (row : Option Nat),
      (w.drew.alloc (.cells (xs.toArray ++ news.toArray ++ Builtin.zeroCells z.cells (grownCap w (n + m) old e - (n + m))) e)).ownsRow base e i.size
        (.slice (some ⟨w.heap.size, 0, none⟩) (n + m) (grownCap w (n + m) old e)) (n + m) (xs ++ news) ∧
      w.grownBy (w.drew.alloc (.cells (xs.toArray ++ news.toArray ++ Builtin.zeroCells z.cells (grownCap w (n + m) old e - (n + m))) e)) row ∧
      OneRow (w.drew.alloc (.cells (xs.toArray ++ news.toArray ++ Builtin.zeroCells z.cells (grownCap w (n + m) old e - (n + m))) e)) (.slice (some ⟨w.heap.size, 0, none⟩) (n + m) (grownCap w (n + m) old e)) := by
    intro old ho hx row
    have hge := grownCap_ge w (n + m) old e
    have hcm : grownCap w (n + m) old e ≤ maxLen := grownCap_le_maxLen w (n + m) old e h63
    refine ⟨⟨hlen, .inr ⟨w.heap.size, _, _, rfl, hbase, World.alloc_heap_new w.drew _, hge, hcm, ?_, ?_⟩⟩, ⟨rfl, rfl, rfl, by simp, fun k hk _ => Below.heap_alloc w.drew _ k hk⟩, fun g hg cur e' r hc u hu => ?_⟩
    · simp only [Array.size_append, List.size_toArray, size_zeroCells, hzs, hown.1, hl, ← Nat.add_mul]
      congr 1
      omega
    · simp only [Array.toList_append, List.append_assoc]
      rw [← List.append_assoc, ← hlen]
      exact List.take_left
    · obtain rfl : w.heap.size = g := by simpa [Value.ownBlock] using hg
      have hn := World.alloc_heap_new w.drew (.cells (xs.toArray ++ news.toArray ++ Builtin.zeroCells z.cells (grownCap w (n + m) old e - (n + m))) e)
      have hn' := hn.symm.trans hc
      simp only [Option.some.injEq, Obj.cells.injEq] at hn'
      rw [← hn'.1] at hu
      simp only [Array.mem_append, List.mem_toArray] at hu
      rcases hu with (hu | hu) | hu
      · exact hx u hu
      · exact h1 u hu
      · exact zero_one hz1 _ u hu
  rcases hown.2 with ⟨rfl, rfl⟩ | ⟨g, cap, cur, rfl, hbg, hg, hnc, hcm, hcs, htake⟩
  · have hx : xs = [] := List.eq_nil_of_length_eq_zero (by simpa using hown.1)
    subst hx
    by_cases hm : m = 0
    · subst hm
      have hn : news = [] := List.eq_nil_of_length_eq_zero (by simpa using hl)
      subst hn
      refine ⟨.slice none 0 0, w, ?_, World.ownsRow_nil w base e i.size, ⟨rfl, rfl, rfl, Nat.le_refl _, fun _ _ _ => rfl⟩, by simp, .nil⟩
      simp [Builtin.append_, run_underlying ht, sizeOf, typeInfo, hi, Builtin.lenOf, Builtin.firstCells, loadCells, loadCellsFrom]
    · have hr := run_append_nil (P := P) w t ty e i z ht hi hz a m c news hl hnews (by omega) (by omega) (by have hb := hbytes; simp only [Nat.zero_add] at hb; omega)
      have hgr := grown 0 (by omega) (by simp) (Value.ownBlock (.slice none 0 0))
      simp only [Nat.zero_add, List.nil_append, Array.empty_append] at hgr ⊢
      exact ⟨_, _, hr, hgr.1, hgr.2.1, by simp [hm], hgr.2.2⟩
  · have ho := hone g rfl _ _ _ hg
    by_cases hroom : n + m ≤ cap
    · have hfit : n * i.size + news.length ≤ cur.size := by rw [hl, hcs, ← Nat.add_mul]; exact Nat.mul_le_mul_right _ hroom
      have hr := run_append_room (P := P) w t ty e i ht hi g n cap cur hg a m c news hl hnews h1 hroom hfit
      refine ⟨_, _, hr, ⟨hlen, .inr ⟨g, cap, _, rfl, hbg, setRow_heap w g cur _ e _ hg, hroom, hcm, ?_, ?_⟩⟩, ⟨rfl, rfl, rfl, by simp, fun k _ hk => setRow_other w g k _ (fun e => hk (by simp [Value.ownBlock, e]))⟩, by simp, fun g' hg' cur' e' r' hc u hu => ?_⟩
      · simp only [List.size_toArray, List.length_append, List.length_take, List.length_drop, Array.length_toList]
        omega
      · rw [htake, ← hlen]
        exact List.take_left
      · obtain rfl : g = g' := by simpa [Value.ownBlock] using hg'
        have hn' := (setRow_heap w g cur _ e _ hg).symm.trans hc
        simp only [Option.some.injEq, Obj.cells.injEq] at hn'
        rw [← hn'.1] at hu
        simp only [List.mem_toArray, List.mem_append] at hu
        rcases hu with (hu | hu) | hu
        · exact ho u (by simpa using List.mem_of_mem_take hu)
        · exact h1 u hu
        · exact ho u (by simpa using List.mem_of_mem_drop hu)
    · have holds : ∀ j u, xs[j]? = some u → w.cell? ((⟨g, 0, none⟩ : Addr).add j) = some u := hown.cells (g := g) rfl
      have hr := run_append_grow (P := P) w t ty e i z ht hi hz ⟨g, 0, none⟩ n cap xs hown.1 holds a m c news hl hnews (by omega) (by omega) (growslice_fits (by omega) hbytes)
      have hgr := grown cap (by omega) (fun u hu => ho u (by rw [← htake] at hu; simpa using List.mem_of_mem_take hu)) (Value.ownBlock (.slice (some ⟨g, 0, none⟩) n cap))
      exact ⟨_, _, hr, hgr.1, hgr.2.1, by simp, hgr.2.2⟩
theorem wpListIn_append_own1 {F : Fence} {n : Nat} {P : Program} (w : World) {ops : Array Oper} {rest : List Oper} {o : Oper} {a : Act} {Q : Exit → Act → World → Prop}
    (hg : o.guard = none) (s x : Operand) (t : TypeId) (hop : o.op = Op.call { callee := Callee.builtin Builtin.append, args := #[s, x], argTypes := #[t, t] })
    (base : Nat) (e : TypeId) (i : TypeInfo) (z : Value) (size bytes : Nat) (h1 : P.underlying t = some (.slice e)) (h2 : P.info? e = some i) (h3 : i.zero = some z) (h4 : i.size = size) (h5 : i.bytes = bytes) (h6 : z.cells.size = size) (h7 : ∀ u ∈ z.cells, u.oneCell' = true)
    (v : Value) (k : Nat) (xs : List Value) (hs : a.eval s = v) (hown : w.ownsRow base e size v k xs) (hone : OneRow w v) (ad : Addr) (m c : Nat) (news : List Value) (hx : a.eval x = .slice (some ad) m c) (hn : news.length = m * size)
    (hc : ∀ j u, news[j]? = some u → w.cell? (ad.add j) = some u) (h1c : ∀ u ∈ news, u.oneCell' = true) (b1 : k + m ≤ maxLen) (b2 : (k + m) * bytes ≤ 140737488355328) (b3 : base ≤ w.heap.size)
    (hK : ∀ v' w', w'.ownsRow base e size v' (k + m) (xs ++ news) → w.grownBy w' v.ownBlock → (v' = .slice none 0 0 ↔ v = .slice none 0 0 ∧ m = 0) → OneRow w' v' → wpListIn F n P ops Q rest (a.put o.dst v') w') :
    wpListIn F n P ops Q (o :: rest) a w := by
  refine wpListIn_plain hg fun K hK' => ?_
  obtain ⟨v', w', hrun, r1, r2, r3, r4⟩ := append_own1 (P := P) w base t o.type e i z size bytes h1 h2 h3 h4 h5 h6 h7 v k xs hown hone ad m c news hn hc h1c b1 b2 b3
  unfold Oper.wpIn
  refine ⟨?_, ?_⟩
  · simp [Oper.about, hop, resolve, Target.leads, Sem.run_pure]
  · rw [Oper.semAt_plain F _ _ (by rw [hop]; intro c hc'; cases hc')]
    simp [execOp, hop, resolve, invoke, builtin, hs, hx, hrun, Result.andThen]
    exact hK' _ _ (hK v' w' r1 r2 r3 r4)
def uVals (xs : List (Nat × Int)) : List Value := xs.flatMap fun x => [.int .i64 (x.1 : Int), .int .i64 x.2, .bool true]
theorem uVals_snoc (xs : List (Nat × Int)) (x : Nat × Int) : uVals (xs ++ [x]) = uVals xs ++ [.int .i64 (x.1 : Int), .int .i64 x.2, .bool true] := by simp [uVals]
theorem OneRow.alloc {W : World} {n₀ : Nat} {v : Value} {k : Nat} {xs : List Value} (h : OneRow W v) (hr : W.ownsRow n₀ 37 3 v k xs) (o : Obj) : OneRow (W.alloc o) v :=
  h.kept (World.grownBy_alloc W o none) (fun g hg => (hr.lt g hg).2) (by cases hv : v.ownBlock <;> simp)
theorem OneRow.putObj {W : World} {n₀ : Nat} {v : Value} {k : Nat} {xs : List Value} (h : OneRow W v) (hr : W.ownsRow n₀ 37 3 v k xs) {l : Nat} {o : Obj} (o' : Obj) (hl : W.heap[l]? = some o) (ho : o.isCells = false) : OneRow (W.putObj l o') v := by
  refine h.kept (grownBy_putObj' W l o') (fun g hg => (hr.lt g hg).2) ?_
  rcases hr.2 with ⟨rfl, _⟩ | ⟨g, cap, cur, rfl, _, hgb, _⟩
  · exact .inl rfl
  · refine .inr fun e' => ?_
    obtain rfl : g = l := by simpa [Value.ownBlock] using e'
    rw [hgb] at hl; cases hl; cases ho
theorem OneRow.set {W : World} {n₀ B : Nat} {v u v' : Value} {k : Nat} {xs : List Value} (h : OneRow W v) (hv : Boxed W B 38 u) (hr : W.ownsRow n₀ 37 3 v k xs) : OneRow (W.setCell ⟨B, 0, none⟩ v') v :=
  h.kept (grownBy_setCell' W B v') (fun g hg => (hr.lt g hg).2) (.inr (hv.not_row (by decide) hr).symm)
theorem rowOne_own (n₀ B : Nat) : Own (fun (pre : List (Nat × Int)) W => ∃ v, Boxed W B 38 v ∧ W.ownsRow n₀ 37 3 v pre.length (uVals pre) ∧ (v = .slice none 0 0 ↔ pre = []) ∧ OneRow W v) := by
  rintro s X Y row ⟨v, hv, hr, hG, ho⟩ hg hrow
  have hne : v.ownBlock = none ∨ v.ownBlock ≠ row := by
    rcases hr.2 with ⟨rfl, _⟩ | ⟨g, cap, cur, rfl, _, hgb, _⟩
    · exact .inl rfl
    · refine .inr fun e' => ?_
      obtain ⟨o, ho, hc⟩ := hrow g (by simpa [Value.ownBlock] using e'.symm)
      rw [hgb] at ho; cases ho; cases hc
  refine ⟨v, hv.kept hg (fun e' => ?_), hr.kept hg hne, hG, ho.kept hg (fun g hg => (hr.lt g hg).2) hne⟩
  obtain ⟨o, ho, hc⟩ := hrow B e'.symm
  rw [show X.heap[B]? = _ from hv] at ho; cases ho; cases hc
def BoxU (W : World) (B : Nat) (x : Nat × Int) : Prop := W.heap[B]? = some (Obj.cells #[.int .i64 (x.1 : Int), .int .i64 x.2, .bool true] 37 (0, 0))
theorem info37 : (Try.prog.info? 37).map (fun i => (i.zero, i.size, i.bytes)) = some (some (.agg #[.int .i64 0, .int .i64 0, .bool false]), 3, 24) := by kernel_rfl
theorem BoxU.cells {W : World} {B : Nat} {x : Nat × Int} (h : BoxU W B x) : W.cell? ⟨B, 0, none⟩ = some (.int .i64 (x.1 : Int)) ∧ W.cell? ⟨B, 1, none⟩ = some (.int .i64 x.2) ∧ W.cell? ⟨B, 2, none⟩ = some (.bool true) := by
  unfold BoxU at h
  refine ⟨?_, ?_, ?_⟩ <;> (simp only [World.cell?]; rw [h]; rfl)
theorem BoxU.own {B : Nat} {x : Nat × Int} : Own (fun (_ : Unit) W => BoxU W B x) := fun s X Y row hs hg hrow => by
  unfold BoxU at hs ⊢
  refine (hg.block B (Array.getElem?_eq_some_iff.1 hs).1 fun e' => ?_).trans hs
  obtain ⟨o, ho, hc⟩ := hrow B e'.symm
  rw [hs] at ho; cases ho; cases hc
theorem keepL_app {W w1 : World} {n₀ B : Nat} {v v' : Value} {k : Nat} {xs : List Value} {tmp : Obj} (hv : Boxed W B 38 v) (hrow : W.ownsRow n₀ 37 3 v k xs) (hgrow : (W.alloc tmp).grownBy w1 v.ownBlock) : KeepL W (w1.setCell ⟨B, 0, none⟩ v') := by
  intro j c r hj
  have hlt : j < W.heap.size := (Array.getElem?_eq_some_iff.1 hj).1
  have h1 : j ≠ B := fun e => by
    subst e
    have := (show W.heap[j]? = _ from hv).symm.trans hj
    simp at this
  have h2 : some j ≠ v.ownBlock := fun e => by
    rcases hrow.2 with ⟨rfl, _⟩ | ⟨g, cap, cur, rfl, _, hgb, _⟩
    · simp [Value.ownBlock] at e
    · obtain rfl : j = g := by simpa [Value.ownBlock] using e
      have := hj.symm.trans hgb
      simp at this
  exact (Below.heap_setCell _ _ _ j h1).trans ((hgrow.block j (by rw [World.size_alloc]; omega) h2).trans (Below.heap_alloc W tmp j hlt))
theorem kpU_t {n₀ : Nat} {A B C : World} (h : KpU n₀ A B) (h' : KpU n₀ B C) : KpU n₀ A C := ⟨h.1.trans h'.1, fun j c r hj => by
  have e := h.2 j c r hj
  exact (h'.2 j c r (e.trans hj)).trans e⟩
theorem kpU_alloc {n₀ : Nat} {W : World} (h : n₀ ≤ W.heap.size) (o : Obj) : KpU n₀ W (W.alloc o) := ⟨(Below.refl _ W).alloc h _, fun j _ _ hj => Below.heap_alloc W o j (Array.getElem?_eq_some_iff.1 hj).1⟩
set_option maxRecDepth 100000 in
set_option maxHeartbeats 4000000 in
theorem units_in (F : Fence) (n : Nat) (h21 : F.fn 21) (h50 : F.fn 50) (h54 : F.fn 54) (h76 : F.fn 76) (hro : F.round = none) (hn : 6 ≤ n) (b off cap : Nat) (xs : List LnX) (hreach : xs.length ≤ 1000) (hU : (outX 0 xs).length ≤ 100000) (a : Option Addr) (ha : xs ≠ [] → a = some ⟨b, off, none⟩) (w : World) (hb : xs ≠ [] → b < w.heap.size)
    (hc : ∀ j x, xs[j]? = some x → w.cell? ⟨b, off + j * 3, none⟩ = some (.string x.s) ∧ w.cell? ⟨b, off + j * 3 + 1, none⟩ = some (.int .i64 x.q) ∧ w.cell? ⟨b, off + j * 3 + 2, none⟩ = some (.int .i64 x.p))
    (hmay : CallsIn F (n - 1) Try.prog 50 #[.slice a xs.length cap] w fun e w' => e = .returned (.bool true) ∧ Below w.heap.size w w') :
    CallsIn F n Try.prog 21 #[.slice a xs.length cap] w fun e W' => ∃ v, e = .returned v ∧ W'.ownsRow w.heap.size 37 3 v (outX 0 xs).length (uVals (outX 0 xs)) ∧ (v = .slice none 0 0 ↔ outX 0 xs = []) ∧ OneRow W' v ∧ Below w.heap.size w W' := by
  have h1 : 1 ≤ n := by omega
  refine callsIn_of_wp_marks Try.func21 rfl h21 ?_ hro
  simp only [Try.ntmps21, List.size_toArray, List.length_cons, List.length_nil, Nat.reduceAdd, Nat.reduceSub, Array.replicate_succ, Array.replicate_zero, List.push_toArray, List.append_toArray, List.nil_append, List.cons_append]
  gi_wp2_with (first
    | (gi_at_call 50; refine hmay.mono ?_; rintro e w1 ⟨rfl, hb1⟩)
    | (gi_at_call 54; refine (each_in F (n - 1) h54 hro _ _ _ _).mono ?_; rintro e w' ⟨rfl, rfl⟩)
    | gi_in)
  have hs1 := hb1.size
  have bO := (Boxed.new w1 38 (.slice none 0 0)).alloc (.cells #[.slice a xs.length cap] 23)
  have bS := Boxed.new (w1.alloc (.cells #[.slice none 0 0] 38)) 23 (.slice a xs.length cap)
  simp only [World.size_alloc] at bS
  have hB0 : Below w.heap.size w ((w1.alloc (.cells #[.slice none 0 0] 38)).alloc (.cells #[.slice a xs.length cap] 23)) := (hb1.alloc hs1 _).alloc (by simp; omega) _
  have hsz : ((w1.alloc (.cells #[.slice none 0 0] 38)).alloc (.cells #[.slice a xs.length cap] 23)).heap.size = w1.heap.size + 2 := by simp
  obtain ⟨W0, hW0⟩ : ∃ W0, (w1.alloc (.cells #[.slice none 0 0] 38)).alloc (.cells #[.slice a xs.length cap] 23) = W0 := ⟨_, rfl⟩
  rw [hW0] at bO bS hB0 hsz ⊢
  clear hW0
  obtain ⟨i0, hi, hz0, hz1, hz2⟩ := info_parts info37
  have hz7 : ∀ u ∈ (Value.agg #[.int .i64 0, .int .i64 0, .bool false]).cells, u.oneCell' = true := by
    intro u hu
    simp [Value.cells] at hu
    rcases hu with rfl | rfl <;> rfl
  refine wpIn_rangeFunc_ownH hro h1 (gf := 76) (lb := #[.pointer (some ⟨w1.heap.size + 1, 0, none⟩)]) rfl h76 (enters_of Try.func76 (by kernel_rfl) rfl)
    (each_stops F (n - 1) h76 hro (by omega) (w1.heap.size + 1) w.heap.size b off cap xs hreach hb a ha W0 (by omega) (by omega) bS.cell (fun j x hj => by
      obtain ⟨c0, c1, c2⟩ := hc j x hj
      have hb := hb (fun e => by rw [e] at hj; simp at hj)
      exact ⟨(hB0.cell (p := ⟨b, off + j * 3, none⟩) hb).trans c0, (hB0.cell (p := ⟨b, off + j * 3 + 1, none⟩) hb).trans c1, (hB0.cell (p := ⟨b, off + j * 3 + 2, none⟩) hb).trans c2⟩))
    kpU_t (fun W l o o' hl ho hn1 hn2 => ⟨belowK_b (w := w) (Nat.le_refl _) W l o o' (by omega) ho hn1 hn2, fun j _ _ hj => World.putObj_heap_other (fun e => by subst e; rw [ho] at hj; cases hj; cases hn1)⟩) (Below.refl _ _) (fun _ => rfl)
    (fun pre W => (∃ v, Boxed W w1.heap.size 38 v ∧ W.ownsRow w.heap.size 37 3 v pre.length (uVals pre) ∧ (v = .slice none 0 0 ↔ pre = []) ∧ OneRow W v) ∧ Below w.heap.size w W)
    (fun _ _ _ => False)
    (OwnFrom.and (Own.from (rowOne_own w.heap.size w1.heap.size) _) (ownFrom_below (Nat.le_refl _) (by omega)))
    (fun _ _ _ _ _ hs _ _ => hs)
    ⟨⟨_, bO, World.ownsRow_nil _ _ _ _, by simp, .nil⟩, hB0⟩
    (fun x a' W => ∃ Bx, BoxU W Bx x ∧ a' = { tmps := #[.slice a xs.length cap, undef, .slice none 0 0, .pointer (some ⟨w1.heap.size, 0, none⟩), .pointer (some ⟨Bx, 0, none⟩), .slice a xs.length cap, .bool true, .bool false, .slice a xs.length cap, .func (.func 76) #[] #[.pointer (some ⟨w1.heap.size + 1, 0, none⟩)], .agg #[.int .i64 (x.1 : Int), .int .i64 x.2, .bool true], undef, undef, undef, undef, undef], defers := [] })
    (fun x a' _ X Y row hs hg hr => by obtain ⟨Bx, h2, h3⟩ := hs; exact ⟨Bx, BoxU.own () X Y row h2 hg (fun r e => (hr r e).2), h3⟩)
    ?assign ?body ?done ?stop
  case assign =>
    rintro l pre x W K ⟨⟨v, hv, hr, hnl, ho⟩, hB1⟩ hK
    dsimp only [encU]
    gi_wp2
    exact hK _ _ ((KeepsOthers.alloc _ _).from _) (kpU_alloc hB1.size _) ⟨⟨v, hv.alloc _, hr.alloc _, hnl, ho.alloc hr _⟩, hB1.alloc hB1.size _⟩ ⟨W.heap.size, World.alloc_heap_new W _, rfl⟩
  case body =>
    rintro l pre x a' W hl ⟨r, hr⟩ ⟨⟨v, hv, hrow, hnl, ho⟩, hB1⟩ ⟨Bx, bX, rfl⟩ hlt
    obtain ⟨x0, x1, x2⟩ := bX.cells
    have cO := hv.cell
    have fO := hv.frozen
    have h1' : 1 ≤ n - 1 - 1 := by omega
    gi_wp2_with (first
      | (gi_at_builtin; refine wpListIn_append_own1 _ rfl _ _ 38 rfl w.heap.size 37 i0 _ 3 24 Try.underlying38 hi hz0 hz1 hz2 rfl hz7 _ _ _ rfl (hrow.alloc _) (ho.alloc hrow _) ⟨W.heap.size, 0, none⟩ 1 1 [.int .i64 (x.1 : Int), .int .i64 x.2, .bool true] rfl rfl (cells3_new _ _ _ _ _) (by simp [Value.oneCell']) (by unfold maxLen; omega) (by omega) (by have := hB1.size; simp; omega) ?_; intro v' w2 hown' hgrow _ ho2; obtain ⟨g', cap', rfl⟩ := ownsRow_succ hown'; obtain ⟨hv1, hv2, hr2, hk2, hb2⟩ := hv.appended (by decide) hrow hB1.size hs1 hown' hgrow; have hc1 := hv1.cell; have hf1 := hv1.frozen; have hkl := keepL_app (v' := .slice (some ⟨g', 0, none⟩) (pre.length + 1) cap') hv hrow hgrow; have ho3 := ho2.set (v' := .slice (some ⟨g', 0, none⟩) (pre.length + 1) cap') hv1 hown')
      | gi_in)
    exact ⟨hk2.from _, ⟨hb2, hkl⟩, ⟨_, hv2, by rw [List.length_append, uVals_snoc]; exact hr2, by simp, ho3⟩, hB1.trans hb2⟩
  case done =>
    rintro D ys W hD rfl ⟨⟨v, hv, hrow, hnl, ho⟩, hB1⟩ hK
    have cO := hv.cell
    gi_wp2
    refine ⟨by simp, .inl ⟨_, _, rfl, run_takeDeferred hK, ?_⟩⟩
    exact ⟨_, results_tmp rfl _ _ _, v, rfl, ownsRow_putObj hrow _ hK rfl, hnl, ho.putObj hrow _ hK rfl, hB1.trans (belowK_b (w := w) (Nat.le_refl _) W D _ _ (by omega) hK rfl rfl)⟩
  case stop =>
    rintro D c pre W _ _ h _
    exact h.elim
set_option maxHeartbeats 1000000 in
theorem units_no (F : Fence) (n : Nat) (h21 : F.fn 21) (h50 : F.fn 50) (hro : F.round = none) (a : Option Addr) (len cap : Nat) (w : World)
    (hmay : CallsIn F (n - 1) Try.prog 50 #[.slice a len cap] w fun e w' => e = .returned (.bool false) ∧ Below w.heap.size w w') (h1 : 1 ≤ n) :
    CallsIn F n Try.prog 21 #[.slice a len cap] w fun e W' => e = .returned (.slice none 0 0) ∧ Below w.heap.size w W' := by
  refine callsIn_of_wp Try.func21 rfl h21 ?_ hro
  simp only [Try.ntmps21, List.size_toArray, List.length_cons, List.length_nil, Nat.reduceAdd, Nat.reduceSub, Array.replicate_succ, Array.replicate_zero, List.push_toArray, List.append_toArray, List.nil_append, List.cons_append]
  gi_wp2_with (first
    | (gi_at_call 50; refine hmay.mono ?_; rintro e w1 ⟨rfl, hb1⟩)
    | gi_in)
  go_ret
  exact ⟨rfl, hb1⟩
end Go.Proofs
