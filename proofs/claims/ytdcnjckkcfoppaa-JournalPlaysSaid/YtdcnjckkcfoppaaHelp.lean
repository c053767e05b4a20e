import Derived.Test.YtdcnjckkcfoppaaAMA
import Derived.Test.YtdcnjckkcfoppaaAMD
set_option linter.unusedVariables false
set_option linter.unusedSimpArgs false
namespace Go.AM
def gOwn_L0 (esz byt : Nat) (z : List Value) : ICode :=
 (.seq
 (.seq
 (.ops [ iP 22 .id [.t 7], iP 23 .id [.t 6], iP 24 .lenSlice [.t 23], iP 25 (.bin .lss) [.t 22, .t 24]])
 (.cond (.t 25)
 .skip
 (.exit 0)))
 (.seq
 (.block 1
 (.ops [ iP 28 .id [.t 6], iP 29 .id [.t 7], iP 30 .id [.t 1], iP 31 (.indexAddr esz) [.t 28, .t 29], iN (.store esz false) [.t 31, .t 30]]))
 (.ops [ iP 26 .id [.t 7], iP 27 (.bin .add) [.t 26, kI 1], iP 7 .id [.t 27]])))
def gOwn_H0 (t1 t5 t6 t7 : AV) : List AV := [.dead, t1, .dead, .dead, .dead, t5, t6, t7, .dead, .dead, .dead, .dead, .dead, .dead, .dead, .dead, .dead, .dead, .dead, .dead, .dead, .dead, .dead, .dead, .dead, .dead, .dead, .dead, .dead, .dead, .dead, .dead, .dead]
def gOwn_B (esz byt : Nat) (z : List Value) : ICode :=
 (.seq
 (.ops [ iP 4 .id [.c (.slice none 0 0)]])
 (.seq
 (.ops [ iP 8 .id [.t 0], iP 9 .lenSlice [.t 8], iP 10 (.bin .add) [.t 9, kI 3], iP 11 (.makeSlice 0 esz byt z) [kI 0, .t 10], iP 5 .id [.t 11]])
 (.seq
 (.ops [ iP 12 .id [.t 5], iP 13 .id [.t 0], iP 14 (.append 1 false esz byt) [.t 12, .t 13], iP 5 .id [.t 14]])
 (.seq
 (.ops [ iP 15 .id [.t 5], iP 16 .id [.t 0], iP 17 .lenSlice [.t 16], iP 18 (.bin .add) [.t 17, kI 3], iP 19 (.slice esz false true false) [.t 15, .t 18], iP 6 .id [.t 19]])
 (.seq
 (.seq
 (.ops [ iP 20 .id [.t 0], iP 21 .lenSlice [.t 20], iP 7 .id [.t 21]])
 (.block 0
 (.loop [0, 2, 3, 4, 8, 9, 10, 11, 12, 13, 14, 15, 16, 17, 18, 19, 20, 21, 22, 23, 24, 25, 26, 27, 28, 29, 30, 31, 32] [] (gOwn_L0 esz byt z))))
 (.seq
 (.ops [ iP 32 .id [.t 5], iP 4 .id [.t 32]])
 .ret))))))
def gOwn (esz byt : Nat) (z : List Value) : IFn := ⟨33, 2, [.tmp 4], (gOwn_B esz byt z)⟩
def gKept_L0 (plain : String) (esz : Nat) (agg : Bool) (cmp : Prim) : ICode :=
 (.seq
 (.seq
 (.ops [ iP 28 .id [.t 8], iP 29 .id [.t 7], iP 30 .lenSlice [.t 29], iP 31 (.bin .lss) [.t 28, .t 30]])
 (.cond (.t 31)
 .skip
 (.exit 0)))
 (.seq
 (.block 1
 (.seq
 (.ops [ iP 34 .id [.t 7], iP 35 .id [.t 8], iP 36 (.indexAddr esz) [.t 34, .t 35], iP 37 (.load esz agg) [.t 36], iP 38 .id [.t 2], iP 39 cmp [.t 37, .t 38]])
 (.cond (.t 39)
 (.seq
 (.ops [ iP 6 .id [.c (.bool false)]])
 .ret)
 .skip)))
 (.ops [ iP 32 .id [.t 8], iP 33 (.bin .add) [.t 32, kI 1], iP 8 .id [.t 33]])))
def gKept_H0 (t2 t7 t8 : AV) : List AV := [.dead, .dead, t2, .dead, .dead, .dead, .dead, t7, t8, .dead, .dead, .dead, .dead, .dead, .dead, .dead, .dead, .dead, .dead, .dead, .dead, .dead, .dead, .dead, .dead, .dead, .dead, .dead, .dead, .dead, .dead, .dead, .dead, .dead, .dead, .dead, .dead, .dead, .dead, .dead]
def gKept_B (plain : String) (esz : Nat) (agg : Bool) (cmp : Prim) : ICode :=
 (.seq
 (.ops [ iP 6 .id [.c (.bool false)]])
 (.seq
 (.seq
 (.ops [ iP 9 .id [.t 0], iP 10 .id [.t 1], iP 11 (.call plain []) [.t 9, .t 10], iP 12 (.un .not) [.t 11], iP 13 .id [.t 12], iG 13 false 14 .id [.t 0], iG 13 false 15 .cap [.t 14], iG 13 false 16 .id [.t 1], iG 13 false 17 .lenSlice [.t 16], iG 13 false 18 (.bin .add) [.t 17, kI 3], iG 13 false 19 (.bin .lss) [.t 15, .t 18], iP 20 .pick [.t 13, .c (.bool true), .t 19]])
 (.cond (.t 20)
 (.seq
 (.ops [ iP 6 .id [.c (.bool false)]])
 .ret)
 .skip))
 (.seq
 (.ops [ iP 21 .id [.t 0], iP 22 .id [.t 1], iP 23 .lenSlice [.t 22], iP 24 (.bin .add) [.t 23, kI 3], iP 25 (.slice esz false true false) [.t 21, .t 24], iP 7 .id [.t 25]])
 (.seq
 (.seq
 (.ops [ iP 26 .id [.t 1], iP 27 .lenSlice [.t 26], iP 8 .id [.t 27]])
 (.block 0
 (.loop [0, 1, 3, 4, 5, 6, 9, 10, 11, 12, 13, 14, 15, 16, 17, 18, 19, 20, 21, 22, 23, 24, 25, 26, 27, 28, 29, 30, 31, 32, 33, 34, 35, 36, 37, 38, 39] [] (gKept_L0 plain esz agg cmp))))
 (.seq
 (.ops [ iP 6 .id [.c (.bool true)]])
 .ret)))))
def gKept (plain : String) (esz : Nat) (agg : Bool) (cmp : Prim) : IFn := ⟨40, 0, [.tmp 6], (gKept_B plain esz agg cmp)⟩
def gSame_L0 (esz : Nat) (agg : Bool) : ICode :=
 (.seq
 (.seq
 (.ops [ iP 13 .id [.t 7], iP 14 .id [.t 0], iP 15 .lenSlice [.t 14], iP 16 (.bin .lss) [.t 13, .t 15]])
 (.cond (.t 16)
 .skip
 (.exit 0)))
 (.seq
 (.block 1
 (.seq
 (.draw [ iP 19 .id [.t 2], iP 20 .id [.t 0], iP 21 .id [.t 7], iP 22 (.indexAddr esz) [.t 20, .t 21], iP 23 (.load esz agg) [.t 22], iP 24 .id [.t 1], iP 25 .id [.t 7], iP 26 (.indexAddr esz) [.t 24, .t 25], iP 27 (.load esz agg) [.t 26], iP 28 (.callV []) [.t 19, .t 23, .t 27], iP 29 (.un .not) [.t 28]])
 (.cond (.t 29)
 (.seq
 (.ops [ iP 6 .id [.c (.bool false)]])
 .ret)
 .skip)))
 (.ops [ iP 17 .id [.t 7], iP 18 (.bin .add) [.t 17, kI 1], iP 7 .id [.t 18]])))
def gSame_H0 (t0 t1 t2 t7 : AV) : List AV := [t0, t1, t2, .dead, .dead, .dead, .dead, t7, .dead, .dead, .dead, .dead, .dead, .dead, .dead, .dead, .dead, .dead, .dead, .dead, .dead, .dead, .dead, .dead, .dead, .dead, .dead, .dead, .dead, .dead]
def gSame_B (esz : Nat) (agg : Bool) : ICode :=
 (.seq
 (.ops [ iP 6 .id [.c (.bool false)]])
 (.seq
 (.seq
 (.ops [ iP 8 .id [.t 0], iP 9 .lenSlice [.t 8], iP 10 .id [.t 1], iP 11 .lenSlice [.t 10], iP 12 (.bin .neq) [.t 9, .t 11]])
 (.cond (.t 12)
 (.seq
 (.ops [ iP 6 .id [.c (.bool false)]])
 .ret)
 .skip))
 (.seq
 (.seq
 (.ops [ iP 7 .id [kI 0]])
 (.block 0
 (.loop [3, 4, 5, 6, 8, 9, 10, 11, 12, 13, 14, 15, 16, 17, 18, 19, 20, 21, 22, 23, 24, 25, 26, 27, 28, 29] [] (gSame_L0 esz agg))))
 (.seq
 (.ops [ iP 6 .id [.c (.bool true)]])
 .ret))))
def gSame (esz : Nat) (agg : Bool) : IFn := ⟨30, 0, [.tmp 6], (gSame_B esz agg)⟩
def gPlain_B (same one : String) : ICode :=
 (.seq
 (.ops [ iP 4 .id [.c (.bool false)]])
 (.seq
 (.ops [ iP 5 .id [.t 0], iP 6 .id [.t 1], iP 7 (.call same []) [.t 5, .t 6, .f one], iP 4 .id [.t 7]])
 .ret))
def gPlain (same one : String) : IFn := ⟨8, 0, [.tmp 4], (gPlain_B same one)⟩
end Go.AM
namespace Go.AM
variable {prog : String → Option IFn}
def el (agg : Bool) (cs : List AV) : AV := if agg then .agg cs else cs.headD .dead
structure Enc (α : Type) where
  E : α → List AV
  esz : Nat
  agg : Bool
  len : ∀ x, (E x).length = esz
  pos : 0 < esz
  one : agg = true ∨ esz = 1
  lf : ∀ x, AV.lf.lfs (E x) = true
  cells : agg = false → ∀ x, ∃ c, E x = [c] ∧ c.cellsOf = some [c]
def Enc.row {α} (T : Enc α) (xs : List α) : List AV := xs.flatMap T.E
def Enc.av {α} (T : Enc α) (x : α) : AV := el T.agg (T.E x)
def TView {α} (T : Enc α) (h : Hp) (a : AV) (xs : List α) : Prop := View h a T.esz xs.length (T.row xs)
variable {α : Type} {T : Enc α}
theorem Enc.whole (T : Enc α) (x : α) : whole T.agg (T.E x) = some (T.av x) := by
  unfold AM.whole Enc.av el
  cases h : T.agg with
  | true => rfl
  | false => obtain ⟨c, hc, _⟩ := T.cells h x; rw [hc]; rfl
theorem Enc.cellsOf (T : Enc α) (x : α) : (T.av x).cellsOf = some (T.E x) := by
  unfold Enc.av el
  cases h : T.agg with
  | true => rfl
  | false => obtain ⟨c, hc, h2⟩ := T.cells h x; rw [hc]; exact h2
theorem Enc.row_len (T : Enc α) (xs : List α) : (T.row xs).length = xs.length * T.esz := by
  unfold Enc.row
  rw [List.flatMap_def, flatten_len' (c := T.esz)]
  · simp
  · intro x hx; obtain ⟨y, _, rfl⟩ := List.mem_map.1 hx; exact T.len y
theorem Enc.row_chunk (T : Enc α) {xs : List α} {i : Nat} {x : α} (h : xs[i]? = some x) : ((T.row xs).drop (i * T.esz)).take T.esz = T.E x := by
  unfold Enc.row
  rw [List.flatMap_def]
  refine flatten_chunk' (c := T.esz) (fun y hy => ?_) ?_
  · obtain ⟨z, _, rfl⟩ := List.mem_map.1 hy; exact T.len z
  · rw [List.getElem?_map, h]; rfl
theorem Enc.row_lf (T : Enc α) (xs : List α) : AV.lf.lfs (T.row xs) = true := by
  rw [lfs_iff]
  intro a ha
  obtain ⟨x, _, hx⟩ := List.mem_flatMap.1 ha
  exact lfs_iff.1 (T.lf x) a hx
theorem Enc.row_append (T : Enc α) (xs ys : List α) : T.row (xs ++ ys) = T.row xs ++ T.row ys := by simp [Enc.row]
theorem Enc.av_lf (T : Enc α) (x : α) : (T.av x).lf = true := by
  unfold Enc.av el
  cases h : T.agg with
  | true => exact T.lf x
  | false => obtain ⟨c, hc, _⟩ := T.cells h x; have := T.lf x; rw [hc] at this ⊢; simpa [AV.lf.lfs] using this
theorem TView.lenSlice {h a} {xs : List α} (v : TView T h a xs) : prim h .lenSlice [a] = some (.v (.int .i64 xs.length), h) := View.lenSlice v
theorem TView.index {h a} {xs : List α} (v : TView T h a xs) {k : IntKind} {i : Nat} (hi : i < xs.length) : prim h (.indexAddr T.esz) [a, .v (.int k i)] = some (elemPtr a T.esz i, h) := View.index v hi
theorem TView.load {h a} {xs : List α} (v : TView T h a xs) {i : Nat} {x : α} (hx : xs[i]? = some x) : prim h (.load T.esz T.agg) [elemPtr a T.esz i] = some (T.av x, h) := by
  have hi := lt_of_get hx
  rw [View.load v hi, T.row_chunk hx, T.whole]; rfl
theorem TView.into {h : Hp} {a} {xs : List α} (v : TView T h a xs) : ∀ L, TView T ⟨h.into, L⟩ (a.ren (up h.G.length)) xs := View.into v (T.row_lf xs)
def same2 {β : Type} (cmp : α → β → Bool) : List α → List β → Bool
  | [], [] => true
  | x :: xs, y :: ys => cmp x y && same2 cmp xs ys
  | _, _ => false
theorem same2_eq [DecidableEq α] : ∀ (xs ys : List α), same2 (fun x y => decide (x = y)) xs ys = decide (xs = ys)
  | [], [] => rfl
  | [], _ :: _ => rfl
  | _ :: _, [] => rfl
  | x :: xs, y :: ys => by rw [same2, same2_eq xs ys, Bool.eq_iff_iff]; simp
theorem same2_len {β : Type} {cmp : α → β → Bool} : ∀ {xs : List α} {ys : List β}, xs.length ≠ ys.length → same2 cmp xs ys = false
  | [], [], h => absurd rfl h
  | [], _ :: _, _ => rfl
  | _ :: _, [], _ => rfl
  | x :: xs, y :: ys, h => by rw [same2, same2_len (by simpa using h), Bool.and_false]
theorem same2_at {β : Type} {cmp : α → β → Bool} : ∀ {xs : List α} {ys : List β} {i : Nat} {x y}, xs[i]? = some x → ys[i]? = some y → cmp x y = false → same2 cmp xs ys = false
  | [], _, i, x, y, h, _, _ => by simp at h
  | _ :: _, [], i, x, y, _, h, _ => by simp at h
  | a :: xs, b :: ys, 0, x, y, h1, h2, h => by simp at h1 h2; subst h1; subst h2; rw [same2, h]; rfl
  | a :: xs, b :: ys, i + 1, x, y, h1, h2, h => by rw [same2, same2_at (by simpa using h1) (by simpa using h2) h, Bool.and_false]
theorem same2_all {β : Type} {cmp : α → β → Bool} : ∀ {xs : List α} {ys : List β}, xs.length = ys.length → (∀ (i : Nat) x y, xs[i]? = some x → ys[i]? = some y → cmp x y = true) → same2 cmp xs ys = true
  | [], [], _, _ => rfl
  | [], _ :: _, h, _ => by simp at h
  | _ :: _, [], h, _ => by simp at h
  | x :: xs, y :: ys, h, ha => by rw [same2, ha 0 x y rfl rfl, same2_all (by simpa using h) fun i a b h1 h2 => ha (i + 1) a b (by simpa using h1) (by simpa using h2)]; rfl
theorem WDP_callV {xs ld dst l} {k : List Kf} {s : St} {Q : Out → St → Prop} {a : AV} (hr : Ev prog (.op (.callV []) xs s.h) (.val a s.h)) (h : WD prog l k (s.put dst a) Q) : WDP prog (.callV []) xs [] [] ld dst l k s Q :=
  ⟨a, s.h, fun X _ => hr, by simp [okAt, Prim.sites], .inr ⟨by simp [Prim.sites, Quiet, Hp.over, AM.over], by simp [Prim.sites, okAt]⟩, by simp, h⟩
theorem same_spec {nm} {β : Type} {U : Enc β} (he : U.esz = T.esz) (hagg : U.agg = T.agg) (hf : prog nm = some (gSame T.esz T.agg)) {G a b fv} {xs : List α} {ys : List β} (v : ∀ L, TView T ⟨G, L⟩ a xs) (w : ∀ L, TView U ⟨G, L⟩ b ys) (cmp : α → β → Bool)
    (hc : ∀ (i : Nat) x y, xs[i]? = some x → ys[i]? = some y → Ev prog (.op (.callV []) [fv, T.av x, U.av y] ⟨G, []⟩) (.val (.v (.bool (cmp x y))) ⟨G, []⟩)) (hl : xs.length < 2 ^ 62) (hl2 : ys.length < 2 ^ 62) :
    Ev prog (.call nm [a, b, fv] G) (.ret (.v (.bool (same2 cmp xs ys))) G) := by
  refine call_of_fin hf ?_
  simp only [gSame_B, enter, List.length_cons, List.length_nil, List.replicate, Nat.reduceAdd, Nat.reduceSub, List.cons_append, List.nil_append]
  simp (disch := first | (simp only [DS, reduceCtorEq]; done) | omega) only [WS, St.guard, St.put, evalO, reduceCtorEq, reduceIte, Nat.reduceAdd, Nat.reduceEqDiff, (v _).lenSlice, (w _).lenSlice]
  by_cases hlen : xs.length = ys.length
  · have e : ((xs.length : Int) != (ys.length : Int)) = false := by rw [bne_eq_false_iff_eq]; omega
    simp (disch := first | (simp only [DS, reduceCtorEq]; done) | omega) only [WS, St.guard, St.put, evalO, reduceCtorEq, reduceIte, Nat.reduceAdd, Nat.reduceEqDiff, e]
    refine WC_countP (fun i => ∀ (j : Nat) x y, j < i → xs[j]? = some x → ys[j]? = some y → cmp x y = true) (fun i => ⟨gSame_H0 a b fv (.v (.int .i64 (i : Nat))), ⟨G, []⟩⟩) xs.length ?_ (fun j x y h => by omega) (fun i hi hp => ?_) (fun hp => ?_)
    · simp only [clear_nil, List.foldl_cons, List.foldl_nil, Option.some.injEq, LS, reduceCtorEq, reduceIte, Nat.reduceAdd]; rfl
    · have hlt' : (i : Int) < (xs.length : Int) := by omega
      have hx : xs[i]? = some xs[i] := List.getElem?_eq_getElem hi
      have hy : ys[i]? = some ys[i] := List.getElem?_eq_getElem (by omega)
      have wi := (w []).index (k := .i64) (show i < ys.length by omega)
      have wl := (w []).load hy
      rw [he] at wi
      rw [he, hagg] at wl
      simp (disch := first | (simp only [DS, reduceCtorEq]; done) | omega) only [gSame_L0, gSame_H0, WS, St.guard, St.put, evalO, reduceCtorEq, reduceIte, Nat.reduceAdd, Nat.reduceEqDiff, hlt', decide_true, (v _).lenSlice, (v _).index hi, (v _).load hx, wi, wl]
      refine WDP_callV (hc i _ _ hx hy) ?_
      cases hcmp : cmp xs[i] ys[i]
      · simp (disch := first | (simp only [DS, reduceCtorEq]; done) | omega) only [WS, St.guard, St.put, evalO, reduceCtorEq, reduceIte, Nat.reduceAdd, Nat.reduceEqDiff, fin_tmp, leave_v, same2_at hx hy hcmp]
        simp
      · simp (disch := first | (simp only [DS, reduceCtorEq]; done) | omega) only [WS, St.guard, St.put, evalO, reduceCtorEq, reduceIte, Nat.reduceAdd, Nat.reduceEqDiff, vBin_add_i64, clear_nil, List.foldl_cons, List.foldl_nil, Option.some.injEq]
        refine ⟨rfl, fun j x y hj h1 h2 => ?_⟩
        by_cases hji : j < i
        · exact hp j x y hji h1 h2
        · obtain rfl : j = i := by omega
          rw [hx] at h1; rw [hy] at h2; cases h1; cases h2; exact hcmp
    · simp (disch := first | (simp only [DS, reduceCtorEq]; done) | omega) only [gSame_L0, gSame_H0, WS, St.guard, St.put, evalO, reduceCtorEq, reduceIte, Nat.reduceAdd, Nat.reduceEqDiff, (v _).lenSlice, decide_false, fin_tmp, leave_v]
      rw [same2_all hlen fun i x y h1 h2 => hp i x y (lt_of_get h1) h1 h2]
      simp
  · have e : ((xs.length : Int) != (ys.length : Int)) = true := by rw [bne_iff_ne]; omega
    simp (disch := first | (simp only [DS, reduceCtorEq]; done) | omega) only [WS, St.guard, St.put, evalO, reduceCtorEq, reduceIte, Nat.reduceAdd, Nat.reduceEqDiff, e, fin_tmp, leave_v, same2_len hlen]
    simp
end Go.AM
namespace Go.AM
variable {prog : String → Option IFn}
variable {α : Type} {T : Enc α}
theorem lay_app {A C new : List AV} {off : Nat} (h : off = A.length) : lay (A ++ C) off new = A ++ new ++ C.drop new.length := by
  subst h
  unfold lay
  rw [List.take_left, List.drop_append, List.drop_of_length_le (by omega), List.nil_append, Nat.add_sub_cancel_left]
def ownCells (T : Enc α) (xs : List α) (x0 : α) : List AV := T.row (xs ++ [x0, x0, x0])
theorem ownCells_len {xs : List α} {x0 : α} : (ownCells T xs x0).length = (xs.length + 3) * T.esz := by rw [ownCells, T.row_len]; simp
theorem drop_rep {z : List AV} {c m : Nat} (hz : z.length = c) : ((List.replicate (m + 1) z).flatten).drop c = (List.replicate m z).flatten := by
  rw [List.replicate_succ, List.flatten_cons, List.drop_append, List.drop_of_length_le (by omega), List.nil_append, hz, Nat.sub_self, List.drop_zero]
theorem rep_len {z : List AV} {c : Nat} (hz : z.length = c) (m : Nat) : ((List.replicate m z).flatten).length = m * c := by
  rw [flatten_len' (c := c) fun x hx => by rw [(List.mem_replicate.1 hx).2, hz]]; simp
theorem drop_reps {z : List AV} {c : Nat} (hz : z.length = c) : ∀ (n m : Nat), ((List.replicate (n + m) z).flatten).drop (n * c) = (List.replicate m z).flatten
  | 0, m => by simp
  | n + 1, m => by
    rw [show n + 1 + m = (n + m) + 1 by omega, Nat.add_mul, Nat.one_mul, Nat.add_comm (n * c) c, ← List.drop_drop, drop_rep hz, drop_reps hz n m]
theorem own_spec {nm} {byt : Nat} {z : List Value} (hz : z.length = T.esz) (hf : prog nm = some (gOwn T.esz byt z)) {G a} {xs : List α} (x0 : α) (v : ∀ L, TView T ⟨G, L⟩ a xs) (hr : xs.length + 3 ≤ room) (hr2 : (xs.length + 3) * byt ≤ room) :
    Ev prog (.call nm [a, T.av x0] G) (.ret (.own (.o G.length) ((xs.length + 3) * T.esz) 0 xs.length T.esz (some (xs.length + 3))) (G ++ [some (dBlk (ownCells T xs x0) false false)])) := by
  refine call_of_fin hf ?_
  have hroom : room = 140737488355328 := rfl
  have hzl : (z.map AV.v).length = T.esz := by rw [List.length_map, hz]
  have hz0 : ∀ m, AV.lf.lfs ((List.replicate m (z.map AV.v)).flatten) = true := fun m => by
    rw [lfs_iff]; intro b hb; obtain ⟨y, hy, hby⟩ := List.mem_flatten.1 hb; rw [(List.mem_replicate.1 hy).2] at hby; exact lfs_iff.1 vals_lfs b hby
  have hp := T.pos
  simp only [gOwn_B, enter, List.length_cons, List.length_nil, List.replicate, Nat.reduceAdd, Nat.reduceSub, List.cons_append, List.nil_append]
  simp (disch := first | (simp only [DS, reduceCtorEq]; done) | omega) only [WS, St.guard, St.put, evalO, reduceCtorEq, reduceIte, Nat.reduceAdd, Nat.reduceEqDiff, (v _).lenSlice, vBin_add_i64]
  have e3 : (xs.length : Int) + 3 = ((xs.length + 3 : Nat) : Int) := rfl
  have mk : prim ⟨G, [none, none]⟩ (.makeSlice 0 T.esz byt z) [.v (.int .i64 0), .v (.int .i64 ((xs.length + 3 : Nat) : Int))] =
      some (.own (.l 0) ((xs.length + 3) * T.esz) 0 0 T.esz (some (xs.length + 3)), ⟨G, [some (dBlk ((List.replicate (xs.length + 3) (z.map AV.v)).flatten) false false), none]⟩) := by
    rw [px_makeSlice, natOf_nat, show natOf (.v (.int .i64 0)) = some 0 from rfl]
    simp only [Option.bind_some]
    refine (if_pos ⟨by omega, hr, hr2, hz⟩).trans ?_
    rw [newBlk_data (hz0 _)]; rfl
  rw [e3, mk]
  simp (disch := first | (simp only [DS, reduceCtorEq]; done) | omega) only [WS, St.guard, St.put, evalO, reduceCtorEq, reduceIte, Nat.reduceAdd, Nat.reduceEqDiff]
  have ap : prim ⟨G, [some (dBlk ((List.replicate (xs.length + 3) (z.map AV.v)).flatten) false false), none]⟩ (.append 1 false T.esz byt) [.own (.l 0) ((xs.length + 3) * T.esz) 0 0 T.esz (some (xs.length + 3)), a] =
      some (.own (.l 0) ((xs.length + 3) * T.esz) 0 xs.length T.esz (some (xs.length + 3)), ⟨G, [some (dBlk (T.row xs ++ (List.replicate 3 (z.map AV.v)).flatten) false false), none]⟩) := by
    have hs := (v [some (dBlk ((List.replicate (xs.length + 3) (z.map AV.v)).flatten) false false), none]).source
    have hcl := T.row_len xs
    simp only [prim, hs, Option.bind_some, Hp.mayFreeze, Bool.false_eq_true, if_false, Hp.append, hcl, if_true, Hp.get, List.getElem?_cons_zero, Option.join_some, Nat.zero_add]
    have hbt : xs.length * byt ≤ room := Nat.le_trans (Nat.mul_le_mul_right _ (by omega)) hr2
    refine (if_pos ⟨rep_len hzl _, trivial, hbt, rfl⟩).trans ?_
    by_cases h0 : xs.length = 0
    · have : xs = [] := List.eq_nil_of_length_eq_zero h0
      subst this
      rfl
    · rw [if_neg h0, if_pos (show xs.length ≤ xs.length + 3 by omega), dBlk_wr, if_pos rfl]
      have hlay : lay (dBlk ((List.replicate (xs.length + 3) (z.map AV.v)).flatten) false false).cells (0 * T.esz) (T.row xs) = T.row xs ++ (List.replicate 3 (z.map AV.v)).flatten := by
        rw [dBlk_cells]
        have := lay_app (A := []) (C := (List.replicate (xs.length + 3) (z.map AV.v)).flatten) (new := T.row xs) (off := 0 * T.esz) (by simp)
        rw [List.nil_append, List.nil_append, hcl, drop_reps hzl] at this
        exact this
      rw [hlay, T.row_lf]
      rfl
  rw [ap]
  simp (disch := first | (simp only [DS, reduceCtorEq]; done) | omega) only [WS, St.guard, St.put, evalO, reduceCtorEq, reduceIte, Nat.reduceAdd, Nat.reduceEqDiff, (v _).lenSlice, vBin_add_i64]
  have sl : ∀ h, prim h (.slice T.esz false true false) [.own (.l 0) ((xs.length + 3) * T.esz) 0 xs.length T.esz (some (xs.length + 3)), .v (.int .i64 ((xs.length + 3 : Nat) : Int))] =
      some (.own (.l 0) ((xs.length + 3) * T.esz) 0 (xs.length + 3) T.esz (some (xs.length + 3)), h) := by
    intro h
    rw [px_slice_own, if_pos rfl]
    simp only [bounds, natOf_nat, Option.bind_some, AM.leCap, Nat.le_refl, decide_true, if_true, Nat.zero_le, Nat.zero_mul, Nat.zero_add, Nat.sub_zero]
  rw [e3, sl]
  simp (disch := first | (simp only [DS, reduceCtorEq]; done) | omega) only [WS, St.guard, St.put, evalO, reduceCtorEq, reduceIte, Nat.reduceAdd, Nat.reduceEqDiff, (v _).lenSlice]
  refine WC_count (fun j => ⟨gOwn_H0 (T.av x0) (.own (.l 0) ((xs.length + 3) * T.esz) 0 xs.length T.esz (some (xs.length + 3))) (.own (.l 0) ((xs.length + 3) * T.esz) 0 (xs.length + 3) T.esz (some (xs.length + 3))) (.v (.int .i64 ((xs.length + j : Nat) : Int))),
    ⟨G, [some (dBlk (T.row (xs ++ List.replicate j x0) ++ (List.replicate (3 - j) (z.map AV.v)).flatten) false false), none]⟩⟩) 3 ?_ (fun j hj => ?_) ?_
  · simp only [clear_nil, List.foldl_cons, List.foldl_nil, Option.some.injEq, LS, reduceCtorEq, reduceIte, Nat.reduceAdd, List.replicate_zero, List.append_nil]; rfl
  · have hlt' : ((xs.length + j : Nat) : Int) < ((xs.length + 3 : Nat) : Int) := by omega
    have hj' : xs.length + j < xs.length + 3 := by omega
    have hcl : (T.row (xs ++ List.replicate j x0) ++ (List.replicate (3 - j) (z.map AV.v)).flatten).length = (xs.length + 3) * T.esz := by
      rw [List.length_append, T.row_len, rep_len hzl, ← Nat.add_mul]; congr 1; simp; omega
    have hoff : (xs.length + j) * T.esz + T.esz ≤ (xs.length + 3) * T.esz := by
      rw [← Nat.succ_mul]; exact Nat.mul_le_mul_right _ (by omega)
    simp (disch := first | (simp only [DS, reduceCtorEq]; done) | omega) only [gOwn_L0, gOwn_H0, WS, St.guard, St.put, evalO, reduceCtorEq, reduceIte, Nat.reduceAdd, Nat.reduceEqDiff, lenOf_own, Option.map_some, goInt, hlt', decide_true, px_indexAddr_own, natOf_nat, Option.bind_some, hj', and_self, Nat.zero_add]
    rw [store_d (j := 0) rfl (T.cellsOf x0) hcl (T.len x0) hoff (T.lf x0)]
    have hlay : lay (T.row (xs ++ List.replicate j x0) ++ (List.replicate (3 - j) (z.map AV.v)).flatten) ((xs.length + j) * T.esz) (T.E x0) = T.row (xs ++ List.replicate (j + 1) x0) ++ (List.replicate (3 - (j + 1)) (z.map AV.v)).flatten := by
      rw [lay_app (by rw [T.row_len]; simp), T.len, show 3 - j = (3 - (j + 1)) + 1 by omega, drop_rep hzl]
      congr 1
      rw [List.replicate_succ', ← List.append_assoc, T.row_append (xs ++ List.replicate j x0)]
      simp [Enc.row]
    rw [hlay]
    simp (disch := first | (simp only [DS, reduceCtorEq]; done) | omega) only [WS, St.guard, St.put, evalO, reduceCtorEq, reduceIte, Nat.reduceAdd, Nat.reduceEqDiff, vBin_add_i64, clear_nil, List.foldl_cons, List.foldl_nil, Option.some.injEq]
    rfl
  · simp (disch := first | (simp only [DS, reduceCtorEq]; done) | omega) only [gOwn_L0, gOwn_H0, WS, St.guard, St.put, evalO, reduceCtorEq, reduceIte, Nat.reduceAdd, Nat.reduceEqDiff, lenOf_own, Option.map_some, goInt, decide_false, fin_tmp]
    rw [leave_own1 (j := 0) (b := dBlk (T.row (xs ++ List.replicate 3 x0) ++ (List.replicate (3 - 3) (z.map AV.v)).flatten) false false) rfl rfl]
    simp [ownCells, List.replicate]
def PlainOK [DecidableEq α] (prog : String → Option IFn) (plain : String) (T : Enc α) : Prop := ∀ {G a b} {xs ys : List α}, (∀ L, TView T ⟨G, L⟩ a xs) → (∀ L, TView T ⟨G, L⟩ b ys) → xs.length < 2 ^ 62 → ys.length < 2 ^ 62 →
    Ev prog (.call plain [a, b] G) (.ret (.v (.bool (decide (xs = ys)))) G)
theorem plain_ok [DecidableEq α] {plain same one : String} (hp : prog plain = some (gPlain same one)) (hs : prog same = some (gSame T.esz T.agg))
    (h1 : ∀ {G} (x y : α), Ev prog (.call one [T.av x, T.av y] G) (.ret (.v (.bool (decide (x = y)))) G)) : PlainOK prog plain T := by
  intro G a b xs ys v w hx hy
  refine call_of_fin hp ?_
  simp only [gPlain_B, enter, List.length_cons, List.length_nil, List.replicate, Nat.reduceAdd, Nat.reduceSub, List.cons_append, List.nil_append]
  simp (disch := first | (simp only [DS, reduceCtorEq]; done) | omega) only [WS, St.guard, St.put, evalO, reduceCtorEq, reduceIte, Nat.reduceAdd, Nat.reduceEqDiff]
  have ha := (v []).out
  have := same_spec (prog := prog) (T := T) (U := T) rfl rfl hs (G := (⟨G, []⟩ : Hp).into) (a := a.ren (up G.length)) (b := b.ren (up G.length)) (fv := .fn one [] []) (xs := xs) (ys := ys) ((v []).into) ((w []).into) (fun x y => decide (x = y)) (fun i x y _ _ => by
    have e : (⟨(⟨G, []⟩ : Hp).into, []⟩ : Hp).G = G := by simp [Hp.into]
    refine .opCallV (r := .v (.bool (decide (x = y)))) (G2 := (⟨(⟨G, []⟩ : Hp).into, []⟩ : Hp).into) rfl ?_ (back_pure rfl)
    have hr : ∀ z : α, (T.av z).ren (up ((⟨G, []⟩ : Hp).into).length) = T.av z := fun z => ren_id fun ℓ hl => by rw [lf_of_labs_nil (T.av_lf z)] at hl; cases hl
    simp only [List.nil_append, List.append_nil, List.map_cons, List.map_nil, hr]
    exact h1 x y) hx hy
  rw [same2_eq] at this
  rw [WP_p (x := .bool (decide (xs = ys))) this (by exact trivial)]
  simp (disch := first | (simp only [DS, reduceCtorEq]; done) | omega) only [WS, St.guard, St.put, evalO, reduceCtorEq, reduceIte, Nat.reduceAdd, Nat.reduceEqDiff, fin_tmp, leave_v]
  simp
theorem kept_spec [DecidableEq α] {nm plain cmp} (hf : prog nm = some (gKept plain T.esz T.agg cmp)) (hpl : PlainOK prog plain T) (hcf : cmp.free = true) {x0 : α} (hcmp : ∀ h, prim h cmp [T.av x0, T.av x0] = some (.v (.bool false), h))
    {G p b} {xs : List α} (hp : G[p]? = some (some (dBlk (ownCells T xs x0) false false))) (w : ∀ L, TView T ⟨G, L⟩ b xs) (hx : xs.length < 2 ^ 61) :
    Ev prog (.call nm [.own (.o p) ((xs.length + 3) * T.esz) 0 xs.length T.esz (some (xs.length + 3)), b, T.av x0] G) (.ret (.v (.bool true)) G) := by
  have n1 : ∀ f sites, cmp ≠ .call f sites := by intro f ss e; subst e; cases hcf
  have n2 : ∀ sites, cmp ≠ .callV sites := by intro ss e; subst e; cases hcf
  have hp0 := T.pos
  have e3 : (xs.length : Int) + 3 = ((xs.length + 3 : Nat) : Int) := rfl
  have v : ∀ L, TView T ⟨G, L⟩ (.own (.o p) ((xs.length + 3) * T.esz) 0 xs.length T.esz (some (xs.length + 3))) xs := by
    intro L
    refine ⟨rfl, ?_, T.row_len xs, rfl, by simp [capOK], hp0⟩
    simp only [Hp.sees, Hp.get, hp, Option.join_some, dBlk_cells, ownCells_len, if_true, List.drop_zero]
    rw [ownCells, T.row_append, List.take_append_of_le_length (by rw [T.row_len]; exact Nat.le_refl _), List.take_of_length_le (by rw [T.row_len]; exact Nat.le_refl _)]
  have vf : ∀ L, TView T ⟨G, L⟩ (.own (.o p) ((xs.length + 3) * T.esz) 0 (xs.length + 3) T.esz (some (xs.length + 3))) (xs ++ [x0, x0, x0]) := by
    intro L
    have hl : (xs ++ [x0, x0, x0]).length = xs.length + 3 := by simp
    unfold TView
    rw [hl]
    refine ⟨rfl, ?_, by rw [T.row_len, hl], rfl, by simp [capOK], hp0⟩
    simp only [Hp.sees, Hp.get, hp, Option.join_some, dBlk_cells, ownCells_len, if_true, List.drop_zero]
    rw [List.take_of_length_le (by rw [ownCells_len]; exact Nat.le_refl _)]; rfl
  refine call_of_fin hf ?_
  simp only [gKept_B, enter, List.length_cons, List.length_nil, List.replicate, Nat.reduceAdd, Nat.reduceSub, List.cons_append, List.nil_append]
  simp (disch := first | (simp only [DS, reduceCtorEq]; done) | omega) only [WS, St.guard, St.put, evalO, reduceCtorEq, reduceIte, Nat.reduceAdd, Nat.reduceEqDiff]
  have hpl1 := hpl (G := (⟨G, []⟩ : Hp).into) ((v []).into) ((w []).into) (by omega) (by omega)
  rw [decide_eq_true rfl] at hpl1
  rw [WP_p (x := .bool true) hpl1 (by exact trivial)]
  simp (disch := first | (simp only [DS, reduceCtorEq]; done) | omega) only [WS, St.guard, St.put, evalO, reduceCtorEq, reduceIte, Nat.reduceAdd, Nat.reduceEqDiff, (w _).lenSlice, vBin_add_i64, goInt]
  have hdec : decide (((xs.length + 3 : Nat) : Int) < (xs.length : Int) + 3) = false := by simp
  simp (disch := first | (simp only [DS, reduceCtorEq]; done) | omega) only [WS, St.guard, St.put, evalO, reduceCtorEq, reduceIte, Nat.reduceAdd, Nat.reduceEqDiff, hdec, (w _).lenSlice, vBin_add_i64]
  have sl : ∀ h, prim h (.slice T.esz false true false) [.own (.o p) ((xs.length + 3) * T.esz) 0 xs.length T.esz (some (xs.length + 3)), .v (.int .i64 ((xs.length + 3 : Nat) : Int))] =
      some (.own (.o p) ((xs.length + 3) * T.esz) 0 (xs.length + 3) T.esz (some (xs.length + 3)), h) := by
    intro h
    rw [px_slice_own, if_pos rfl]
    simp only [bounds, natOf_nat, Option.bind_some, AM.leCap, Nat.le_refl, decide_true, if_true, Nat.zero_le, Nat.zero_mul, Nat.zero_add, Nat.sub_zero]
  rw [e3, sl]
  simp (disch := first | (simp only [DS, reduceCtorEq]; done) | omega) only [WS, St.guard, St.put, evalO, reduceCtorEq, reduceIte, Nat.reduceAdd, Nat.reduceEqDiff, (w _).lenSlice]
  refine WC_count (fun j => ⟨gKept_H0 (T.av x0) (.own (.o p) ((xs.length + 3) * T.esz) 0 (xs.length + 3) T.esz (some (xs.length + 3))) (.v (.int .i64 ((xs.length + j : Nat) : Int))), ⟨G, []⟩⟩) 3 ?_ (fun j hj => ?_) ?_
  · simp only [clear_nil, List.foldl_cons, List.foldl_nil, Option.some.injEq, LS, reduceCtorEq, reduceIte, Nat.reduceAdd]; rfl
  · have hlt' : ((xs.length + j : Nat) : Int) < ((xs.length + 3 : Nat) : Int) := by omega
    have hg : (xs ++ [x0, x0, x0])[xs.length + j]? = some x0 := by
      rw [List.getElem?_append_right (by omega), Nat.add_sub_cancel_left]
      have : j = 0 ∨ j = 1 ∨ j = 2 := by omega
      rcases this with rfl | rfl | rfl <;> rfl
    have hi : xs.length + j < (xs ++ [x0, x0, x0]).length := lt_of_get hg
    simp (disch := first | (simp only [DS, reduceCtorEq]; done) | omega) only [gKept_L0, gKept_H0, WS, St.guard, St.put, evalO, reduceCtorEq, reduceIte, Nat.reduceAdd, Nat.reduceEqDiff, lenOf_own, Option.map_some, goInt, hlt', decide_true, (vf _).index hi, (vf _).load hg]
    rw [hcmp]
    simp (disch := first | (simp only [DS, reduceCtorEq]; done) | omega) only [WS, St.guard, St.put, evalO, reduceCtorEq, reduceIte, Nat.reduceAdd, Nat.reduceEqDiff, vBin_add_i64, clear_nil, List.foldl_cons, List.foldl_nil, Option.some.injEq]
    rfl
  · simp (disch := first | (simp only [DS, reduceCtorEq]; done) | omega) only [gKept_L0, gKept_H0, WS, St.guard, St.put, evalO, reduceCtorEq, reduceIte, Nat.reduceAdd, Nat.reduceEqDiff, lenOf_own, Option.map_some, goInt, decide_false, fin_tmp, leave_v]
    simp
end Go.AM
