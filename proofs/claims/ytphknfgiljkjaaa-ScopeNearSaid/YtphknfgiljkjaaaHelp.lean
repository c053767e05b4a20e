import Derived.Test.YtphknfgiljkjaaaAMA
import Derived.Test.YtphknfgiljkjaaaAMD
set_option linter.unusedVariables false
set_option linter.unusedSimpArgs false
namespace Go.AM
def gSame_L0 (esz : Nat) (agg : Bool) : ICode :=
 (.seq
 (.seq
 (.ops [ iP 13 .id [.t 7], iP 14 .id [.t 0], iP 15 .lenSlice [.t 14], iP 16 (.bin .lss) [.t 13, .t 15]])
 (.cond (.t 16)
 .skip
 (.exit 0)))
 (.seq
 (.block 1
 (.seq
 (.draw [ iP 19 .id [.t 2], iP 20 .id [.t 0], iP 21 .id [.t 7], iP 22 (.indexAddr esz) [.t 20, .t 21], iP 23 (.load esz agg) [.t 22], iP 24 .id [.t 1], iP 25 .id [.t 7], iP 26 (.indexAddr esz) [.t 24, .t 25], iP 27 (.load esz agg) [.t 26], iP 28 (.callV []) [.t 19, .t 23, .t 27], iP 29 (.un .not) [.t 28]])
 (.cond (.t 29)
 (.seq
 (.ops [ iP 6 .id [.c (.bool false)]])
 .ret)
 .skip)))
 (.ops [ iP 17 .id [.t 7], iP 18 (.bin .add) [.t 17, kI 1], iP 7 .id [.t 18]])))
def gSame_H0 (t0 t1 t2 t7 : AV) : List AV := [t0, t1, t2, .dead, .dead, .dead, .dead, t7, .dead, .dead, .dead, .dead, .dead, .dead, .dead, .dead, .dead, .dead, .dead, .dead, .dead, .dead, .dead, .dead, .dead, .dead, .dead, .dead, .dead, .dead]
def gSame_B (esz : Nat) (agg : Bool) : ICode :=
 (.seq
 (.ops [ iP 6 .id [.c (.bool false)]])
 (.seq
 (.seq
 (.ops [ iP 8 .id [.t 0], iP 9 .lenSlice [.t 8], iP 10 .id [.t 1], iP 11 .lenSlice [.t 10], iP 12 (.bin .neq) [.t 9, .t 11]])
 (.cond (.t 12)
 (.seq
 (.ops [ iP 6 .id [.c (.bool false)]])
 .ret)
 .skip))
 (.seq
 (.seq
 (.ops [ iP 7 .id [kI 0]])
 (.block 0
 (.loop [3, 4, 5, 6, 8, 9, 10, 11, 12, 13, 14, 15, 16, 17, 18, 19, 20, 21, 22, 23, 24, 25, 26, 27, 28, 29] [] (gSame_L0 esz agg))))
 (.seq
 (.ops [ iP 6 .id [.c (.bool true)]])
 .ret))))
def gSame (esz : Nat) (agg : Bool) : IFn := ⟨30, 0, [.tmp 6], (gSame_B esz agg)⟩
def gPlain_B (same one : String) : ICode :=
 (.seq
 (.ops [ iP 4 .id [.c (.bool false)]])
 (.seq
 (.ops [ iP 5 .id [.t 0], iP 6 .id [.t 1], iP 7 (.call same []) [.t 5, .t 6, .f one], iP 4 .id [.t 7]])
 .ret))
def gPlain (same one : String) : IFn := ⟨8, 0, [.tmp 4], (gPlain_B same one)⟩
end Go.AM
namespace Go.AM
variable {prog : String → Option IFn}
def el (agg : Bool) (cs : List AV) : AV := if agg then .agg cs else cs.headD .dead
structure Enc (α : Type) where
  E : α → List AV
  esz : Nat
  agg : Bool
  len : ∀ x, (E x).length = esz
  pos : 0 < esz
  one : agg = true ∨ esz = 1
  lf : ∀ x, AV.lf.lfs (E x) = true
  cells : agg = false → ∀ x, ∃ c, E x = [c] ∧ c.cellsOf = some [c]
def Enc.row {α} (T : Enc α) (xs : List α) : List AV := xs.flatMap T.E
def Enc.av {α} (T : Enc α) (x : α) : AV := el T.agg (T.E x)
def TView {α} (T : Enc α) (h : Hp) (a : AV) (xs : List α) : Prop := View h a T.esz xs.length (T.row xs)
variable {α : Type} {T : Enc α}
theorem Enc.whole (T : Enc α) (x : α) : whole T.agg (T.E x) = some (T.av x) := by
  unfold AM.whole Enc.av el
  cases h : T.agg with
  | true => rfl
  | false => obtain ⟨c, hc, _⟩ := T.cells h x; rw [hc]; rfl
theorem Enc.cellsOf (T : Enc α) (x : α) : (T.av x).cellsOf = some (T.E x) := by
  unfold Enc.av el
  cases h : T.agg with
  | true => rfl
  | false => obtain ⟨c, hc, h2⟩ := T.cells h x; rw [hc]; exact h2
theorem Enc.row_len (T : Enc α) (xs : List α) : (T.row xs).length = xs.length * T.esz := by
  unfold Enc.row
  rw [List.flatMap_def, flatten_len' (c := T.esz)]
  · simp
  · intro x hx; obtain ⟨y, _, rfl⟩ := List.mem_map.1 hx; exact T.len y
theorem Enc.row_chunk (T : Enc α) {xs : List α} {i : Nat} {x : α} (h : xs[i]? = some x) : ((T.row xs).drop (i * T.esz)).take T.esz = T.E x := by
  unfold Enc.row
  rw [List.flatMap_def]
  refine flatten_chunk' (c := T.esz) (fun y hy => ?_) ?_
  · obtain ⟨z, _, rfl⟩ := List.mem_map.1 hy; exact T.len z
  · rw [List.getElem?_map, h]; rfl
theorem Enc.row_lf (T : Enc α) (xs : List α) : AV.lf.lfs (T.row xs) = true := by
  rw [lfs_iff]
  intro a ha
  obtain ⟨x, _, hx⟩ := List.mem_flatMap.1 ha
  exact lfs_iff.1 (T.lf x) a hx
theorem Enc.row_append (T : Enc α) (xs ys : List α) : T.row (xs ++ ys) = T.row xs ++ T.row ys := by simp [Enc.row]
theorem Enc.av_lf (T : Enc α) (x : α) : (T.av x).lf = true := by
  unfold Enc.av el
  cases h : T.agg with
  | true => exact T.lf x
  | false => obtain ⟨c, hc, _⟩ := T.cells h x; have := T.lf x; rw [hc] at this ⊢; simpa [AV.lf.lfs] using this
theorem TView.lenSlice {h a} {xs : List α} (v : TView T h a xs) : prim h .lenSlice [a] = some (.v (.int .i64 xs.length), h) := View.lenSlice v
theorem TView.index {h a} {xs : List α} (v : TView T h a xs) {k : IntKind} {i : Nat} (hi : i < xs.length) : prim h (.indexAddr T.esz) [a, .v (.int k i)] = some (elemPtr a T.esz i, h) := View.index v hi
theorem TView.load {h a} {xs : List α} (v : TView T h a xs) {i : Nat} {x : α} (hx : xs[i]? = some x) : prim h (.load T.esz T.agg) [elemPtr a T.esz i] = some (T.av x, h) := by
  have hi := lt_of_get hx
  rw [View.load v hi, T.row_chunk hx, T.whole]; rfl
theorem TView.into {h : Hp} {a} {xs : List α} (v : TView T h a xs) : ∀ L, TView T ⟨h.into, L⟩ (a.ren (up h.G.length)) xs := View.into v (T.row_lf xs)
def same2 {β : Type} (cmp : α → β → Bool) : List α → List β → Bool
  | [], [] => true
  | x :: xs, y :: ys => cmp x y && same2 cmp xs ys
  | _, _ => false
theorem same2_eq [DecidableEq α] : ∀ (xs ys : List α), same2 (fun x y => decide (x = y)) xs ys = decide (xs = ys)
  | [], [] => rfl
  | [], _ :: _ => rfl
  | _ :: _, [] => rfl
  | x :: xs, y :: ys => by rw [same2, same2_eq xs ys, Bool.eq_iff_iff]; simp
theorem same2_len {β : Type} {cmp : α → β → Bool} : ∀ {xs : List α} {ys : List β}, xs.length ≠ ys.length → same2 cmp xs ys = false
  | [], [], h => absurd rfl h
  | [], _ :: _, _ => rfl
  | _ :: _, [], _ => rfl
  | x :: xs, y :: ys, h => by rw [same2, same2_len (by simpa using h), Bool.and_false]
theorem same2_at {β : Type} {cmp : α → β → Bool} : ∀ {xs : List α} {ys : List β} {i : Nat} {x y}, xs[i]? = some x → ys[i]? = some y → cmp x y = false → same2 cmp xs ys = false
  | [], _, i, x, y, h, _, _ => by simp at h
  | _ :: _, [], i, x, y, _, h, _ => by simp at h
  | a :: xs, b :: ys, 0, x, y, h1, h2, h => by simp at h1 h2; subst h1; subst h2; rw [same2, h]; rfl
  | a :: xs, b :: ys, i + 1, x, y, h1, h2, h => by rw [same2, same2_at (by simpa using h1) (by simpa using h2) h, Bool.and_false]
theorem same2_all {β : Type} {cmp : α → β → Bool} : ∀ {xs : List α} {ys : List β}, xs.length = ys.length → (∀ (i : Nat) x y, xs[i]? = some x → ys[i]? = some y → cmp x y = true) → same2 cmp xs ys = true
  | [], [], _, _ => rfl
  | [], _ :: _, h, _ => by simp at h
  | _ :: _, [], h, _ => by simp at h
  | x :: xs, y :: ys, h, ha => by rw [same2, ha 0 x y rfl rfl, same2_all (by simpa using h) fun i a b h1 h2 => ha (i + 1) a b (by simpa using h1) (by simpa using h2)]; rfl
theorem WDP_callV {xs ld dst l} {k : List Kf} {s : St} {Q : Out → St → Prop} {a : AV} (hr : Ev prog (.op (.callV []) xs s.h) (.val a s.h)) (h : WD prog l k (s.put dst a) Q) : WDP prog (.callV []) xs [] [] ld dst l k s Q :=
  ⟨a, s.h, fun X _ => hr, by simp [okAt, Prim.sites], .inr ⟨by simp [Prim.sites, Quiet, Hp.over, AM.over], by simp [Prim.sites, okAt]⟩, by simp, h⟩
theorem same_spec {nm} {β : Type} {U : Enc β} (he : U.esz = T.esz) (hagg : U.agg = T.agg) (hf : prog nm = some (gSame T.esz T.agg)) {G a b fv} {xs : List α} {ys : List β} (v : ∀ L, TView T ⟨G, L⟩ a xs) (w : ∀ L, TView U ⟨G, L⟩ b ys) (cmp : α → β → Bool)
    (hc : ∀ (i : Nat) x y, xs[i]? = some x → ys[i]? = some y → Ev prog (.op (.callV []) [fv, T.av x, U.av y] ⟨G, []⟩) (.val (.v (.bool (cmp x y))) ⟨G, []⟩)) (hl : xs.length < 2 ^ 62) (hl2 : ys.length < 2 ^ 62) :
    Ev prog (.call nm [a, b, fv] G) (.ret (.v (.bool (same2 cmp xs ys))) G) := by
  refine call_of_fin hf ?_
  simp only [gSame_B, enter, List.length_cons, List.length_nil, List.replicate, Nat.reduceAdd, Nat.reduceSub, List.cons_append, List.nil_append]
  simp (disch := first | (simp only [DS, reduceCtorEq]; done) | omega) only [WS, St.guard, St.put, evalO, reduceCtorEq, reduceIte, Nat.reduceAdd, Nat.reduceEqDiff, (v _).lenSlice, (w _).lenSlice]
  by_cases hlen : xs.length = ys.length
  · have e : ((xs.length : Int) != (ys.length : Int)) = false := by rw [bne_eq_false_iff_eq]; omega
    simp (disch := first | (simp only [DS, reduceCtorEq]; done) | omega) only [WS, St.guard, St.put, evalO, reduceCtorEq, reduceIte, Nat.reduceAdd, Nat.reduceEqDiff, e]
    refine WC_countP (fun i => ∀ (j : Nat) x y, j < i → xs[j]? = some x → ys[j]? = some y → cmp x y = true) (fun i => ⟨gSame_H0 a b fv (.v (.int .i64 (i : Nat))), ⟨G, []⟩⟩) xs.length ?_ (fun j x y h => by omega) (fun i hi hp => ?_) (fun hp => ?_)
    · simp only [clear_nil, List.foldl_cons, List.foldl_nil, Option.some.injEq, LS, reduceCtorEq, reduceIte, Nat.reduceAdd]; rfl
    · have hlt' : (i : Int) < (xs.length : Int) := by omega
      have hx : xs[i]? = some xs[i] := List.getElem?_eq_getElem hi
      have hy : ys[i]? = some ys[i] := List.getElem?_eq_getElem (by omega)
      have wi := (w []).index (k := .i64) (show i < ys.length by omega)
      have wl := (w []).load hy
      rw [he] at wi
      rw [he, hagg] at wl
      simp (disch := first | (simp only [DS, reduceCtorEq]; done) | omega) only [gSame_L0, gSame_H0, WS, St.guard, St.put, evalO, reduceCtorEq, reduceIte, Nat.reduceAdd, Nat.reduceEqDiff, hlt', decide_true, (v _).lenSlice, (v _).index hi, (v _).load hx, wi, wl]
      refine WDP_callV (hc i _ _ hx hy) ?_
      cases hcmp : cmp xs[i] ys[i]
      · simp (disch := first | (simp only [DS, reduceCtorEq]; done) | omega) only [WS, St.guard, St.put, evalO, reduceCtorEq, reduceIte, Nat.reduceAdd, Nat.reduceEqDiff, fin_tmp, leave_v, same2_at hx hy hcmp]
        simp
      · simp (disch := first | (simp only [DS, reduceCtorEq]; done) | omega) only [WS, St.guard, St.put, evalO, reduceCtorEq, reduceIte, Nat.reduceAdd, Nat.reduceEqDiff, vBin_add_i64, clear_nil, List.foldl_cons, List.foldl_nil, Option.some.injEq]
        refine ⟨rfl, fun j x y hj h1 h2 => ?_⟩
        by_cases hji : j < i
        · exact hp j x y hji h1 h2
        · obtain rfl : j = i := by omega
          rw [hx] at h1; rw [hy] at h2; cases h1; cases h2; exact hcmp
    · simp (disch := first | (simp only [DS, reduceCtorEq]; done) | omega) only [gSame_L0, gSame_H0, WS, St.guard, St.put, evalO, reduceCtorEq, reduceIte, Nat.reduceAdd, Nat.reduceEqDiff, (v _).lenSlice, decide_false, fin_tmp, leave_v]
      rw [same2_all hlen fun i x y h1 h2 => hp i x y (lt_of_get h1) h1 h2]
      simp
  · have e : ((xs.length : Int) != (ys.length : Int)) = true := by rw [bne_iff_ne]; omega
    simp (disch := first | (simp only [DS, reduceCtorEq]; done) | omega) only [WS, St.guard, St.put, evalO, reduceCtorEq, reduceIte, Nat.reduceAdd, Nat.reduceEqDiff, e, fin_tmp, leave_v, same2_len hlen]
    simp
end Go.AM
namespace Go.AM
variable {prog : String → Option IFn}
variable {α : Type} {T : Enc α}
def PlainOK [DecidableEq α] (prog : String → Option IFn) (plain : String) (T : Enc α) : Prop := ∀ {G a b} {xs ys : List α}, (∀ L, TView T ⟨G, L⟩ a xs) → (∀ L, TView T ⟨G, L⟩ b ys) → xs.length < 2 ^ 62 → ys.length < 2 ^ 62 →
    Ev prog (.call plain [a, b] G) (.ret (.v (.bool (decide (xs = ys)))) G)
theorem plain_ok [DecidableEq α] {plain same one : String} (hp : prog plain = some (gPlain same one)) (hs : prog same = some (gSame T.esz T.agg))
    (h1 : ∀ {G} (x y : α), Ev prog (.call one [T.av x, T.av y] G) (.ret (.v (.bool (decide (x = y)))) G)) : PlainOK prog plain T := by
  intro G a b xs ys v w hx hy
  refine call_of_fin hp ?_
  simp only [gPlain_B, enter, List.length_cons, List.length_nil, List.replicate, Nat.reduceAdd, Nat.reduceSub, List.cons_append, List.nil_append]
  simp (disch := first | (simp only [DS, reduceCtorEq]; done) | omega) only [WS, St.guard, St.put, evalO, reduceCtorEq, reduceIte, Nat.reduceAdd, Nat.reduceEqDiff]
  have ha := (v []).out
  have := same_spec (prog := prog) (T := T) (U := T) rfl rfl hs (G := (⟨G, []⟩ : Hp).into) (a := a.ren (up G.length)) (b := b.ren (up G.length)) (fv := .fn one [] []) (xs := xs) (ys := ys) ((v []).into) ((w []).into) (fun x y => decide (x = y)) (fun i x y _ _ => by
    have e : (⟨(⟨G, []⟩ : Hp).into, []⟩ : Hp).G = G := by simp [Hp.into]
    refine .opCallV (r := .v (.bool (decide (x = y)))) (G2 := (⟨(⟨G, []⟩ : Hp).into, []⟩ : Hp).into) rfl ?_ (back_pure rfl)
    have hr : ∀ z : α, (T.av z).ren (up ((⟨G, []⟩ : Hp).into).length) = T.av z := fun z => ren_id fun ℓ hl => by rw [lf_of_labs_nil (T.av_lf z)] at hl; cases hl
    simp only [List.nil_append, List.append_nil, List.map_cons, List.map_nil, hr]
    exact h1 x y) hx hy
  rw [same2_eq] at this
  rw [WP_p (x := .bool (decide (xs = ys))) this (by exact trivial)]
  simp (disch := first | (simp only [DS, reduceCtorEq]; done) | omega) only [WS, St.guard, St.put, evalO, reduceCtorEq, reduceIte, Nat.reduceAdd, Nat.reduceEqDiff, fin_tmp, leave_v]
  simp
end Go.AM
