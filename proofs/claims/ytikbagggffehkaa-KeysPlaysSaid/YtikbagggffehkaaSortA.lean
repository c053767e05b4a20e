import Derived.Test.YtikbagggffehkaaAMA
import Derived.Test.YtikbagggffehkaaScopeA
import Derived.Test.YtikbagggffehkaaScopeB
import Derived.Test.YtikbagggffehkaaAME
set_option linter.unusedVariables false
set_option linter.unusedSimpArgs false
namespace Go.AM
def f_cmp_Compare_string__B : ICode :=
 (.seq
 (.ops [ iP 4 .id [kI 0]])
 (.seq
 (.ops [ iP 7 .id [.t 0], iP 8 (.call "cmp.isNaN[string]" []) [.t 7], iP 5 .id [.t 8]])
 (.seq
 (.ops [ iP 9 .id [.t 1], iP 10 (.call "cmp.isNaN[string]" []) [.t 9], iP 6 .id [.t 10]])
 (.seq
 (.seq
 (.ops [ iP 11 .id [.t 5]])
 (.cond (.t 11)
 (.seq
 (.seq
 (.ops [ iP 12 .id [.t 6]])
 (.cond (.t 12)
 (.seq
 (.ops [ iP 4 .id [kI 0]])
 .ret)
 .skip))
 (.seq
 (.ops [ iP 4 .id [kI (-1)]])
 .ret))
 .skip))
 (.seq
 (.seq
 (.ops [ iP 13 .id [.t 6]])
 (.cond (.t 13)
 (.seq
 (.ops [ iP 4 .id [kI 1]])
 .ret)
 .skip))
 (.seq
 (.seq
 (.ops [ iP 14 .id [.t 0], iP 15 .id [.t 1], iP 16 (.bin .lss) [.t 14, .t 15]])
 (.cond (.t 16)
 (.seq
 (.ops [ iP 4 .id [kI (-1)]])
 .ret)
 .skip))
 (.seq
 (.seq
 (.ops [ iP 17 .id [.t 0], iP 18 .id [.t 1], iP 19 (.bin .gtr) [.t 17, .t 18]])
 (.cond (.t 19)
 (.seq
 (.ops [ iP 4 .id [kI 1]])
 .ret)
 .skip))
 (.seq
 (.ops [ iP 4 .id [kI 0]])
 .ret))))))))
def f_cmp_Compare_string_ : IFn := ⟨20, 0, [.tmp 4], f_cmp_Compare_string__B⟩
def f_cmp_isNaN_string__B : ICode :=
 (.seq
 (.ops [ iP 2 .id [.c (.bool false)]])
 (.seq
 (.ops [ iP 3 .id [.t 0], iP 4 .id [.t 0], iP 5 (.bin .neq) [.t 3, .t 4], iP 2 .id [.t 5]])
 .ret))
def f_cmp_isNaN_string_ : IFn := ⟨6, 0, [.tmp 2], f_cmp_isNaN_string__B⟩
end Go.AM
namespace Go.AM
def gSorted_L0 (esz : Nat) : ICode :=
 (.seq
 (.seq
 (.ops [ iP 9 .id [.t 5], iP 10 (.bin .gtr) [.t 9, kI 0]])
 (.cond (.t 10)
 .skip
 (.exit 0)))
 (.seq
 (.block 1
 (.seq
 (.draw [ iP 13 .id [.t 1], iP 14 .id [.t 0], iP 15 .id [.t 5], iP 16 (.indexAddr esz) [.t 14, .t 15], iP 17 (.load esz true) [.t 16], iP 18 .id [.t 0], iP 19 .id [.t 5], iP 20 (.bin .sub) [.t 19, kI 1], iP 21 (.indexAddr esz) [.t 18, .t 20], iP 22 (.load esz true) [.t 21], iP 23 (.callV []) [.t 13, .t 17, .t 22], iP 24 (.bin .lss) [.t 23, kI 0]])
 (.cond (.t 24)
 (.seq
 (.ops [ iP 4 .id [.c (.bool false)]])
 .ret)
 .skip)))
 (.ops [ iP 11 .id [.t 5], iP 12 (.bin .sub) [.t 11, kI 1], iP 5 .id [.t 12]])))
def gSorted_H0 (t0 t1 t5 : AV) : List AV := [t0, t1, .dead, .dead, .dead, t5, .dead, .dead, .dead, .dead, .dead, .dead, .dead, .dead, .dead, .dead, .dead, .dead, .dead, .dead, .dead, .dead, .dead, .dead, .dead]
def gSorted_B (esz : Nat) : ICode :=
 (.seq
 (.ops [ iP 4 .id [.c (.bool false)]])
 (.seq
 (.seq
 (.ops [ iP 6 .id [.t 0], iP 7 .lenSlice [.t 6], iP 8 (.bin .sub) [.t 7, kI 1], iP 5 .id [.t 8]])
 (.block 0
 (.loop [2, 3, 4, 6, 7, 8, 9, 10, 11, 12, 13, 14, 15, 16, 17, 18, 19, 20, 21, 22, 23, 24] [] (gSorted_L0 esz))))
 (.seq
 (.ops [ iP 4 .id [.c (.bool true)]])
 .ret)))
def gSorted (esz : Nat) : IFn := ⟨25, 0, [.tmp 4], (gSorted_B esz)⟩
def gSearch_L0 (esz : Nat) : ICode :=
 (.seq
 (.seq
 (.ops [ iP 15 .id [.t 9], iP 16 .id [.t 10], iP 17 (.bin .lss) [.t 15, .t 16]])
 (.cond (.t 17)
 .skip
 (.exit 0)))
 (.block 1
 (.seq
 (.ops [ iP 18 .id [.t 9], iP 19 .id [.t 10], iP 20 (.bin .add) [.t 18, .t 19], iP 21 (.convInt .u64) [.t 20], iP 22 (.bin .shr) [.t 21, .c (.int .u64 1)], iP 23 (.convInt .i64) [.t 22], iP 11 .id [.t 23]])
 (.seq
 (.draw [ iP 24 .id [.t 2], iP 25 .id [.t 0], iP 26 .id [.t 11], iP 27 (.indexAddr esz) [.t 25, .t 26], iP 28 (.load esz true) [.t 27], iP 29 (.load esz true) [.t 4], iP 30 (.callV []) [.t 24, .t 28, .t 29], iP 31 (.bin .lss) [.t 30, kI 0]])
 (.cond (.t 31)
 (.ops [ iP 32 .id [.t 11], iP 33 (.bin .add) [.t 32, kI 1], iP 9 .id [.t 33]])
 (.ops [ iP 34 .id [.t 11], iP 10 .id [.t 34]]))))))
def gSearch_H0 (t0 t2 t4 t8 t9 t10 : AV) : List AV := [t0, .dead, t2, .dead, t4, .dead, .dead, .dead, t8, t9, t10, .dead, .dead, .dead, .dead, .dead, .dead, .dead, .dead, .dead, .dead, .dead, .dead, .dead, .dead, .dead, .dead, .dead, .dead, .dead, .dead, .dead, .dead, .dead, .dead, .dead, .dead, .dead, .dead, .dead, .dead, .dead, .dead, .dead, .dead, .dead, .dead, .dead, .dead]
def gSearch_B (esz : Nat) : ICode :=
 (.seq
 (.ops [ iP 4 (.box 0) [.t 1], iP 6 .id [kI 0], iP 7 .id [.c (.bool false)]])
 (.seq
 (.ops [ iP 12 .id [.t 0], iP 13 .lenSlice [.t 12], iP 8 .id [.t 13]])
 (.seq
 (.ops [ iP 14 .id [.t 8], iP 9 .id [kI 0], iP 10 .id [.t 14]])
 (.seq
 (.block 0
 (.loop [1, 3, 5, 6, 7, 11, 12, 13, 14, 15, 16, 17, 18, 19, 20, 21, 22, 23, 24, 25, 26, 27, 28, 29, 30, 31, 32, 33, 34, 35, 36, 37, 38, 39, 40, 41, 42, 43, 44, 45, 46, 47, 48] [] (gSearch_L0 esz)))
 (.seq
 (.draw [ iP 35 .id [.t 9], iP 36 .id [.t 9], iP 37 .id [.t 8], iP 38 (.bin .lss) [.t 36, .t 37], iP 39 .id [.t 38], iG 39 true 40 .id [.t 2], iG 39 true 41 .id [.t 0], iG 39 true 42 .id [.t 9], iG 39 true 43 (.indexAddr esz) [.t 41, .t 42], iG 39 true 44 (.load esz true) [.t 43], iG 39 true 45 (.load esz true) [.t 4], iG 39 true 46 (.callV []) [.t 40, .t 44, .t 45], iG 39 true 47 (.bin .eql) [.t 46, kI 0], iP 48 .pick [.t 39, .t 47, .c (.bool false)], iP 6 .id [.t 35], iP 7 .id [.t 48]])
 .ret)))))
def gSearch (esz : Nat) : IFn := ⟨49, 1, [.tmp 6, .tmp 7], (gSearch_B esz)⟩
def gIndexF_L0 (esz : Nat) : ICode :=
 (.seq
 (.ops [ iP 9 (.bin .lss) [.t 8, .t 7]])
 (.seq
 (.cond (.t 9)
 .skip
 (.exit 0))
 (.seq
 (.block 1
 (.seq
 (.ops [ iP 10 .id [.t 8], iP 5 .id [.t 10]])
 (.seq
 (.ops [ iP 11 .id [.t 1], iP 12 .id [.t 0], iP 13 .id [.t 5], iP 14 (.indexAddr esz) [.t 12, .t 13], iP 15 (.load esz true) [.t 14], iP 16 (.callV []) [.t 11, .t 15]])
 (.cond (.t 16)
 (.seq
 (.ops [ iP 17 .id [.t 5], iP 4 .id [.t 17]])
 .ret)
 .skip))))
 (.ops [ iP 18 (.bin .add) [.t 8, kI 1], iP 8 .id [.t 18]]))))
def gIndexF_H0 (t0 t1 t7 t8 : AV) : List AV := [t0, t1, .dead, .dead, .dead, .dead, .dead, t7, t8, .dead, .dead, .dead, .dead, .dead, .dead, .dead, .dead, .dead, .dead]
def gIndexF_B (esz : Nat) : ICode :=
 (.seq
 (.ops [ iP 4 .id [kI 0]])
 (.seq
 (.seq
 (.ops [ iP 6 .id [.t 0], iP 7 .lenSlice [.t 6], iP 8 .id [kI 0]])
 (.block 0
 (.loop [2, 3, 4, 5, 6, 9, 10, 11, 12, 13, 14, 15, 16, 17, 18] [] (gIndexF_L0 esz))))
 (.seq
 (.ops [ iP 4 .id [kI (-1)]])
 .ret)))
def gIndexF (esz : Nat) : IFn := ⟨19, 0, [.tmp 4], (gIndexF_B esz)⟩
end Go.AM
namespace Go.AM
variable {prog : String → Option IFn}
abbrev lessT (a b : Txt) : Bool := Op.bytesLess a b
theorem less_irrefl : ∀ a : Txt, lessT a a = false
  | [] => rfl
  | a :: x => by
    have h : ¬ a < a := fun h => by have := UInt8.lt_iff_toNat_lt.1 h; omega
    simp [Op.bytesLess, h, less_irrefl x]
theorem less_trans : ∀ {a b c : Txt}, lessT a b = true → lessT b c = true → lessT a c = true
  | [], _ :: _, [], _, h => by simp [Op.bytesLess] at h
  | [], _ :: _, _ :: _, _, _ => rfl
  | _ :: _, [], _, h, _ => by simp [Op.bytesLess] at h
  | [], [], _, h, _ => by simp [Op.bytesLess] at h
  | _ :: _, _ :: _, [], _, h => by simp [Op.bytesLess] at h
  | a :: x, b :: y, c :: z, h1, h2 => by
    simp only [Op.bytesLess, Bool.or_eq_true, Bool.and_eq_true, decide_eq_true_eq, beq_iff_eq] at *
    rcases h1 with h1 | ⟨rfl, h1⟩
    · rcases h2 with h2 | ⟨rfl, h2⟩
      · left; have := UInt8.lt_iff_toNat_lt.1 h1; have := UInt8.lt_iff_toNat_lt.1 h2; exact UInt8.lt_iff_toNat_lt.2 (by omega)
      · exact .inl h1
    · rcases h2 with h2 | ⟨rfl, h2⟩
      · exact .inl h2
      · exact .inr ⟨rfl, less_trans h1 h2⟩
theorem less_asymm {a b : Txt} (h : lessT a b = true) : lessT b a = false := by
  cases h2 : lessT b a with
  | false => rfl
  | true => have := less_trans h h2; rw [less_irrefl] at this; cases this
theorem less_tri {a b : Txt} (h1 : lessT a b = false) (h2 : lessT b a = false) : a = b := by
  have := less_total b a
  simp only [lessT] at h1 h2
  rw [h2, h1] at this
  simpa using this.symm
theorem le_trans' {a b c : Txt} (h1 : lessT b a = false) (h2 : lessT c b = false) : lessT c a = false := by
  cases h : lessT c a with
  | false => rfl
  | true =>
    cases h3 : lessT a b with
    | true => have := less_trans h h3; rw [h2] at this; cases this
    | false => have e := less_tri h3 h1; subst e; rw [h2] at h; cases h
def cmpT (a b : Txt) : Int := if lessT a b then -1 else if lessT b a then 1 else 0
theorem cmpT_lt {a b : Txt} : decide (cmpT a b < 0) = lessT a b := by
  unfold cmpT
  cases h1 : lessT a b
  · cases h2 : lessT b a <;> simp
  · simp
theorem cmpT_eq {a b : Txt} : (cmpT a b == 0) = decide (a = b) := by
  unfold cmpT
  cases h1 : lessT a b
  · cases h2 : lessT b a
    · simp [less_tri h1 h2]
    · have : a ≠ b := fun e => by subst e; rw [less_irrefl] at h2; cases h2
      simp [this]
  · have : a ≠ b := fun e => by subst e; rw [less_irrefl] at h1; cases h1
    simp [this]
theorem vBin_gtr_strT {a b : Txt} : vBin .gtr (str a) (str b) = some (.bool (Op.bytesLess b a)) := by
  rw [vBin_gtr_str]
  congr 2
  cases h : Op.bytesLess b a
  · cases h2 : Op.bytesLess a b
    · have : a = b := less_tri h2 h; simp [this]
    · rfl
  · have h2 : Op.bytesLess a b = false := less_asymm h
    have h3 : a ≠ b := fun e => by subst e; rw [h2] at h; cases h
    simp [h2, h3]
theorem Compare_spec (hf : prog "cmp.Compare[string]" = some f_cmp_Compare_string_) (hn : prog "cmp.isNaN[string]" = some f_cmp_isNaN_string_) {G} {a b : Txt} :
    Ev prog (.call "cmp.Compare[string]" [.v (str a), .v (str b)] G) (.ret (.v (.int .i64 (cmpT a b))) G) := by
  have hnan : ∀ {G} (a : Txt), Ev prog (.call "cmp.isNaN[string]" [.v (str a)] G) (.ret (.v (.bool false)) G) := fun {G} a => by
    refine call_of_fin hn ?_
    simp only [f_cmp_isNaN_string__B, enter, List.length_cons, List.length_nil, List.replicate, Nat.reduceAdd, Nat.reduceSub, List.cons_append, List.nil_append]
    simp (disch := first | (simp only [DS, reduceCtorEq]; done) | omega) only [WS, St.guard, St.put, evalO, reduceCtorEq, reduceIte, Nat.reduceAdd, Nat.reduceEqDiff, vBin_neq_str, ne_eq, not_true_eq_false, decide_false, fin_tmp, leave_v]
    simp
  refine call_of_fin hf ?_
  simp only [f_cmp_Compare_string__B, enter, List.length_cons, List.length_nil, List.replicate, Nat.reduceAdd, Nat.reduceSub, List.cons_append, List.nil_append]
  simp (disch := first | (simp only [DS, reduceCtorEq]; done) | omega) only [WS, St.guard, St.put, evalO, reduceCtorEq, reduceIte, Nat.reduceAdd, Nat.reduceEqDiff]
  rw [WP_p (x := .bool false) (by exact hnan a) (by exact trivial)]
  simp (disch := first | (simp only [DS, reduceCtorEq]; done) | omega) only [WS, St.guard, St.put, evalO, reduceCtorEq, reduceIte, Nat.reduceAdd, Nat.reduceEqDiff]
  rw [WP_p (x := .bool false) (by exact hnan b) (by exact trivial)]
  simp (disch := first | (simp only [DS, reduceCtorEq]; done) | omega) only [WS, St.guard, St.put, evalO, reduceCtorEq, reduceIte, Nat.reduceAdd, Nat.reduceEqDiff, vBin_lss_str]
  cases h1 : Op.bytesLess a b
  · simp (disch := first | (simp only [DS, reduceCtorEq]; done) | omega) only [WS, St.guard, St.put, evalO, reduceCtorEq, reduceIte, Nat.reduceAdd, Nat.reduceEqDiff, vBin_gtr_strT, h1]
    cases h2 : Op.bytesLess b a
    · have hc : cmpT a b = 0 := by unfold cmpT; simp only [lessT, h1, h2]; rfl
      simp (disch := first | (simp only [DS, reduceCtorEq]; done) | omega) only [WS, St.guard, St.put, evalO, reduceCtorEq, reduceIte, Nat.reduceAdd, Nat.reduceEqDiff, fin_tmp, leave_v, hc]
      simp
    · have hc : cmpT a b = 1 := by unfold cmpT; simp only [lessT, h1, h2]; rfl
      simp (disch := first | (simp only [DS, reduceCtorEq]; done) | omega) only [WS, St.guard, St.put, evalO, reduceCtorEq, reduceIte, Nat.reduceAdd, Nat.reduceEqDiff, fin_tmp, leave_v, hc]
      simp
  · have hc : cmpT a b = -1 := by unfold cmpT; simp only [lessT, h1]; rfl
    simp (disch := first | (simp only [DS, reduceCtorEq]; done) | omega) only [WS, St.guard, St.put, evalO, reduceCtorEq, reduceIte, Nat.reduceAdd, Nat.reduceEqDiff, fin_tmp, leave_v, hc]
    simp
end Go.AM
namespace Go.AM
variable {prog : String → Option IFn}
def Sorted (ks : List Txt) : Prop := ∀ (i : Nat) a b, ks[i]? = some a → ks[i + 1]? = some b → lessT b a = false
def sortedB : List Txt → Bool
  | a :: b :: r => !(lessT b a) && sortedB (b :: r)
  | _ => true
theorem sortedB_iff : ∀ {ks : List Txt}, sortedB ks = true ↔ Sorted ks
  | [] => by simp [sortedB, Sorted]
  | [_] => by simp [sortedB, Sorted]
  | a :: b :: r => by
    simp only [sortedB, Bool.and_eq_true, Bool.not_eq_true']
    rw [sortedB_iff]
    constructor
    · rintro ⟨h1, h2⟩ i x y hx hy
      cases i with
      | zero => simp at hx hy; subst hx; subst hy; exact h1
      | succ i => exact h2 i x y (by simpa using hx) (by simpa using hy)
    · intro h
      exact ⟨h 0 a b rfl rfl, fun i x y hx hy => h (i + 1) x y (by simpa using hx) (by simpa using hy)⟩
theorem Sorted.le {ks : List Txt} (h : Sorted ks) : ∀ {d i : Nat} {a b}, ks[i]? = some a → ks[i + d]? = some b → lessT b a = false
  | 0, i, a, b, h1, h2 => by rw [Nat.add_zero, h1] at h2; cases h2; exact less_irrefl a
  | d + 1, i, a, b, h1, h2 => by
    have hl := lt_of_get h2
    obtain ⟨c, hc⟩ : ∃ c, ks[i + d]? = some c := ⟨_, List.getElem?_eq_getElem (by omega)⟩
    exact le_trans' (h.le h1 hc) (h (i + d) c b hc h2)
def lowB (ks : List Txt) (s : Txt) : Nat := ks.findIdx fun k => !(lessT k s)
def fstB (ks : List Txt) (s : Txt) : Nat := ks.findIdx fun k => decide (k = s)
def findV (ks : List Txt) (s : Txt) : Int := if fstB ks s < ks.length then (fstB ks s : Int) else -1
theorem findIdx_is {α : Type} {p : α → Bool} {xs : List α} {i : Nat} (hi : i ≤ xs.length) (h1 : ∀ (j : Nat) x, j < i → xs[j]? = some x → p x = false) (h2 : ∀ x, xs[i]? = some x → p x = true) : xs.findIdx p = i := by
  by_cases hl : i < xs.length
  · have := h2 _ (List.getElem?_eq_getElem hl)
    rw [List.findIdx_eq hl]
    exact ⟨this, fun j hj => h1 j _ hj (List.getElem?_eq_getElem (by omega))⟩
  · obtain rfl : i = xs.length := by omega
    rw [List.findIdx_eq_length]
    intro x hx
    obtain ⟨j, hj⟩ := List.mem_iff_getElem?.1 hx
    exact h1 j x (lt_of_get hj) hj
theorem findIdx_at {α : Type} {p : α → Bool} {xs : List α} {x : α} (h : xs[xs.findIdx p]? = some x) : p x = true := by
  have hl := lt_of_get h
  have := List.findIdx_getElem (w := hl)
  rw [List.getElem?_eq_getElem hl] at h
  cases h; exact this
theorem findIdx_before {α : Type} {p : α → Bool} {xs : List α} {j : Nat} {x : α} (hj : j < xs.findIdx p) (h : xs[j]? = some x) : p x = false := by
  have hl := lt_of_get h
  have := List.not_of_lt_findIdx hj
  rw [List.getElem?_eq_getElem hl] at h
  cases h
  simpa using this
theorem fst_low {ks : List Txt} {s : Txt} (h : Sorted ks) : findV ks s = if ks[lowB ks s]? = some s then (lowB ks s : Int) else -1 := by
  have hle : fstB ks s ≤ ks.length := List.findIdx_le_length
  unfold findV
  by_cases hf : fstB ks s < ks.length
  · obtain ⟨a, ha⟩ : ∃ a, ks[fstB ks s]? = some a := ⟨_, List.getElem?_eq_getElem hf⟩
    have hs : a = s := by simpa using findIdx_at ha
    subst hs
    have e : lowB ks a = fstB ks a := by
      refine findIdx_is hle (fun j x hj hx => ?_) (fun x hx => ?_)
      · have h1 := findIdx_before hj hx
        have h2 : lessT a x = false := by
          refine h.le (d := fstB ks a - j) hx ?_
          rw [Nat.add_sub_cancel' (by omega)]; exact ha
        simp only [decide_eq_false_iff_not] at h1
        cases h3 : lessT x a with
        | true => rfl
        | false => exact absurd (less_tri h3 h2) h1
      · rw [ha] at hx; cases hx; rw [less_irrefl]; rfl
    rw [if_pos hf, e, if_pos ha]
  · rw [if_neg hf, if_neg]
    intro h2
    have hl := lt_of_get h2
    have : fstB ks s ≤ lowB ks s := by
      by_cases hc : fstB ks s ≤ lowB ks s
      · exact hc
      · have := findIdx_before (p := fun k => decide (k = s)) (show lowB ks s < ks.findIdx _ by unfold fstB at hc; omega) h2
        simp at this
    omega
variable {α : Type} {T : Enc α}
theorem av_ren {x : α} {ρ} : (T.av x).ren ρ = T.av x := ren_id fun ℓ hl => by rw [lf_of_labs_nil (T.av_lf x)] at hl; cases hl
theorem av_lf2 {x y : α} : AV.lf.lfs [T.av x, T.av y] = true := by simp [AV.lf.lfs, T.av_lf]
theorem gIndexF_spec {nm} (ht : T.agg = true) (hf : prog nm = some (gIndexF T.esz)) (p : α → Bool) {G a} {xs : List α} (v : ∀ L, TView T ⟨G, L⟩ a xs) (hl : xs.length ≤ maxLen) (fv : AV)
    (hc : ∀ x, Ev prog (.op (.callV []) [fv, T.av x] ⟨G, []⟩) (.val (.v (.bool (p x))) ⟨G, []⟩)) :
    Ev prog (.call nm [a, fv] G) (.ret (.v (.int .i64 (if xs.findIdx p < xs.length then (xs.findIdx p : Int) else -1))) G) := by
  have hml : xs.length ≤ 9223372036854775807 := hl
  refine call_of_fin hf ?_
  simp only [gIndexF_B, enter, List.length_cons, List.length_nil, List.replicate, Nat.reduceAdd, Nat.reduceSub, List.cons_append, List.nil_append]
  simp (disch := first | (simp only [DS, reduceCtorEq]; done) | omega) only [WS, St.guard, St.put, evalO, reduceCtorEq, reduceIte, Nat.reduceAdd, Nat.reduceEqDiff, (v _).lenSlice]
  refine WC_countP (fun i => ∀ (j : Nat) x, j < i → xs[j]? = some x → p x = false) (fun i => ⟨gIndexF_H0 a fv (.v (.int .i64 (xs.length : Nat))) (.v (.int .i64 (i : Nat))), ⟨G, []⟩⟩) xs.length ?_ (fun j y h => by omega) (fun i hi hp => ?_) (fun hp => ?_)
  · simp only [clear_nil, List.foldl_cons, List.foldl_nil, Option.some.injEq, LS, reduceCtorEq, reduceIte, Nat.reduceAdd]; rfl
  · have hlt' : (i : Int) < (xs.length : Int) := by omega
    have hx : xs[i]? = some xs[i] := List.getElem?_eq_getElem hi
    have vl := fun L => (v L).load hx
    rw [ht] at vl
    simp (disch := first | (simp only [DS, reduceCtorEq]; done) | omega) only [gIndexF_L0, gIndexF_H0, WS, St.guard, St.put, evalO, reduceCtorEq, reduceIte, Nat.reduceAdd, Nat.reduceEqDiff, hlt', decide_true, (v _).index hi, vl]
    refine WP_of (hc _) ?_
    cases hpx : p xs[i]
    · simp (disch := first | (simp only [DS, reduceCtorEq]; done) | omega) only [WS, St.guard, St.put, evalO, reduceCtorEq, reduceIte, Nat.reduceAdd, Nat.reduceEqDiff, vBin_add_i64, clear_nil, List.foldl_cons, List.foldl_nil, Option.some.injEq]
      refine ⟨rfl, fun j y hj h1 => ?_⟩
      by_cases hji : j < i
      · exact hp j y hji h1
      · obtain rfl : j = i := by omega
        rw [hx] at h1; cases h1; exact hpx
    · have e : xs.findIdx p = i := findIdx_is (by omega) hp fun x h => by rw [hx] at h; cases h; exact hpx
      rw [e, if_pos hi]
      simp (disch := first | (simp only [DS, reduceCtorEq]; done) | omega) only [WS, St.guard, St.put, evalO, reduceCtorEq, reduceIte, Nat.reduceAdd, Nat.reduceEqDiff, fin_tmp, leave_v]
      simp
  · have e : xs.findIdx p = xs.length := findIdx_is (Nat.le_refl _) hp fun x h => by simp at h
    rw [e, if_neg (by omega)]
    simp (disch := first | (simp only [DS, reduceCtorEq]; done) | omega) only [gIndexF_L0, gIndexF_H0, WS, St.guard, St.put, evalO, reduceCtorEq, reduceIte, Nat.reduceAdd, Nat.reduceEqDiff, decide_false, fin_tmp, leave_v]
    simp
theorem gSorted_spec {nm g} (ht : T.agg = true) (hf : prog nm = some (gSorted T.esz)) (key : α → Txt) {G a} {xs : List α} (v : ∀ L, TView T ⟨G, L⟩ a xs) (hl : xs.length ≤ maxLen)
    (hc : ∀ {G} x y, Ev prog (.call g [T.av x, T.av y] G) (.ret (.v (.int .i64 (cmpT (key x) (key y)))) G)) :
    Ev prog (.call nm [a, .fn g [] []] G) (.ret (.v (.bool (sortedB (xs.map key)))) G) := by
  have hml : xs.length ≤ 9223372036854775807 := hl
  refine call_of_fin hf ?_
  simp only [gSorted_B, enter, List.length_cons, List.length_nil, List.replicate, Nat.reduceAdd, Nat.reduceSub, List.cons_append, List.nil_append]
  simp (disch := first | (simp only [DS, reduceCtorEq]; done) | omega) only [WS, St.guard, St.put, evalO, reduceCtorEq, reduceIte, Nat.reduceAdd, Nat.reduceEqDiff, (v _).lenSlice, vBin_sub_i64]
  refine WC_countP (fun m => ∀ (i : Nat) x y, xs.length - 1 - m < i + 1 → xs[i]? = some x → xs[i + 1]? = some y → lessT (key y) (key x) = false)
    (fun m => ⟨gSorted_H0 a (.fn g [] []) (.v (.int .i64 ((xs.length : Int) - 1 - (m : Nat)))), ⟨G, []⟩⟩) (xs.length - 1) ?_ (fun i x y h h1 h2 => by have := lt_of_get h2; omega) (fun m hm hp => ?_) (fun hp => ?_)
  · simp only [clear_nil, List.foldl_cons, List.foldl_nil, Option.some.injEq, LS, reduceCtorEq, reduceIte, Nat.reduceAdd, Int.ofNat_zero, Int.sub_zero]; rfl
  · obtain ⟨i, hi⟩ : ∃ i : Nat, i + 1 = xs.length - 1 - m := ⟨xs.length - 1 - m - 1, by omega⟩
    have ei : (xs.length : Int) - 1 - (m : Nat) = ((i + 1 : Nat) : Int) := by omega
    have e0 : ((i + 1 : Nat) : Int) - 1 = (i : Int) := by omega
    have hi1 : i + 1 < xs.length := by omega
    have hx : xs[i]? = some xs[i] := List.getElem?_eq_getElem (by omega)
    have hy : xs[i + 1]? = some xs[i + 1] := List.getElem?_eq_getElem hi1
    have vl := fun L => (v L).load hx
    have vl1 := fun L => (v L).load hy
    rw [ht] at vl vl1
    have hgt : ((i + 1 : Nat) : Int) > 0 := by omega
    rw [ei]
    simp (disch := first | (simp only [DS, reduceCtorEq]; done) | omega) only [gSorted_L0, gSorted_H0, WS, St.guard, St.put, evalO, reduceCtorEq, reduceIte, Nat.reduceAdd, Nat.reduceEqDiff, hgt, decide_true, (v _).index hi1, vl1, vBin_sub_i64, e0, (v _).index (show i < xs.length by omega), vl]
    refine WDP_fnd (x := .int .i64 (cmpT (key xs[i + 1]) (key xs[i]))) av_lf2 (hc _ _) trivial ?_
    simp (disch := first | (simp only [DS, reduceCtorEq]; done) | omega) only [WS, St.guard, St.put, evalO, reduceCtorEq, reduceIte, Nat.reduceAdd, Nat.reduceEqDiff, cmpT_lt]
    cases hless : lessT (key xs[i + 1]) (key xs[i])
    · simp (disch := first | (simp only [DS, reduceCtorEq]; done) | omega) only [WS, St.guard, St.put, evalO, reduceCtorEq, reduceIte, Nat.reduceAdd, Nat.reduceEqDiff, vBin_sub_i64, e0, clear_nil, List.foldl_cons, List.foldl_nil, Option.some.injEq]
      refine ⟨?_, fun j x y hj h1 h2 => ?_⟩
      · have : (xs.length : Int) - 1 - ((m + 1 : Nat) : Int) = (i : Int) := by omega
        rw [this]
      · by_cases hji : xs.length - 1 - m < j + 1
        · exact hp j x y hji h1 h2
        · obtain rfl : j = i := by omega
          rw [hx] at h1; rw [hy] at h2; cases h1; cases h2; exact hless
    · have e : sortedB (xs.map key) = false := by
        cases hs : sortedB (xs.map key) with
        | false => rfl
        | true =>
          have := sortedB_iff.1 hs i (key xs[i]) (key xs[i + 1]) (by rw [List.getElem?_map, hx]; rfl) (by rw [List.getElem?_map, hy]; rfl)
          rw [hless] at this; cases this
      simp (disch := first | (simp only [DS, reduceCtorEq]; done) | omega) only [WS, St.guard, St.put, evalO, reduceCtorEq, reduceIte, Nat.reduceAdd, Nat.reduceEqDiff, fin_tmp, leave_v, e]
      simp
  · have e : sortedB (xs.map key) = true := by
      rw [sortedB_iff]
      intro i x y h1 h2
      rw [List.getElem?_map] at h1 h2
      obtain ⟨x', hx, rfl⟩ := Option.map_eq_some_iff.1 h1
      obtain ⟨y', hy, rfl⟩ := Option.map_eq_some_iff.1 h2
      exact hp i x' y' (by omega) hx hy
    have hgt : ¬ ((xs.length : Int) - 1 - ((xs.length - 1 : Nat) : Int) > 0) := by omega
    simp (disch := first | (simp only [DS, reduceCtorEq]; done) | omega) only [gSorted_L0, gSorted_H0, WS, St.guard, St.put, evalO, reduceCtorEq, reduceIte, Nat.reduceAdd, Nat.reduceEqDiff, hgt, decide_false, fin_tmp, leave_v, e]
    simp
end Go.AM
namespace Go.AM
variable {prog : String → Option IFn}
variable {α : Type} {T : Enc α}
theorem box_T {G L} {j : Nat} {x : α} (hL : L[j]? = some none) : prim ⟨G, L⟩ (.box j) [T.av x] = some (.ptr (.l j) T.esz 0, ⟨G, L.set j (some (sBlk (T.E x) true))⟩) := by
  rw [px_box, T.cellsOf, Option.bind_some, newBlk_s, T.lf]
  simp only [Hp.new, hL, Option.map_some, T.len]
theorem load_T {G L} {j : Nat} {x : α} {d : Bool} (hL : L[j]? = some (some (sBlk (T.E x) d))) : prim ⟨G, L⟩ (.load T.esz T.agg) [.ptr (.l j) T.esz 0] = some (T.av x, ⟨G, L⟩) := by
  rw [px_load_l, hL, Option.join_some, loadB_s, if_pos ⟨T.len x, by omega⟩, List.drop_zero, List.take_of_length_le (by rw [T.len]; exact Nat.le_refl _), T.whole]; rfl
theorem half_u64 {n : Nat} (h : n < 2 ^ 63) {k : IntKind} : vBin .shr (.int .u64 (IntKind.u64.wrap (n : Int))) (.int k 1) = some (.int .u64 ((n / 2 : Nat) : Int)) := by
  have e : IntKind.u64.wrap (n : Int) = n := by rw [IntKind.wrap_u64]; omega
  rw [e]
  simp only [vBin]
  rw [if_neg (by omega)]
  congr 2
  rw [show (2 : Int) ^ (min (1 : Int).toNat IntKind.u64.bits) = 2 from rfl, Int.fdiv_eq_ediv_of_nonneg _ (by decide)]
  omega
theorem gSearch_spec {nm g} (ht : T.agg = true) (hf : prog nm = some (gSearch T.esz)) (key : α → Txt) {G a} {xs : List α} {x0 : α} (v : ∀ L, TView T ⟨G, L⟩ a xs) (hl : xs.length < 2 ^ 62) (hs : Sorted (xs.map key))
    (hc : ∀ {G} x y, Ev prog (.call g [T.av x, T.av y] G) (.ret (.v (.int .i64 (cmpT (key x) (key y)))) G)) :
    Ev prog (.call nm [a, T.av x0, .fn g [] []] G)
      (.ret (.tup [.v (.int .i64 (lowB (xs.map key) (key x0) : Nat)), .v (.bool (decide ((xs.map key)[lowB (xs.map key) (key x0)]? = some (key x0))))]) G) := by
  refine call_of_fin hf ?_
  simp only [gSearch_B, enter, List.length_cons, List.length_nil, List.replicate, Nat.reduceAdd, Nat.reduceSub, List.cons_append, List.nil_append]
  simp (disch := first | (simp only [DS, reduceCtorEq]; done) | omega) only [WS, St.guard, St.put, evalO, reduceCtorEq, reduceIte, Nat.reduceAdd, Nat.reduceEqDiff]
  refine (WR_eq (box_T (by rfl))).2 ?_
  simp (disch := first | (simp only [DS, reduceCtorEq]; done) | omega) only [WS, St.guard, St.put, evalO, reduceCtorEq, reduceIte, Nat.reduceAdd, Nat.reduceEqDiff, (v _).lenSlice]
  have gd : Good ⟨G, [some (sBlk (T.E x0) true)]⟩ := ⟨rfl, trivial⟩
  have ld : prim ⟨G, [some (sBlk (T.E x0) true)]⟩ (.load T.esz true) [.ptr (.l 0) T.esz 0] = some (T.av x0, ⟨G, [some (sBlk (T.E x0) true)]⟩) := by
    have := load_T (T := T) (G := G) (L := [some (sBlk (T.E x0) true)]) (j := 0) (x := x0) rfl
    rw [ht] at this; exact this
  have hlk : ∀ (k : Nat) x, xs[k]? = some x → (xs.map key)[k]? = some (key x) := fun k x h => by rw [List.getElem?_map, h]; rfl
  refine WC_loop (Inv := fun m st => ∃ i j, i ≤ j ∧ j ≤ xs.length ∧ m = j - i ∧ (∀ (k : Nat) x, k < i → xs[k]? = some x → lessT (key x) (key x0) = true) ∧ (∀ (k : Nat) x, j ≤ k → xs[k]? = some x → lessT (key x) (key x0) = false) ∧
      st = ⟨gSearch_H0 a (.fn g [] []) (.ptr (.l 0) T.esz 0) (.v (.int .i64 (xs.length : Nat))) (.v (.int .i64 (i : Nat))) (.v (.int .i64 (j : Nat))), ⟨G, [some (sBlk (T.E x0) true)]⟩⟩) xs.length ?_ ?_
  · exact ⟨_, by simp only [clear_nil, List.foldl_cons, List.foldl_nil, Option.some.injEq, LS, reduceCtorEq, reduceIte, Nat.reduceAdd]; rfl, 0, xs.length, Nat.zero_le _, Nat.le_refl _, rfl, fun k x h => by omega, fun k x h h2 => by have := lt_of_get h2; omega, rfl⟩
  · rintro m st ⟨i, j, hij, hj, rfl, hlo, hhi, rfl⟩
    by_cases hlt : i < j
    · have hlt' : (i : Int) < (j : Int) := by omega
      have ea : (i : Int) + (j : Int) = ((i + j : Nat) : Int) := rfl
      obtain ⟨h, hh⟩ : ∃ h, h = (i + j) / 2 := ⟨_, rfl⟩
      have h1 : i ≤ h := by omega
      have h2 : h < j := by omega
      have hx : xs[h]? = some xs[h] := List.getElem?_eq_getElem (by omega)
      have vl := fun L => (v L).load hx
      rw [ht] at vl
      simp (disch := first | (simp only [DS, reduceCtorEq]; done) | omega) only [gSearch_L0, gSearch_H0, WS, St.guard, St.put, evalO, reduceCtorEq, reduceIte, Nat.reduceAdd, Nat.reduceEqDiff, hlt', decide_true, vBin_add_i64, ea, half_u64, wrap_i64_nat]
      rw [← hh]
      simp (disch := first | (simp only [DS, reduceCtorEq]; done) | omega) only [WS, St.guard, St.put, evalO, reduceCtorEq, reduceIte, Nat.reduceAdd, Nat.reduceEqDiff, (v _).index (show h < xs.length by omega), vl, ld]
      refine WDP_fnd (x := .int .i64 (cmpT (key xs[h]) (key x0))) av_lf2 (hc _ _) gd ?_
      simp (disch := first | (simp only [DS, reduceCtorEq]; done) | omega) only [WS, St.guard, St.put, evalO, reduceCtorEq, reduceIte, Nat.reduceAdd, Nat.reduceEqDiff, cmpT_lt]
      cases hless : lessT (key xs[h]) (key x0)
      · simp (disch := first | (simp only [DS, reduceCtorEq]; done) | omega) only [WS, St.guard, St.put, evalO, reduceCtorEq, reduceIte, Nat.reduceAdd, Nat.reduceEqDiff, clear_nil, List.foldl_cons, List.foldl_nil, Option.some.injEq]
        refine ⟨_, _, rfl, ?_, i, h, h1, by omega, rfl, hlo, fun k x hk hx2 => ?_, rfl⟩
        · omega
        · have := hs.le (d := k - h) (hlk h _ hx) (by rw [Nat.add_sub_cancel' hk]; exact hlk k _ hx2)
          cases h3 : lessT (key x) (key x0) with
          | false => rfl
          | true =>
            have h4 : lessT (key xs[h]) (key x0) = true := by
              cases h5 : lessT (key xs[h]) (key x0) with
              | true => rfl
              | false => have := le_trans' h5 this; rw [h3] at this; cases this
            rw [hless] at h4; cases h4
      · simp (disch := first | (simp only [DS, reduceCtorEq]; done) | omega) only [WS, St.guard, St.put, evalO, reduceCtorEq, reduceIte, Nat.reduceAdd, Nat.reduceEqDiff, vBin_add_i64, clear_nil, List.foldl_cons, List.foldl_nil, Option.some.injEq]
        refine ⟨_, _, rfl, ?_, h + 1, j, by omega, hj, rfl, fun k x hk hx2 => ?_, hhi, rfl⟩
        · omega
        · have := hs.le (d := h - k) (hlk k _ hx2) (by rw [Nat.add_sub_cancel' (by omega)]; exact hlk h _ hx)
          cases h3 : lessT (key x) (key x0) with
          | true => rfl
          | false => have := le_trans' h3 this; rw [hless] at this; cases this
    · obtain rfl : i = j := by omega
      have e : lowB (xs.map key) (key x0) = i := by
        refine findIdx_is (by simpa using hj) (fun k y hk hy => ?_) (fun y hy => ?_)
        · rw [List.getElem?_map] at hy
          obtain ⟨x, hx, rfl⟩ := Option.map_eq_some_iff.1 hy
          rw [hlo k x hk hx]; rfl
        · rw [List.getElem?_map] at hy
          obtain ⟨x, hx, rfl⟩ := Option.map_eq_some_iff.1 hy
          rw [hhi i x (Nat.le_refl _) hx]; rfl
      rw [e]
      simp (disch := first | (simp only [DS, reduceCtorEq]; done) | omega) only [gSearch_L0, gSearch_H0, WS, St.guard, St.put, evalO, reduceCtorEq, reduceIte, Nat.reduceAdd, Nat.reduceEqDiff, decide_false]
      by_cases hin : i < xs.length
      · have hlt' : (i : Int) < (xs.length : Int) := by omega
        have hx : xs[i]? = some xs[i] := List.getElem?_eq_getElem hin
        have vl := fun L => (v L).load hx
        rw [ht] at vl
        simp (disch := first | (simp only [DS, reduceCtorEq]; done) | omega) only [WS, St.guard, St.put, evalO, reduceCtorEq, reduceIte, Nat.reduceAdd, Nat.reduceEqDiff, hlt', decide_true, (v _).index hin, vl, ld]
        refine WDP_fnd (x := .int .i64 (cmpT (key xs[i]) (key x0))) av_lf2 (hc _ _) gd ?_
        simp (disch := first | (simp only [DS, reduceCtorEq]; done) | omega) only [WS, St.guard, St.put, evalO, reduceCtorEq, reduceIte, Nat.reduceAdd, Nat.reduceEqDiff, cmpT_eq, fin_tmp2, leave_lf, hlk i _ hx]
        simp [leave_lf, AV.lf, AV.lf.lfs]
      · have e2 : (xs.map key)[i]? = none := by rw [List.getElem?_eq_none (by simp; omega)]
        have hlt' : ¬ ((i : Int) < (xs.length : Int)) := by omega
        simp (disch := first | (simp only [DS, reduceCtorEq]; done) | omega) only [WS, St.guard, St.put, evalO, reduceCtorEq, reduceIte, Nat.reduceAdd, Nat.reduceEqDiff, hlt', decide_false, fin_tmp2, e2]
        simp [leave_lf, AV.lf, AV.lf.lfs]
end Go.AM
