import Derived.Test.YtikbagggffehkaaAMA
import Derived.Test.YtikbagggffehkaaAMD
import Derived.Test.YtikbagggffehkaaHelp
set_option linter.unusedVariables false
set_option linter.unusedSimpArgs false
namespace Go.AM
def f_play_Sku_B : ICode :=
 (.seq
 (.ops [ iP 2 .id [.c (.string ⟨#[]⟩)]])
 (.seq
 (.ops [ iP 3 .id [.t 0], iP 4 (.call "haberdash/haberdashplay.Mod" []) [.t 3, kI 8], iP 5 (.convInt .u8) [.t 4], iP 6 (.bin .add) [.c (.int .u8 97), .t 5], iP 7 (.buildSlice 0 false 1 1 [(.int .u8 0)] [(0, 1)]) [.t 6], iP 8 .bytesStr [.t 7], iP 2 .id [.t 8]])
 .ret))
def f_play_Sku : IFn := ⟨9, 1, [.tmp 2], f_play_Sku_B⟩
def f_play_Mod_B : ICode :=
 (.seq
 (.ops [ iP 4 .id [kI 0]])
 (.seq
 (.ops [ iP 5 .id [.t 0], iP 6 (.convInt .u64) [.t 5], iP 7 .id [.t 1], iP 8 (.convInt .u64) [.t 7], iP 9 (.bin .rem) [.t 6, .t 8], iP 10 (.convInt .i64) [.t 9], iP 4 .id [.t 10]])
 .ret))
def f_play_Mod : IFn := ⟨11, 0, [.tmp 4], f_play_Mod_B⟩
def f_goods_Rise_L0 : ICode :=
 (.seq
 (.ops [ iP 7 (.bin .lss) [.t 6, .t 5]])
 (.seq
 (.cond (.t 7)
 .skip
 (.exit 0))
 (.seq
 (.block 1
 (.seq
 (.ops [ iP 8 .id [.t 6], iP 3 .id [.t 8]])
 (.seq
 (.draw [ iP 9 .id [.t 3], iP 10 (.bin .gtr) [.t 9, kI 0], iP 11 .id [.t 10], iG 11 true 12 .id [.t 0], iG 11 true 13 .id [.t 3], iG 11 true 14 (.bin .sub) [.t 13, kI 1], iG 11 true 15 (.indexAddr 1) [.t 12, .t 14], iG 11 true 16 (.load 1 false) [.t 15], iG 11 true 17 .id [.t 0], iG 11 true 18 .id [.t 3], iG 11 true 19 (.indexAddr 1) [.t 17, .t 18], iG 11 true 20 (.load 1 false) [.t 19], iG 11 true 21 (.bin .geq) [.t 16, .t 20], iP 22 .pick [.t 11, .t 21, .c (.bool false)]])
 (.cond (.t 22)
 (.seq
 (.ops [ iP 2 .id [.c (.bool false)]])
 .ret)
 .skip))))
 (.ops [ iP 23 (.bin .add) [.t 6, kI 1], iP 6 .id [.t 23]]))))
def f_goods_Rise_H0 (t0 t5 t6 : AV) : List AV := [t0, .dead, .dead, .dead, .dead, t5, t6, .dead, .dead, .dead, .dead, .dead, .dead, .dead, .dead, .dead, .dead, .dead, .dead, .dead, .dead, .dead, .dead, .dead]
def f_goods_Rise_B : ICode :=
 (.seq
 (.ops [ iP 2 .id [.c (.bool false)]])
 (.seq
 (.seq
 (.ops [ iP 4 .id [.t 0], iP 5 .lenSlice [.t 4], iP 6 .id [kI 0]])
 (.block 0
 (.loop [1, 2, 3, 4, 7, 8, 9, 10, 11, 12, 13, 14, 15, 16, 17, 18, 19, 20, 21, 22, 23] [] f_goods_Rise_L0)))
 (.seq
 (.ops [ iP 2 .id [.c (.bool true)]])
 .ret)))
def f_goods_Rise : IFn := ⟨24, 0, [.tmp 2], f_goods_Rise_B⟩
def f_ref10_Name_L0 : ICode :=
 (.seq
 (.seq
 (.ops [ iP 5 .id [.t 3], iP 6 .id [.t 0], iP 7 .lenStr [.t 6], iP 8 (.bin .lss) [.t 5, .t 7]])
 (.cond (.t 8)
 .skip
 (.exit 0)))
 (.seq
 (.block 1
 (.seq
 (.ops [ iP 11 .id [.t 0], iP 12 .id [.t 3], iP 13 .indexStr [.t 11, .t 12], iP 4 .id [.t 13]])
 (.seq
 (.ops [ iP 14 .id [.t 4], iP 15 (.bin .geq) [.t 14, .c (.int .u8 97)], iP 16 .id [.t 15], iG 16 true 17 .id [.t 4], iG 16 true 18 (.bin .leq) [.t 17, .c (.int .u8 122)], iP 19 .pick [.t 16, .t 18, .c (.bool false)], iP 20 .id [.t 19], iG 20 false 21 .id [.t 4], iG 20 false 22 (.bin .geq) [.t 21, .c (.int .u8 48)], iG 20 false 23 .id [.t 22], iG 23 true 24 .id [.t 4], iG 23 true 25 (.bin .leq) [.t 24, .c (.int .u8 57)], iG 20 false 26 .pick [.t 23, .t 25, .c (.bool false)], iP 27 .pick [.t 20, .c (.bool true), .t 26], iP 28 .id [.t 27], iG 28 false 29 .id [.t 4], iG 28 false 30 (.bin .eql) [.t 29, .c (.int .u8 45)], iP 31 .pick [.t 28, .c (.bool true), .t 30], iP 32 (.un .not) [.t 31]])
 (.cond (.t 32)
 (.seq
 (.ops [ iP 2 .id [.c (.bool false)]])
 .ret)
 .skip))))
 (.ops [ iP 9 .id [.t 3], iP 10 (.bin .add) [.t 9, kI 1], iP 3 .id [.t 10]])))
def f_ref10_Name_H0 (t0 t3 : AV) : List AV := [t0, .dead, .dead, t3, .dead, .dead, .dead, .dead, .dead, .dead, .dead, .dead, .dead, .dead, .dead, .dead, .dead, .dead, .dead, .dead, .dead, .dead, .dead, .dead, .dead, .dead, .dead, .dead, .dead, .dead, .dead, .dead, .dead, .dead, .dead, .dead, .dead, .dead, .dead, .dead, .dead]
def f_ref10_Name_B : ICode :=
 (.seq
 (.ops [ iP 2 .id [.c (.bool false)]])
 (.seq
 (.seq
 (.ops [ iP 3 .id [kI 0]])
 (.block 0
 (.loop [1, 2, 4, 5, 6, 7, 8, 9, 10, 11, 12, 13, 14, 15, 16, 17, 18, 19, 20, 21, 22, 23, 24, 25, 26, 27, 28, 29, 30, 31, 32, 33, 34, 35, 36, 37, 38, 39, 40] [] f_ref10_Name_L0)))
 (.seq
 (.ops [ iP 33 .id [.t 0], iP 34 .lenStr [.t 33], iP 35 (.bin .geq) [.t 34, kI 1], iP 36 .id [.t 35], iG 36 true 37 .id [.t 0], iG 36 true 38 .lenStr [.t 37], iG 36 true 39 (.bin .leq) [.t 38, kI 12], iP 40 .pick [.t 36, .t 39, .c (.bool false)], iP 2 .id [.t 40]])
 .ret)))
def f_ref10_Name : IFn := ⟨41, 0, [.tmp 2], f_ref10_Name_B⟩
def f_goods_Name_L0 : ICode :=
 (.seq
 (.ops [ iP 16 (.bin .lss) [.t 15, .t 14]])
 (.seq
 (.cond (.t 16)
 .skip
 (.exit 0))
 (.seq
 (.block 1
 (.seq
 (.ops [ iP 17 .id [.t 15], iP 3 .id [.t 17]])
 (.seq
 (.ops [ iP 18 .id [.t 0], iP 19 .id [.t 3], iP 20 .indexStr [.t 18, .t 19], iP 4 .id [.t 20]])
 (.seq
 (.ops [ iP 21 .id [.t 4], iP 22 (.bin .neq) [.t 21, .c (.int .u8 45)], iP 23 .id [.t 22], iG 23 true 24 .id [.t 4], iG 23 true 25 (.bin .lss) [.t 24, .c (.int .u8 48)], iG 23 true 26 .id [.t 25], iG 26 false 27 .id [.t 4], iG 26 false 28 (.bin .gtr) [.t 27, .c (.int .u8 57)], iG 23 true 29 .pick [.t 26, .c (.bool true), .t 28], iP 30 .pick [.t 23, .t 29, .c (.bool false)], iP 31 .id [.t 30], iG 31 true 32 .id [.t 4], iG 31 true 33 (.bin .lss) [.t 32, .c (.int .u8 97)], iG 31 true 34 .id [.t 33], iG 34 false 35 .id [.t 4], iG 34 false 36 (.bin .gtr) [.t 35, .c (.int .u8 122)], iG 31 true 37 .pick [.t 34, .c (.bool true), .t 36], iP 38 .pick [.t 31, .t 37, .c (.bool false)]])
 (.cond (.t 38)
 (.seq
 (.ops [ iP 2 .id [.c (.bool false)]])
 .ret)
 .skip)))))
 (.ops [ iP 39 (.bin .add) [.t 15, kI 1], iP 15 .id [.t 39]]))))
def f_goods_Name_H0 (t0 t14 t15 : AV) : List AV := [t0, .dead, .dead, .dead, .dead, .dead, .dead, .dead, .dead, .dead, .dead, .dead, .dead, .dead, t14, t15, .dead, .dead, .dead, .dead, .dead, .dead, .dead, .dead, .dead, .dead, .dead, .dead, .dead, .dead, .dead, .dead, .dead, .dead, .dead, .dead, .dead, .dead, .dead, .dead]
def f_goods_Name_B : ICode :=
 (.seq
 (.ops [ iP 2 .id [.c (.bool false)]])
 (.seq
 (.seq
 (.ops [ iP 5 .id [.t 0], iP 6 .lenStr [.t 5], iP 7 (.bin .lss) [.t 6, kI 1], iP 8 .id [.t 7], iG 8 false 9 .id [.t 0], iG 8 false 10 .lenStr [.t 9], iG 8 false 11 (.bin .gtr) [.t 10, kI 12], iP 12 .pick [.t 8, .c (.bool true), .t 11]])
 (.cond (.t 12)
 (.seq
 (.ops [ iP 2 .id [.c (.bool false)]])
 .ret)
 .skip))
 (.seq
 (.seq
 (.ops [ iP 13 .id [.t 0], iP 14 .lenStr [.t 13], iP 15 .id [kI 0]])
 (.block 0
 (.loop [1, 2, 3, 4, 5, 6, 7, 8, 9, 10, 11, 12, 13, 16, 17, 18, 19, 20, 21, 22, 23, 24, 25, 26, 27, 28, 29, 30, 31, 32, 33, 34, 35, 36, 37, 38, 39] [] f_goods_Name_L0)))
 (.seq
 (.ops [ iP 2 .id [.c (.bool true)]])
 .ret))))
def f_goods_Name : IFn := ⟨40, 0, [.tmp 2], f_goods_Name_B⟩
end Go.AM
namespace Go.AM
variable {prog : String → Option IFn}
def nameB (c : UInt8) : Bool := c.toNat == 45 || (decide (48 ≤ c.toNat) && decide (c.toNat ≤ 57)) || (decide (97 ≤ c.toNat) && decide (c.toNat ≤ 122))
def nameOK (s : List UInt8) : Bool := decide (1 ≤ s.length) && decide (s.length ≤ 12) && s.all nameB
theorem all_of {α : Type} {p : α → Bool} {xs : List α} (h : ∀ (j : Nat) x, xs[j]? = some x → p x = true) : xs.all p = true := by
  rw [List.all_eq_true]
  intro x hx
  obtain ⟨j, hj⟩ := List.mem_iff_getElem?.1 hx
  exact h j x hj
theorem all_bad {α : Type} {p : α → Bool} {xs : List α} {j : Nat} {x : α} (hx : xs[j]? = some x) (hp : p x = false) : xs.all p = false := by
  cases h : xs.all p with
  | false => rfl
  | true =>
    have := List.all_eq_true.1 h x (List.mem_of_getElem? hx)
    rw [hp] at this; cases this
theorem goodsName_spec (hf : prog "haberdash/goods.Name" = some f_goods_Name) {G} {s : List UInt8} :
    Ev prog (.call "haberdash/goods.Name" [.v (str s)] G) (.ret (.v (.bool (nameOK s))) G) := by
  refine call_of_fin hf ?_
  simp only [f_goods_Name_B, enter, List.length_cons, List.length_nil, List.replicate, Nat.reduceAdd, Nat.reduceSub, List.cons_append, List.nil_append]
  simp (disch := first | (simp only [DS, reduceCtorEq]; done) | omega) only [WS, St.guard, St.put, evalO, reduceCtorEq, reduceIte, Nat.reduceAdd, Nat.reduceEqDiff, lenStr_str]
  by_cases h1 : s.length < 1
  · have e : nameOK s = false := by unfold nameOK; rw [decide_eq_false (by omega)]; rfl
    simp (disch := first | (simp only [DS, reduceCtorEq]; done) | omega) only [WS, St.guard, St.put, evalO, reduceCtorEq, reduceIte, Nat.reduceAdd, Nat.reduceEqDiff, show ((s.length : Int) < 1) from by omega, decide_true, fin_tmp, leave_v, e]
    simp
  simp (disch := first | (simp only [DS, reduceCtorEq]; done) | omega) only [WS, St.guard, St.put, evalO, reduceCtorEq, reduceIte, Nat.reduceAdd, Nat.reduceEqDiff, show ¬ ((s.length : Int) < 1) from by omega, decide_false, lenStr_str]
  by_cases h2 : 12 < s.length
  · have e : nameOK s = false := by unfold nameOK; rw [decide_eq_false (p := s.length ≤ 12) (by omega), Bool.and_false]; rfl
    simp (disch := first | (simp only [DS, reduceCtorEq]; done) | omega) only [WS, St.guard, St.put, evalO, reduceCtorEq, reduceIte, Nat.reduceAdd, Nat.reduceEqDiff, show ((s.length : Int) > 12) from by omega, decide_true, fin_tmp, leave_v, e]
    simp
  simp (disch := first | (simp only [DS, reduceCtorEq]; done) | omega) only [WS, St.guard, St.put, evalO, reduceCtorEq, reduceIte, Nat.reduceAdd, Nat.reduceEqDiff, show ¬ ((s.length : Int) > 12) from by omega, decide_false, lenStr_str]
  have e : nameOK s = s.all nameB := by unfold nameOK; rw [decide_eq_true (by omega), decide_eq_true (by omega)]; rfl
  rw [e]
  refine WC_countP (fun i => ∀ (j : Nat) x, j < i → s[j]? = some x → nameB x = true) (fun i => ⟨f_goods_Name_H0 (.v (str s)) (.v (.int .i64 s.length)) (.v (.int .i64 (i : Nat))), ⟨G, []⟩⟩) s.length ?_ (fun j x h => by omega) (fun i hi hp => ?_) (fun hp => ?_)
  · simp only [clear_nil, List.foldl_cons, List.foldl_nil, Option.some.injEq, LS, reduceCtorEq, reduceIte, Nat.reduceAdd]; rfl
  · have hlt' : (i : Int) < (s.length : Int) := by omega
    have hx : s[i]? = some s[i] := List.getElem?_eq_getElem hi
    have hb : ∀ h : Hp, prim h .indexStr [.v (str s), .v (.int .i64 (i : Int))] = some (.v (.int .u8 (s[i].toNat : Int)), h) := fun h => by
      rw [indexStr_str hi, List.getD_eq_getElem?_getD, hx]; rfl
    simp (disch := first | (simp only [DS, reduceCtorEq]; done) | omega) only [f_goods_Name_L0, f_goods_Name_H0, WS, St.guard, St.put, evalO, reduceCtorEq, reduceIte, Nat.reduceAdd, Nat.reduceEqDiff, hlt', decide_true, hb]
    have hbad : nameB s[i] = false → s.all nameB = false := all_bad hx
    have hgood : nameB s[i] = true → ∀ (j : Nat) x, j < i + 1 → s[j]? = some x → nameB x = true := fun h j x hj hjx => by
      by_cases hji : j < i
      · exact hp j x hji hjx
      · obtain rfl : j = i := by omega
        rw [hx] at hjx; cases hjx; exact h
    have hN : nameB s[i] = (s[i].toNat == 45 || (decide (48 ≤ s[i].toNat) && decide (s[i].toNat ≤ 57)) || (decide (97 ≤ s[i].toNat) && decide (s[i].toNat ≤ 122))) := rfl
    generalize s[i].toNat = n at *
    by_cases c1 : n = 45
    · have f1 : ((n : Int) != 45) = false := by rw [bne_eq_false_iff_eq]; omega
      simp (disch := first | (simp only [DS, reduceCtorEq]; done) | omega) only [WS, St.guard, St.put, evalO, reduceCtorEq, reduceIte, Nat.reduceAdd, Nat.reduceEqDiff, f1, vBin_add_i64, clear_nil, List.foldl_cons, List.foldl_nil, Option.some.injEq]
      exact ⟨rfl, hgood (by rw [hN, c1]; rfl)⟩
    have f1 : ((n : Int) != 45) = true := by rw [bne_iff_ne]; omega
    by_cases c2 : 48 ≤ n ∧ n ≤ 57
    · simp (disch := first | (simp only [DS, reduceCtorEq]; done) | omega) only [WS, St.guard, St.put, evalO, reduceCtorEq, reduceIte, Nat.reduceAdd, Nat.reduceEqDiff, f1, show ¬ ((n : Int) < 48) from by omega, show ¬ ((n : Int) > 57) from by omega, decide_false, vBin_add_i64, clear_nil, List.foldl_cons, List.foldl_nil, Option.some.injEq]
      exact ⟨rfl, hgood (by rw [hN]; simp; omega)⟩
    by_cases c3 : 97 ≤ n ∧ n ≤ 122
    · simp (disch := first | (simp only [DS, reduceCtorEq]; done) | omega) only [WS, St.guard, St.put, evalO, reduceCtorEq, reduceIte, Nat.reduceAdd, Nat.reduceEqDiff, f1, show ¬ ((n : Int) < 48) from by omega, show (n : Int) > 57 from by omega, show ¬ ((n : Int) < 97) from by omega, show ¬ ((n : Int) > 122) from by omega, decide_false, decide_true, vBin_add_i64, clear_nil, List.foldl_cons, List.foldl_nil, Option.some.injEq]
      exact ⟨rfl, hgood (by rw [hN]; simp; omega)⟩
    have hb := hbad (by rw [hN]; simp; omega)
    by_cases c4 : n < 48
    · simp (disch := first | (simp only [DS, reduceCtorEq]; done) | omega) only [WS, St.guard, St.put, evalO, reduceCtorEq, reduceIte, Nat.reduceAdd, Nat.reduceEqDiff, f1, show (n : Int) < 48 from by omega, show (n : Int) < 97 from by omega, decide_true, fin_tmp, leave_v, hb]
      simp
    by_cases c5 : n < 97
    · simp (disch := first | (simp only [DS, reduceCtorEq]; done) | omega) only [WS, St.guard, St.put, evalO, reduceCtorEq, reduceIte, Nat.reduceAdd, Nat.reduceEqDiff, f1, show ¬ ((n : Int) < 48) from by omega, show (n : Int) > 57 from by omega, show (n : Int) < 97 from by omega, decide_false, decide_true, fin_tmp, leave_v, hb]
      simp
    · simp (disch := first | (simp only [DS, reduceCtorEq]; done) | omega) only [WS, St.guard, St.put, evalO, reduceCtorEq, reduceIte, Nat.reduceAdd, Nat.reduceEqDiff, f1, show ¬ ((n : Int) < 48) from by omega, show (n : Int) > 57 from by omega, show ¬ ((n : Int) < 97) from by omega, show (n : Int) > 122 from by omega, decide_false, decide_true, fin_tmp, leave_v, hb]
      simp
  · simp (disch := first | (simp only [DS, reduceCtorEq]; done) | omega) only [f_goods_Name_L0, f_goods_Name_H0, WS, St.guard, St.put, evalO, reduceCtorEq, reduceIte, Nat.reduceAdd, Nat.reduceEqDiff, decide_false, fin_tmp, leave_v]
    rw [all_of fun j x hx => hp j x (lt_of_get hx) hx]
    simp
theorem refName_spec (hf : prog "haberdash/haberdashref10.Name" = some f_ref10_Name) {G} {s : List UInt8} (hs : s.length ≤ 9223372036854775807) :
    Ev prog (.call "haberdash/haberdashref10.Name" [.v (str s)] G) (.ret (.v (.bool (nameOK s))) G) := by
  refine call_of_fin hf ?_
  simp only [f_ref10_Name_B, enter, List.length_cons, List.length_nil, List.replicate, Nat.reduceAdd, Nat.reduceSub, List.cons_append, List.nil_append]
  simp (disch := first | (simp only [DS, reduceCtorEq]; done) | omega) only [WS, St.guard, St.put, evalO, reduceCtorEq, reduceIte, Nat.reduceAdd, Nat.reduceEqDiff]
  refine WC_countP (fun i => ∀ (j : Nat) x, j < i → s[j]? = some x → nameB x = true) (fun i => ⟨f_ref10_Name_H0 (.v (str s)) (.v (.int .i64 (i : Nat))), ⟨G, []⟩⟩) s.length ?_ (fun j x h => by omega) (fun i hi hp => ?_) (fun hp => ?_)
  · simp only [clear_nil, List.foldl_cons, List.foldl_nil, Option.some.injEq, LS, reduceCtorEq, reduceIte, Nat.reduceAdd]; rfl
  · have hlt' : (i : Int) < (s.length : Int) := by omega
    have hx : s[i]? = some s[i] := List.getElem?_eq_getElem hi
    have hb : ∀ h : Hp, prim h .indexStr [.v (str s), .v (.int .i64 (i : Int))] = some (.v (.int .u8 (s[i].toNat : Int)), h) := fun h => by
      rw [indexStr_str hi, List.getD_eq_getElem?_getD, hx]; rfl
    simp (disch := first | (simp only [DS, reduceCtorEq]; done) | omega) only [f_ref10_Name_L0, f_ref10_Name_H0, WS, St.guard, St.put, evalO, reduceCtorEq, reduceIte, Nat.reduceAdd, Nat.reduceEqDiff, lenStr_str, hlt', decide_true, hb]
    have hbad : nameB s[i] = false → nameOK s = false := fun h => by unfold nameOK; rw [all_bad hx h, Bool.and_false]
    have hgood : nameB s[i] = true → ∀ (j : Nat) x, j < i + 1 → s[j]? = some x → nameB x = true := fun h j x hj hjx => by
      by_cases hji : j < i
      · exact hp j x hji hjx
      · obtain rfl : j = i := by omega
        rw [hx] at hjx; cases hjx; exact h
    have hN : nameB s[i] = (s[i].toNat == 45 || (decide (48 ≤ s[i].toNat) && decide (s[i].toNat ≤ 57)) || (decide (97 ≤ s[i].toNat) && decide (s[i].toNat ≤ 122))) := rfl
    generalize s[i].toNat = n at *
    by_cases c3 : 97 ≤ n ∧ n ≤ 122
    · simp (disch := first | (simp only [DS, reduceCtorEq]; done) | omega) only [WS, St.guard, St.put, evalO, reduceCtorEq, reduceIte, Nat.reduceAdd, Nat.reduceEqDiff, show (n : Int) ≥ 97 from by omega, show (n : Int) ≤ 122 from by omega, decide_true, vBin_add_i64, clear_nil, List.foldl_cons, List.foldl_nil, Option.some.injEq]
      exact ⟨rfl, hgood (by rw [hN]; simp; omega)⟩
    by_cases c2 : 48 ≤ n ∧ n ≤ 57
    · simp (disch := first | (simp only [DS, reduceCtorEq]; done) | omega) only [WS, St.guard, St.put, evalO, reduceCtorEq, reduceIte, Nat.reduceAdd, Nat.reduceEqDiff, show ¬ ((n : Int) ≥ 97) from by omega, show (n : Int) ≥ 48 from by omega, show (n : Int) ≤ 57 from by omega, decide_true, decide_false, vBin_add_i64, clear_nil, List.foldl_cons, List.foldl_nil, Option.some.injEq]
      exact ⟨rfl, hgood (by rw [hN]; simp; omega)⟩
    by_cases c1 : n = 45
    · have f1 : ((n : Int) == 45) = true := by rw [beq_iff_eq]; omega
      simp (disch := first | (simp only [DS, reduceCtorEq]; done) | omega) only [WS, St.guard, St.put, evalO, reduceCtorEq, reduceIte, Nat.reduceAdd, Nat.reduceEqDiff, show ¬ ((n : Int) ≥ 97) from by omega, show ¬ ((n : Int) ≥ 48) from by omega, f1, decide_true, decide_false, vBin_add_i64, clear_nil, List.foldl_cons, List.foldl_nil, Option.some.injEq]
      exact ⟨rfl, hgood (by rw [hN, c1]; rfl)⟩
    have f1 : ((n : Int) == 45) = false := by rw [beq_eq_false_iff_ne]; omega
    have hb := hbad (by rw [hN]; simp; omega)
    by_cases c4 : n < 48
    · simp (disch := first | (simp only [DS, reduceCtorEq]; done) | omega) only [WS, St.guard, St.put, evalO, reduceCtorEq, reduceIte, Nat.reduceAdd, Nat.reduceEqDiff, show ¬ ((n : Int) ≥ 97) from by omega, show ¬ ((n : Int) ≥ 48) from by omega, f1, decide_true, decide_false, fin_tmp, leave_v, hb]
      simp
    by_cases c5 : n < 97
    · simp (disch := first | (simp only [DS, reduceCtorEq]; done) | omega) only [WS, St.guard, St.put, evalO, reduceCtorEq, reduceIte, Nat.reduceAdd, Nat.reduceEqDiff, show ¬ ((n : Int) ≥ 97) from by omega, show (n : Int) ≥ 48 from by omega, show ¬ ((n : Int) ≤ 57) from by omega, f1, decide_true, decide_false, fin_tmp, leave_v, hb]
      simp
    · simp (disch := first | (simp only [DS, reduceCtorEq]; done) | omega) only [WS, St.guard, St.put, evalO, reduceCtorEq, reduceIte, Nat.reduceAdd, Nat.reduceEqDiff, show (n : Int) ≥ 97 from by omega, show ¬ ((n : Int) ≤ 122) from by omega, show (n : Int) ≥ 48 from by omega, show ¬ ((n : Int) ≤ 57) from by omega, f1, decide_true, decide_false, fin_tmp, leave_v, hb]
      simp
  · simp (disch := first | (simp only [DS, reduceCtorEq]; done) | omega) only [f_ref10_Name_L0, f_ref10_Name_H0, WS, St.guard, St.put, evalO, reduceCtorEq, reduceIte, Nat.reduceAdd, Nat.reduceEqDiff, lenStr_str, decide_false]
    have e : nameOK s = (decide (1 ≤ s.length) && decide (s.length ≤ 12)) := by unfold nameOK; rw [all_of fun j x hx => hp j x (lt_of_get hx) hx, Bool.and_true]
    by_cases h1 : (s.length : Int) ≥ 1
    · simp (disch := first | (simp only [DS, reduceCtorEq]; done) | omega) only [WS, St.guard, St.put, evalO, reduceCtorEq, reduceIte, Nat.reduceAdd, Nat.reduceEqDiff, h1, decide_true, lenStr_str, fin_tmp, leave_v, e]
      rw [decide_eq_true (p := 1 ≤ s.length) (by omega), Bool.true_and, show decide ((s.length : Int) ≤ 12) = decide (s.length ≤ 12) from by rw [decide_eq_decide]; omega]
      simp
    · simp (disch := first | (simp only [DS, reduceCtorEq]; done) | omega) only [WS, St.guard, St.put, evalO, reduceCtorEq, reduceIte, Nat.reduceAdd, Nat.reduceEqDiff, h1, decide_false, fin_tmp, leave_v, e]
      rw [decide_eq_false (p := 1 ≤ s.length) (by omega)]
      simp
end Go.AM
namespace Go.AM
variable {prog : String → Option IFn}
abbrev Txt := List UInt8
def sEnc : Enc Txt := ⟨fun s => [.v (str s)], 1, false, fun _ => rfl, by omega, .inr rfl, fun _ => rfl, fun _ s => ⟨.v (str s), rfl, rfl⟩⟩
theorem sEnc_av (s : Txt) : sEnc.av s = .v (str s) := rfl
theorem less_total : ∀ (a b : Txt), (!(Op.bytesLess a b)) = (Op.bytesLess b a || b == a)
  | [], [] => rfl
  | [], _ :: _ => rfl
  | _ :: _, [] => rfl
  | a :: x, b :: y => by
    have ih := less_total x y
    simp only [Op.bytesLess]
    by_cases h1 : a < b
    · have h2 : ¬ b < a := fun h => by have := UInt8.lt_iff_toNat_lt.1 h; have := UInt8.lt_iff_toNat_lt.1 h1; omega
      have h3 : b ≠ a := fun h => by rw [h] at h1; exact absurd (UInt8.lt_iff_toNat_lt.1 h1) (by omega)
      simp [h1, h2, h3]
    · by_cases h2 : b < a
      · have h3 : a ≠ b := fun h => by rw [h] at h2; exact absurd (UInt8.lt_iff_toNat_lt.1 h2) (by omega)
        simp [h1, h2, h3]
      · have h3 : a = b := UInt8.toNat_inj.1 (by
          have a1 : ¬ a.toNat < b.toNat := fun h => h1 (UInt8.lt_iff_toNat_lt.2 h)
          have a2 : ¬ b.toNat < a.toNat := fun h => h2 (UInt8.lt_iff_toNat_lt.2 h)
          omega)
        subst h3
        simpa [h1] using ih
def rise : List Txt → Bool
  | a :: b :: r => Op.bytesLess a b && rise (b :: r)
  | _ => true
theorem rise_of : ∀ {xs : List Txt}, (∀ (i : Nat) a b, xs[i]? = some a → xs[i + 1]? = some b → Op.bytesLess a b = true) → rise xs = true
  | [], _ => rfl
  | [_], _ => rfl
  | a :: b :: r, h => by
    rw [rise, h 0 a b rfl rfl, Bool.true_and]
    exact rise_of fun i x y h1 h2 => h (i + 1) x y (by simpa using h1) (by simpa using h2)
theorem rise_at : ∀ {xs : List Txt} {i : Nat} {a b}, rise xs = true → xs[i]? = some a → xs[i + 1]? = some b → Op.bytesLess a b = true
  | [], i, a, b, _, h, _ => by simp at h
  | [_], i, a, b, _, _, h => by simp at h
  | x :: y :: r, 0, a, b, h, h1, h2 => by
    simp only [rise, Bool.and_eq_true] at h
    simp at h1 h2; subst h1; subst h2; exact h.1
  | x :: y :: r, i + 1, a, b, h, h1, h2 => by
    simp only [rise, Bool.and_eq_true] at h
    exact rise_at (i := i) h.2 (by simpa using h1) (by simpa using h2)
theorem rise_bad {xs : List Txt} {i : Nat} {a b} (h1 : xs[i]? = some a) (h2 : xs[i + 1]? = some b) (h : Op.bytesLess a b = false) : rise xs = false := by
  cases hr : rise xs with
  | false => rfl
  | true => have := rise_at hr h1 h2; rw [h] at this; cases this
theorem Rise_spec (hf : prog "haberdash/goods.Rise" = some f_goods_Rise) {G a} {xs : List Txt} (v : ∀ L, TView sEnc ⟨G, L⟩ a xs) (hl : xs.length ≤ maxLen) :
    Ev prog (.call "haberdash/goods.Rise" [a] G) (.ret (.v (.bool (rise xs))) G) := by
  have hml : xs.length ≤ 9223372036854775807 := hl
  refine call_of_fin hf ?_
  simp only [f_goods_Rise_B, enter, List.length_cons, List.length_nil, List.replicate, Nat.reduceAdd, Nat.reduceSub, List.cons_append, List.nil_append]
  simp (disch := first | (simp only [DS, reduceCtorEq]; done) | omega) only [WS, St.guard, St.put, evalO, reduceCtorEq, reduceIte, Nat.reduceAdd, Nat.reduceEqDiff, (v _).lenSlice]
  refine WC_countP (fun i => ∀ (j : Nat) x y, j + 1 < i → xs[j]? = some x → xs[j + 1]? = some y → Op.bytesLess x y = true) (fun i => ⟨f_goods_Rise_H0 a (.v (.int .i64 xs.length)) (.v (.int .i64 (i : Nat))), ⟨G, []⟩⟩) xs.length ?_ (fun j x y h => by omega) (fun i hi hp => ?_) (fun hp => ?_)
  · simp only [clear_nil, List.foldl_cons, List.foldl_nil, Option.some.injEq, LS, reduceCtorEq, reduceIte, Nat.reduceAdd]; rfl
  · have hlt' : (i : Int) < (xs.length : Int) := by omega
    have hx : xs[i]? = some xs[i] := List.getElem?_eq_getElem hi
    have vi := (v []).index (k := .i64) hi
    have vl := (v []).load hx
    simp only [show sEnc.esz = 1 from rfl, show sEnc.agg = false from rfl, sEnc_av] at vi vl
    simp (disch := first | (simp only [DS, reduceCtorEq]; done) | omega) only [f_goods_Rise_L0, f_goods_Rise_H0, WS, St.guard, St.put, evalO, reduceCtorEq, reduceIte, Nat.reduceAdd, Nat.reduceEqDiff, hlt', decide_true]
    cases i with
    | zero =>
      simp (disch := first | (simp only [DS, reduceCtorEq]; done) | omega) only [WS, St.guard, St.put, evalO, reduceCtorEq, reduceIte, Nat.reduceAdd, Nat.reduceEqDiff, show ¬ (((0 : Nat) : Int) > 0) from by omega, decide_false, vBin_add_i64, clear_nil, List.foldl_cons, List.foldl_nil, Option.some.injEq]
      exact ⟨rfl, fun j x y h => by omega⟩
    | succ k =>
      have hk : k < xs.length := by omega
      have hx0 : xs[k]? = some xs[k] := List.getElem?_eq_getElem hk
      have vi0 := (v []).index (k := .i64) hk
      have vl0 := (v []).load hx0
      simp only [show sEnc.esz = 1 from rfl, show sEnc.agg = false from rfl, sEnc_av] at vi0 vl0
      have e1 : ((k + 1 : Nat) : Int) - 1 = (k : Int) := by omega
      simp (disch := first | (simp only [DS, reduceCtorEq]; done) | omega) only [WS, St.guard, St.put, evalO, reduceCtorEq, reduceIte, Nat.reduceAdd, Nat.reduceEqDiff, show (((k + 1 : Nat) : Int) > 0) from by omega, decide_true, vBin_sub_i64, e1, vi0, vl0, vi, vl, vBin_geq_str]
      cases hless : Op.bytesLess xs[k] xs[k + 1]
      · simp (disch := first | (simp only [DS, reduceCtorEq]; done) | omega) only [WS, St.guard, St.put, evalO, reduceCtorEq, reduceIte, Nat.reduceAdd, Nat.reduceEqDiff, fin_tmp, leave_v, rise_bad hx0 hx hless]
        simp
      · simp (disch := first | (simp only [DS, reduceCtorEq]; done) | omega) only [WS, St.guard, St.put, evalO, reduceCtorEq, reduceIte, Nat.reduceAdd, Nat.reduceEqDiff, vBin_add_i64, clear_nil, List.foldl_cons, List.foldl_nil, Option.some.injEq]
        refine ⟨rfl, fun j x y hj h1 h2 => ?_⟩
        by_cases hjk : j + 1 < k + 1
        · exact hp j x y hjk h1 h2
        · obtain rfl : j = k := by omega
          rw [hx0] at h1; rw [hx] at h2; cases h1; cases h2; exact hless
  · simp (disch := first | (simp only [DS, reduceCtorEq]; done) | omega) only [f_goods_Rise_L0, f_goods_Rise_H0, WS, St.guard, St.put, evalO, reduceCtorEq, reduceIte, Nat.reduceAdd, Nat.reduceEqDiff, decide_false, fin_tmp, leave_v]
    rw [rise_of fun i x y h1 h2 => hp i x y (lt_of_get h2) h1 h2]
    simp
end Go.AM
