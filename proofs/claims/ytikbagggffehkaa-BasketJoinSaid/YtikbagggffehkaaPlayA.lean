import Derived.Test.YtikbagggffehkaaLawScopeB
import Derived.Test.YtikbagggffehkaaAME
set_option linter.unusedVariables false
set_option linter.unusedSimpArgs false
namespace Go.AM
variable {prog : String → Option IFn}
def skuAt (m : Nat) : Txt := [97 + UInt8.ofNat m]
theorem Sku_spec (hf : prog "haberdash/haberdashplay.Sku" = some f_play_Sku) (hmod : prog "haberdash/haberdashplay.Mod" = some f_play_Mod) {G} {c : Int} :
    Ev prog (.call "haberdash/haberdashplay.Sku" [.v (.int .i64 c)] G) (.ret (.v (str (skuAt (umod c 8)))) G) := by
  refine call_of_fin hf ?_
  simp only [f_play_Sku_B, enter, List.length_cons, List.length_nil, List.replicate, Nat.reduceAdd, Nat.reduceSub, List.cons_append, List.nil_append]
  simp (disch := first | (simp only [DS, reduceCtorEq]; done) | omega) only [WS, St.guard, St.put, evalO, reduceCtorEq, reduceIte, Nat.reduceAdd, Nat.reduceEqDiff]
  rw [WP_p (x := .int .i64 (umod c 8 : Nat)) (by exact Mod_spec hmod 8 rfl (by omega) (by omega)) (by exact trivial)]
  generalize umod c 8 = m
  simp (disch := first | (simp only [DS, reduceCtorEq]; done) | omega) only [WS, St.guard, St.put, evalO, reduceCtorEq, reduceIte, Nat.reduceAdd, Nat.reduceEqDiff, cvU8, u97, addU8]
  refine (WR_eq (build1 (n := 1) (xs := (skuAt m).map byteAV) (by rfl) (by rfl) (by rfl) cells_bytes bytes_lfs)).2 ?_
  simp (disch := first | (simp only [DS, reduceCtorEq]; done) | omega) only [WS, St.guard, St.put, evalO, reduceCtorEq, reduceIte, Nat.reduceAdd, Nat.reduceEqDiff]
  have vb : ∀ L, View ⟨G, some (dBlk ((skuAt m).map byteAV) false false) :: L⟩ (.own (.l 0) 1 0 1 1 (some 1)) 1 (skuAt m).length ((skuAt m).map byteAV) := fun L => own_view1 (j := 0) rfl rfl (by simp)
  refine (WR_eq ((vb _).bytesStr)).2 ?_
  simp (disch := first | (simp only [DS, reduceCtorEq]; done) | omega) only [WS, St.guard, St.put, evalO, reduceCtorEq, reduceIte, Nat.reduceAdd, Nat.reduceEqDiff, fin_tmp, leave_v]
  simp
end Go.AM
namespace Go.AM
variable {prog : String → Option IFn}
theorem vBin_mulW {a b : Int} : vBin .mul (.int .i64 a) (.int .i64 b) = some (.int .i64 (IntKind.i64.wrap (a * b))) := by
  simp only [vBin, ne_eq, not_true_eq_false, if_false]
theorem vBin_addW {a b : Int} : vBin .add (.int .i64 a) (.int .i64 b) = some (.int .i64 (IntKind.i64.wrap (a + b))) := by
  simp only [vBin, ne_eq, not_true_eq_false, if_false]
def pickV (s : Txt) : Nat → Int
  | 0 => (s.length : Int)
  | i + 1 => IntKind.i64.wrap (IntKind.i64.wrap (7 * pickV s i) + ((s.getD i 0).toNat : Int))
theorem pick_spec (hf : prog "haberdash/haberdashplay.pick" = some f_play_pick) {G} {s : Txt} :
    Ev prog (.call "haberdash/haberdashplay.pick" [.v (str s)] G) (.ret (.v (.int .i64 (pickV s (min s.length 8)))) G) := by
  refine call_of_fin hf ?_
  simp only [f_play_pick_B, enter, List.length_cons, List.length_nil, List.replicate, Nat.reduceAdd, Nat.reduceSub, List.cons_append, List.nil_append]
  simp (disch := first | (simp only [DS, reduceCtorEq]; done) | omega) only [WS, St.guard, St.put, evalO, reduceCtorEq, reduceIte, Nat.reduceAdd, Nat.reduceEqDiff, lenStr_str]
  refine WC_count (fun i => ⟨f_play_pick_H0 (.v (str s)) (.v (.int .i64 (pickV s i))) (.v (.int .i64 (i : Nat))), ⟨G, []⟩⟩) (min s.length 8) ?_ (fun i hi => ?_) ?_
  · simp only [clear_nil, List.foldl_cons, List.foldl_nil, Option.some.injEq, LS, reduceCtorEq, reduceIte, Nat.reduceAdd]; rfl
  · have hl : (i : Int) < (s.length : Int) := by omega
    have h8 : (i : Int) < 8 := by omega
    have hi2 : i < s.length := by omega
    have hb := (s.getD i 0).toNat_lt
    have hix : ∀ h : Hp, prim h .indexStr [.v (str s), .v (.int .i64 (i : Int))] = some (.v (.int .u8 ((s.getD i 0).toNat : Int)), h) := fun h => indexStr_str hi2
    simp (disch := first | (simp only [DS, reduceCtorEq]; done) | omega) only [f_play_pick_L0, f_play_pick_H0, WS, St.guard, St.put, evalO, reduceCtorEq, reduceIte, Nat.reduceAdd, Nat.reduceEqDiff, lenStr_str, hl, h8, decide_true, hix, vBin_mulW, wrap_i64_nat, vBin_addW]
    have ei : IntKind.i64.wrap ((i : Int) + 1) = ((i + 1 : Nat) : Int) := wrap_i64_nat (n := i + 1) (by omega)
    rw [ei]
    simp only [clear_nil, List.foldl_cons, List.foldl_nil, Option.some.injEq, LS, reduceCtorEq, reduceIte, Nat.reduceAdd]
    rfl
  · by_cases hl : s.length ≤ 8
    · rw [Nat.min_eq_left hl] at *
      simp (disch := first | (simp only [DS, reduceCtorEq]; done) | omega) only [f_play_pick_L0, f_play_pick_H0, WS, St.guard, St.put, evalO, reduceCtorEq, reduceIte, Nat.reduceAdd, Nat.reduceEqDiff, lenStr_str, decide_false, fin_tmp, leave_v]
      simp
    · rw [Nat.min_eq_right (by omega)] at *
      simp (disch := first | (simp only [DS, reduceCtorEq]; done) | omega) only [f_play_pick_L0, f_play_pick_H0, WS, St.guard, St.put, evalO, reduceCtorEq, reduceIte, Nat.reduceAdd, Nat.reduceEqDiff, lenStr_str, show ((8 : Int) < (s.length : Int)) from by omega, show ¬ ((8 : Int) < 8) from by omega, decide_true, decide_false, fin_tmp, leave_v]
      simp
end Go.AM
namespace Go.AM
variable {prog : String → Option IFn}
structure PlayBase (prog : String → Option IFn) : Prop where
  pick : prog "haberdash/haberdashplay.pick" = some f_play_pick
  mod : prog "haberdash/haberdashplay.Mod" = some f_play_Mod
  sku : prog "haberdash/haberdashplay.Sku" = some f_play_Sku
  cat : prog "haberdash/haberdashplay.Category" = some f_play_Category
end Go.AM
