import Derived.Test.YtikbagggffehkaaLawScopeB
import Derived.Test.YtikbagggffehkaaAME
set_option linter.unusedVariables false
set_option linter.unusedSimpArgs false
namespace Go.AM
variable {prog : String → Option IFn}
def skuAt (m : Nat) : Txt := [97 + UInt8.ofNat m]
theorem Sku_spec (hf : prog "haberdash/haberdashplay.Sku" = some f_play_Sku) (hmod : prog "haberdash/haberdashplay.Mod" = some f_play_Mod) {G} {c : Int} :
    Ev prog (.call "haberdash/haberdashplay.Sku" [.v (.int .i64 c)] G) (.ret (.v (str (skuAt (umod c 8)))) G) := by
  refine call_of_fin hf ?_
  simp only [f_play_Sku_B, enter, List.length_cons, List.length_nil, List.replicate, Nat.reduceAdd, Nat.reduceSub, List.cons_append, List.nil_append]
  simp (disch := first | (simp only [DS, reduceCtorEq]; done) | omega) only [WS, St.guard, St.put, evalO, reduceCtorEq, reduceIte, Nat.reduceAdd, Nat.reduceEqDiff]
  rw [WP_p (x := .int .i64 (umod c 8 : Nat)) (by exact Mod_spec hmod 8 rfl (by omega) (by omega)) (by exact trivial)]
  generalize umod c 8 = m
  simp (disch := first | (simp only [DS, reduceCtorEq]; done) | omega) only [WS, St.guard, St.put, evalO, reduceCtorEq, reduceIte, Nat.reduceAdd, Nat.reduceEqDiff, cvU8, u97, addU8]
  refine (WR_eq (build1 (n := 1) (xs := (skuAt m).map byteAV) (by rfl) (by rfl) (by rfl) cells_bytes bytes_lfs)).2 ?_
  simp (disch := first | (simp only [DS, reduceCtorEq]; done) | omega) only [WS, St.guard, St.put, evalO, reduceCtorEq, reduceIte, Nat.reduceAdd, Nat.reduceEqDiff]
  have vb : ∀ L, View ⟨G, some (dBlk ((skuAt m).map byteAV) false false) :: L⟩ (.own (.l 0) 1 0 1 1 (some 1)) 1 (skuAt m).length ((skuAt m).map byteAV) := fun L => own_view1 (j := 0) rfl rfl (by simp)
  refine (WR_eq ((vb _).bytesStr)).2 ?_
  simp (disch := first | (simp only [DS, reduceCtorEq]; done) | omega) only [WS, St.guard, St.put, evalO, reduceCtorEq, reduceIte, Nat.reduceAdd, Nat.reduceEqDiff, fin_tmp, leave_v]
  simp
end Go.AM
