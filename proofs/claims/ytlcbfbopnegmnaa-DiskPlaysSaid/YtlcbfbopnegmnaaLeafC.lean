import Derived.Test.YtlcbfbopnegmnaaLeafB
import Derived.Test.YtlcbfbopnegmnaaHelp
import Derived.Test.YtlcbfbopnegmnaaAMD
set_option linter.unusedVariables false
set_option linter.unusedSimpArgs false
namespace Go.AM
variable {prog : String → Option IFn}
theorem cellsEq_bytes : ∀ (xs ys : List UInt8), xs.length = ys.length → cellsEq (List.replicate xs.length .int) (xs.map byteAV) (ys.map byteAV) = some (decide (xs = ys))
  | [], [], _ => rfl
  | [], _ :: _, h => by simp at h
  | _ :: _, [], h => by simp at h
  | x :: xs, y :: ys, h => by
    simp only [List.length_cons, List.replicate_succ, List.map_cons, cellsEq, cellsEq_bytes xs ys (by simpa using h)]
    have : cellEq .int (byteAV x) (byteAV y) = some (decide (x = y)) := by
      simp only [cellEq, byteAV, if_true, Option.some.injEq]
      rw [Bool.eq_iff_iff, beq_iff_eq, decide_eq_true_eq]
      exact ⟨fun h => UInt8.toNat_inj.1 (by omega), fun h => by rw [h]⟩
    rw [this]
    simp only [Option.some.injEq]
    rw [Bool.eq_iff_iff]; simp
theorem eq64 {h neg} {xs ys : List UInt8} (hx : xs.length = 64) (hy : ys.length = 64) : prim h (.eq neg ints64) [.agg (xs.map byteAV), .agg (ys.map byteAV)] = some (.v (.bool (decide (xs = ys) != neg)), h) := by
  rw [px_eq, show ints64 = List.replicate xs.length .int by rw [hx]; rfl, cellsEq_bytes xs ys (by omega)]; rfl
end Go.AM
