import Derived.Test.YtdcnjckkcfoppaaLawLeaf
import Derived.Test.YtdcnjckkcfoppaaHelp
import Derived.Test.YtdcnjckkcfoppaaLawCrc
set_option linter.unusedVariables false
set_option linter.unusedSimpArgs false
namespace Go.AM
variable {prog : String → Option IFn}
theorem be4_inj {u v : BitVec 32} (h : be4 u = be4 v) : u = v := by
  have h1 := get4_at [] [] u 0 rfl
  have h2 := get4_at [] [] v 0 rfl
  rw [h] at h1
  exact h1.symm.trans h2
end Go.AM
namespace Go.AM
variable {prog : String → Option IFn}
theorem bytes_head {x : LeafD} (h : x.d.length ≤ 46) : x.bytes.take 4 = be4 x.e := by
  rw [bytes_eq h]; rfl
theorem bytes_tail {x : LeafD} (h : x.d.length ≤ 46) : x.bytes.drop 60 = be4 x.e := by
  rw [bytes_eq h, ← List.append_assoc, List.drop_append, List.drop_of_length_le (by simp [front_len h, be4_len])]
  have : (x.front ++ be4 x.sum).length = 60 := by simp [front_len h, be4_len]
  rw [this]; rfl
end Go.AM
