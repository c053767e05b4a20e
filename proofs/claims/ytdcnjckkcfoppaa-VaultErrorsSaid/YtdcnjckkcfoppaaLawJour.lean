import Derived.Test.YtdcnjckkcfoppaaJourB
set_option linter.unusedVariables false
set_option linter.unusedSimpArgs false
namespace Go.AM
variable {prog : String → Option IFn}
theorem needN_pos {k : Nat} (h : 1 ≤ k) : 1 ≤ needN k := by unfold needN; omega
end Go.AM
