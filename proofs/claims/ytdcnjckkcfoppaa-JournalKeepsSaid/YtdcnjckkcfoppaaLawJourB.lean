import Derived.Test.YtdcnjckkcfoppaaJourC
set_option linter.unusedVariables false
set_option linter.unusedSimpArgs false
namespace Go.AM
variable {prog : String → Option IFn}
def eL (D E : DskD) (X : List (Option Blk)) : List (Option Blk) := dk 0 (some 10) false D (dk 4 (some 10) false E X)
section
variable {D E : DskD} {X : List (Option Blk)} {J : JD}
end
end Go.AM
