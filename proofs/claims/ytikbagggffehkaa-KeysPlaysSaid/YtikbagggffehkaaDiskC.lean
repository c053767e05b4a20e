import Derived.Test.YtikbagggffehkaaDiskA
set_option linter.unusedVariables false
set_option linter.unusedSimpArgs false
namespace Go.AM
variable {prog : String → Option IFn}
variable {G L : List (Option Blk)} {P : DPos} {D : DskD} {n : Nat}
def DskD.rput (D : DskD) (i : Nat) (s : Sec) : DskD := { D with a := D.a.set i s, l := D.l.set i true }
end Go.AM
