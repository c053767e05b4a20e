import Derived.Test.YtdcnjckkcfoppaaDiskD
set_option linter.unusedVariables false
set_option linter.unusedSimpArgs false
namespace Go.AM
variable {prog : String → Option IFn}
variable {n : Nat} {D F : DskD}
def dk (i : Nat) (c : Option Nat) (o : Bool) (D : DskD) (X : List (Option Blk)) : List (Option Blk) := dboo o D.l :: dsec o D.b :: dsec o D.a :: dobj .l (dpos i c o) D :: X
theorem dk_good {i g : Nat} {c o D X} (h : goodL g (i + 4) X) : goodL g i (dk i c o D X) := by
  refine ⟨dBlk_good, dBlk_good, dBlk_good, sBlk_good ?_, h⟩
  simp [dobjC, dav0, dav1, dav2, dpos, AV.labs.labss, AV.labs, refLt]
  omega
section
variable (H : LawF prog)
include H
end
end Go.AM
