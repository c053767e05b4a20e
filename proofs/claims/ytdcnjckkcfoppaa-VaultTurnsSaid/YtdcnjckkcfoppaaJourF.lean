import Derived.Test.YtdcnjckkcfoppaaJourE
set_option linter.unusedVariables false
set_option linter.unusedSimpArgs false
namespace Go.AM
variable {prog : String → Option IFn}
variable {n frm N : Nat} {D E : DskD} {J K : JD} {X Y : List (Option Blk)}
def epW (e : Nat) : BitVec 32 := BitVec.ofNat 32 e
theorem epW_ne {e : Nat} (h1 : 1 ≤ e) (h2 : e ≤ 1000) : epW e ≠ 0#32 := fun h => by
  have := congrArg BitVec.toNat h
  unfold epW at this
  rw [BitVec.toNat_ofNat, Nat.mod_eq_of_lt (by omega)] at this
  simp at this; omega
end Go.AM
