import Derived.Test.YtdcnjckkcfoppaaLawDiskD
set_option linter.unusedVariables false
set_option linter.unusedSimpArgs false
namespace Go.AM
variable {prog : String → Option IFn}
variable {n : Nat} {D E F K : DskD} {X : List (Option Blk)}
def pL (n : Nat) (D E F K : DskD) (X : List (Option Blk)) : List (Option Blk) := dk 0 (some n) false D (dk 4 (some n) false E (dk 8 none true F (dk 12 none true K X)))
theorem pg (hX : Dat X) : Good ⟨[], pL n D E F K X⟩ := dk_good (dk_good (dk_good (dk_good (goodX hX))))
def lset (L : List (Option Blk)) (P : DPos) (D : DskD) : List (Option Blk) := (((L.set P.q0 (dsec P.o0 D.a)).set P.q1 (dsec P.o1 D.b)).set P.q2 (dboo P.o2 D.l)).set P.p (dobj .l P D)
theorem into_lset {L : List (Option Blk)} {P : DPos} {D : DskD} : (⟨[], lset L P D⟩ : Hp).into = dset (⟨[], L⟩ : Hp).into P D := by
  have e : (dobj .l P D).map (Blk.ren (up 0)) = dobj .o P D := by
    simp only [dobj, dobjC, dav0, dav1, dav2, Option.map_some, Blk.ren, sBlk, Bool.false_eq_true, if_false, AV.ren.rens, AV.ren, up, Nat.zero_add]
  simp only [Hp.into, lset, List.nil_append, List.length_nil, List.map_set, e]
  rfl
section
variable (H : LawF prog)
include H
end
end Go.AM
