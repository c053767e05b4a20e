import Derived.Test.YtdcnjckkcfoppaaLawDiskD
set_option linter.unusedVariables false
set_option linter.unusedSimpArgs false
namespace Go.AM
variable {prog : String → Option IFn}
variable {n : Nat} {D E F K : DskD} {X : List (Option Blk)}
def pL (n : Nat) (D E F K : DskD) (X : List (Option Blk)) : List (Option Blk) := dk 0 (some n) false D (dk 4 (some n) false E (dk 8 none true F (dk 12 none true K X)))
theorem pg (hX : Dat X) : Good ⟨[], pL n D E F K X⟩ := dk_good (dk_good (dk_good (dk_good (goodX hX))))
def lset (L : List (Option Blk)) (P : DPos) (D : DskD) : List (Option Blk) := (((L.set P.q0 (dsec P.o0 D.a)).set P.q1 (dsec P.o1 D.b)).set P.q2 (dboo P.o2 D.l)).set P.p (dobj .l P D)
section
variable (H : LawF prog)
include H
end
theorem view_plain {a : AV} {esz len : Nat} {cells : List AV} (v : View ⟨[], []⟩ a esz len cells) : ∀ ρ, a.ren ρ = a := fun ρ => ren_id fun ℓ hℓ => by
  rcases v.cases with ⟨rfl, _, _⟩ | ⟨nl, rfl⟩ | ⟨ℓ, n, off, cap, B, rfl, hB, _, _, _⟩
  · cases hℓ
  · cases hℓ
  · cases ℓ <;> simp [Hp.get] at hB
end Go.AM
