import Derived.Test.YtdcnjckkcfoppaaJourC
import Derived.Test.YtdcnjckkcfoppaaJourD
set_option linter.unusedVariables false
set_option linter.unusedSimpArgs false
namespace Go.AM
variable {prog : String → Option IFn}
variable {G L : List (Option Blk)} {P : DPos} {D : DskD} {n q p : Nat} {B : Option Blk} {cs : List AV} {J : JD}
def rcNext (D : DskD) (J : JD) (least : BitVec 32) (k : Nat) (ep : BitVec 32) : Bool :=
  lvOK D J (J.used + k) && ((lvX D J (J.used + k)).n == BitVec.ofNat 32 J.recs.length && ((lvX D J (J.used + k)).f == decide (k = 0) && ((decide (k = 0) || (lvX D J (J.used + k)).e == ep) && !((lvX D J (J.used + k)).e.toNat < least.toNat))))
def rcF (D : DskD) (J : JD) (least : BitVec 32) : Nat → Nat → Txt → BitVec 32 → Option (Txt × Nat × BitVec 32)
  | 0, _, _, _ => none
  | f + 1, k, b, ep => if rcNext D J least k ep then
      if (lvX D J (J.used + k)).l then some (b ++ (lvX D J (J.used + k)).d, k + 1, (lvX D J (J.used + k)).e) else rcF D J least f (k + 1) (b ++ (lvX D J (J.used + k)).d) (lvX D J (J.used + k)).e
    else none
end Go.AM
namespace Go.AM
variable {prog : String → Option IFn}
variable {G L : List (Option Blk)} {P : DPos} {D : DskD} {n q p : Nat} {B : Option Blk} {cs : List AV} {J : JD}
def JD.rc (J : JD) (D : DskD) (least : BitVec 32) : Option (Txt × Nat × BitVec 32) := rcF D J least (J.n - J.used + 1) 0 [] 0#32
end Go.AM
namespace Go.AM
variable {prog : String → Option IFn}
structure StJ where
  kind : Int
  at' : Int
  b : Txt
  keep : List Int
  ba : AV
  ka : AV
  vb : ∀ h, View h ba 1 b.length (b.map byteAV)
  vk : ∀ h, View h ka 1 keep.length (keep.map intAV)
  hk : I64 kind
  ha : I64 at'
  hb : b.length ≤ maxLen
  hl : keep.length ≤ maxLen
  nb : b ≠ [] → ∀ h : Hp, h.isNil .slice ba = some false
def StJ.cells (x : StJ) : List AV := [intAV x.kind, intAV x.at', x.ba, x.ka]
theorem bytes_lf {a : AV} {b : Txt} (va : ∀ h, View h a 1 b.length (b.map byteAV)) : a.lf = true := by
  rcases (va ⟨[], []⟩).cases with ⟨h, _⟩ | ⟨nl, h⟩ | ⟨ℓ, m, off, cap, B, h, hB, _⟩
  · rw [h]; rfl
  · rw [h]
    have := bytes_lfs (bs := b)
    simp [AV.lf, this]
  · have := hB
    cases ℓ <;> simp [Hp.get] at this
theorem StJ.lf (x : StJ) : AV.lf.lfs x.cells = true := by
  have h1 := (ints_plain x.vk).2.1
  have h2 := bytes_lf x.vb
  simp [StJ.cells, AV.lf.lfs, AV.lf, intAV, h1, h2]
end Go.AM
