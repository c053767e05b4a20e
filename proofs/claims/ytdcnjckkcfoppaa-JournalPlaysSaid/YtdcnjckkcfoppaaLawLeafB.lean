import Derived.Test.YtdcnjckkcfoppaaLawLeaf
import Derived.Test.YtdcnjckkcfoppaaHelp
set_option linter.unusedVariables false
set_option linter.unusedSimpArgs false
namespace Go.AM
variable {prog : String → Option IFn}
def bEnc : Enc UInt8 := ⟨fun b => [byteAV b], 1, false, fun _ => rfl, by omega, .inr rfl, fun _ => rfl, fun _ b => ⟨byteAV b, rfl, rfl⟩⟩
theorem bEnc_row (bs : List UInt8) : bEnc.row bs = bs.map byteAV := by
  induction bs with
  | nil => rfl
  | cons b bs ih => rw [List.map_cons, ← ih]; rfl
theorem bView {h a} {bs : List UInt8} (v : View h a 1 bs.length (bs.map byteAV)) : TView bEnc h a bs := by
  unfold TView
  rw [bEnc_row]; exact v
end Go.AM
