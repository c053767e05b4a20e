import Derived.Test.YtgblalimcndgnaaRows
import Derived.Test.YtgblalimcndgnaaAMC
import Derived.Test.YtgblalimcndgnaaCrc
import Derived.KernelRfl
set_option linter.unusedVariables false
set_option linter.unusedSimpArgs false
/- The functions that these laws reach, as they stand in the program. Printed by row.py. -/
namespace Go.Proofs.Ytgblalimcndgnaa.ChkCrc
open Go.AM

def fid (f : String) : Option FuncId := match f with
  | "haberdash/haberdashlaw05.CrcAll" => some 3
  | "haberdash/haberdashlaw05.CrcPieces" => some 4
  | "haberdash/haberdashlaw05.CrcTurned" => some 5
  | "haberdash/haberdashlaw05.CrcThree" => some 6
  | "haberdash/haberdashlaw05.CrcEnds" => some 7
  | "haberdash/haberdashlaw05.awake" => some 14
  | "haberdash/crc.Sum" => some 15
  | "haberdash/haberdashref04.Sum" => some 16
  | "haberdash/crc.More" => some 17
  | "haberdash/haberdashref04.More" => some 18
  | _ => none
def prog (f : String) : Option IFn := match f with
  | "haberdash/haberdashlaw05.CrcAll" => some f_law05_CrcAll
  | "haberdash/haberdashlaw05.CrcPieces" => some f_law05_CrcPieces
  | "haberdash/haberdashlaw05.CrcTurned" => some f_law05_CrcTurned
  | "haberdash/haberdashlaw05.CrcThree" => some f_law05_CrcThree
  | "haberdash/haberdashlaw05.CrcEnds" => some f_law05_CrcEnds
  | "haberdash/haberdashlaw05.awake" => some f_law05_awake
  | "haberdash/crc.Sum" => some f_crc_Sum
  | "haberdash/haberdashref04.Sum" => some f_ref04_Sum
  | "haberdash/crc.More" => some f_crc_More
  | "haberdash/haberdashref04.More" => some f_ref04_More
  | _ => none

theorem c3 : chkFn Try.prog fid Try.f3 f_law05_CrcAll = true := by kernel_rfl
theorem c4 : chkFn Try.prog fid Try.f4 f_law05_CrcPieces = true := by kernel_rfl
theorem c5 : chkFn Try.prog fid Try.f5 f_law05_CrcTurned = true := by kernel_rfl
theorem c6 : chkFn Try.prog fid Try.f6 f_law05_CrcThree = true := by kernel_rfl
theorem c7 : chkFn Try.prog fid Try.f7 f_law05_CrcEnds = true := by kernel_rfl
theorem c14 : chkFn Try.prog fid Try.f14 f_law05_awake = true := by kernel_rfl
theorem c15 : chkFn Try.prog fid Try.f15 f_crc_Sum = true := by kernel_rfl
theorem c16 : chkFn Try.prog fid Try.f16 f_ref04_Sum = true := by kernel_rfl
theorem c17 : chkFn Try.prog fid Try.f17 f_crc_More = true := by kernel_rfl
theorem c18 : chkFn Try.prog fid Try.f18 f_ref04_More = true := by kernel_rfl

theorem hprog : ∀ f F, prog f = some F → ∃ id fn, fid f = some id ∧ Try.prog.funcs[id]? = some fn ∧ chkFn Try.prog fid fn F = true := by
  intro f F h
  unfold prog at h
  split at h <;> cases h
  · exact ⟨3, _, rfl, Try.func3, c3⟩
  · exact ⟨4, _, rfl, Try.func4, c4⟩
  · exact ⟨5, _, rfl, Try.func5, c5⟩
  · exact ⟨6, _, rfl, Try.func6, c6⟩
  · exact ⟨7, _, rfl, Try.func7, c7⟩
  · exact ⟨14, _, rfl, Try.func14, c14⟩
  · exact ⟨15, _, rfl, Try.func15, c15⟩
  · exact ⟨16, _, rfl, Try.func16, c16⟩
  · exact ⟨17, _, rfl, Try.func17, c17⟩
  · exact ⟨18, _, rfl, Try.func18, c18⟩
theorem own : ownKnob Try.prog.godebug = none := by kernel_rfl
theorem laidOut : laidOutB Try.prog = true := by kernel_rfl
end Go.Proofs.Ytgblalimcndgnaa.ChkCrc
