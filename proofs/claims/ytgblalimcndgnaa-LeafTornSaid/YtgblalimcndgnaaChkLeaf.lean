import Derived.Test.YtgblalimcndgnaaRows
import Derived.Test.YtgblalimcndgnaaAMC
import Derived.Test.YtgblalimcndgnaaCrc
import Derived.Test.YtgblalimcndgnaaLeafA
import Derived.KernelRfl
set_option linter.unusedVariables false
set_option linter.unusedSimpArgs false
/- The functions that these laws reach, as they stand in the program. Printed by row.py. -/
namespace Go.Proofs.Ytgblalimcndgnaa.ChkLeaf
open Go.AM

def fid (f : String) : Option FuncId := match f with
  | "haberdash/haberdashlaw07.LeafLays" => some 8
  | "haberdash/haberdashlaw07.LeafTurned" => some 9
  | "haberdash/haberdashlaw07.LeafRoom" => some 10
  | "haberdash/haberdashlaw07.LeafTakes" => some 11
  | "haberdash/haberdashlaw07.LeafBack" => some 12
  | "haberdash/haberdashlaw07.LeafTorn" => some 13
  | "haberdash/haberdashlaw07.awake" => some 19
  | "haberdash/haberdashlaw07.near" => some 20
  | "haberdash/haberdashhelp.Own[byte]" => some 21
  | "haberdash/leaf.Lay" => some 22
  | "haberdash/haberdashref04.Lay" => some 23
  | "haberdash/haberdashhelp.Kept[byte]" => some 24
  | "haberdash/leaf.Take" => some 25
  | "haberdash/haberdashref04.Sum" => some 16
  | "haberdash/haberdashref04.Take" => some 26
  | "haberdash/haberdashhelp.Leaf" => some 27
  | "haberdash/leaf.Mark" => some 28
  | "haberdash/haberdashref04.Mark" => some 29
  | "haberdash/haberdashhelp.Bytes" => some 30
  | "haberdash/leaf.right" => some 31
  | "haberdash/leaf.put" => some 32
  | "haberdash/leaf.flags" => some 33
  | "haberdash/crc.Sum" => some 15
  | "haberdash/haberdashref04.RightLeaf" => some 34
  | "haberdash/haberdashref04.lay" => some 35
  | "haberdash/haberdashhelp.Plain[byte]" => some 36
  | "haberdash/leaf.get" => some 37
  | "bytes.Clone" => some 38
  | "haberdash/haberdashref04.More" => some 18
  | "haberdash/haberdashref04.four" => some 39
  | "haberdash/crc.More" => some 17
  | "haberdash/haberdashhelp.Plain[byte]$1" => some 41
  | "haberdash/haberdashhelp.Same[byte]" => some 40
  | _ => none
def prog (f : String) : Option IFn := match f with
  | "haberdash/haberdashlaw07.LeafLays" => some f_law07_LeafLays
  | "haberdash/haberdashlaw07.LeafTurned" => some f_law07_LeafTurned
  | "haberdash/haberdashlaw07.LeafRoom" => some f_law07_LeafRoom
  | "haberdash/haberdashlaw07.LeafTakes" => some f_law07_LeafTakes
  | "haberdash/haberdashlaw07.LeafBack" => some f_law07_LeafBack
  | "haberdash/haberdashlaw07.LeafTorn" => some f_law07_LeafTorn
  | "haberdash/haberdashlaw07.awake" => some f_law07_awake
  | "haberdash/haberdashlaw07.near" => some f_law07_near
  | "haberdash/haberdashhelp.Own[byte]" => some f_help_Own_byte_
  | "haberdash/leaf.Lay" => some f_leaf_Lay
  | "haberdash/haberdashref04.Lay" => some f_ref04_Lay
  | "haberdash/haberdashhelp.Kept[byte]" => some f_help_Kept_byte_
  | "haberdash/leaf.Take" => some f_leaf_Take
  | "haberdash/haberdashref04.Sum" => some f_ref04_Sum
  | "haberdash/haberdashref04.Take" => some f_ref04_Take
  | "haberdash/haberdashhelp.Leaf" => some f_help_Leaf
  | "haberdash/leaf.Mark" => some f_leaf_Mark
  | "haberdash/haberdashref04.Mark" => some f_ref04_Mark
  | "haberdash/haberdashhelp.Bytes" => some f_help_Bytes
  | "haberdash/leaf.right" => some f_leaf_right
  | "haberdash/leaf.put" => some f_leaf_put
  | "haberdash/leaf.flags" => some f_leaf_flags
  | "haberdash/crc.Sum" => some f_crc_Sum
  | "haberdash/haberdashref04.RightLeaf" => some f_ref04_RightLeaf
  | "haberdash/haberdashref04.lay" => some f_ref04_lay
  | "haberdash/haberdashhelp.Plain[byte]" => some f_help_Plain_byte_
  | "haberdash/leaf.get" => some f_leaf_get
  | "bytes.Clone" => some f_bytes_Clone
  | "haberdash/haberdashref04.More" => some f_ref04_More
  | "haberdash/haberdashref04.four" => some f_ref04_four
  | "haberdash/crc.More" => some f_crc_More
  | "haberdash/haberdashhelp.Plain[byte]$1" => some f_help_Plain_byte__1
  | "haberdash/haberdashhelp.Same[byte]" => some f_help_Same_byte_
  | _ => none

theorem c8 : chkFn Try.prog fid Try.f8 f_law07_LeafLays = true := by kernel_rfl
theorem c9 : chkFn Try.prog fid Try.f9 f_law07_LeafTurned = true := by kernel_rfl
theorem c10 : chkFn Try.prog fid Try.f10 f_law07_LeafRoom = true := by kernel_rfl
theorem c11 : chkFn Try.prog fid Try.f11 f_law07_LeafTakes = true := by kernel_rfl
theorem c12 : chkFn Try.prog fid Try.f12 f_law07_LeafBack = true := by kernel_rfl
theorem c13 : chkFn Try.prog fid Try.f13 f_law07_LeafTorn = true := by kernel_rfl
theorem c19 : chkFn Try.prog fid Try.f19 f_law07_awake = true := by kernel_rfl
theorem c20 : chkFn Try.prog fid Try.f20 f_law07_near = true := by kernel_rfl
theorem c21 : chkFn Try.prog fid Try.f21 f_help_Own_byte_ = true := by kernel_rfl
theorem c22 : chkFn Try.prog fid Try.f22 f_leaf_Lay = true := by kernel_rfl
theorem c23 : chkFn Try.prog fid Try.f23 f_ref04_Lay = true := by kernel_rfl
theorem c24 : chkFn Try.prog fid Try.f24 f_help_Kept_byte_ = true := by kernel_rfl
theorem c25 : chkFn Try.prog fid Try.f25 f_leaf_Take = true := by kernel_rfl
theorem c16 : chkFn Try.prog fid Try.f16 f_ref04_Sum = true := by kernel_rfl
theorem c26 : chkFn Try.prog fid Try.f26 f_ref04_Take = true := by kernel_rfl
theorem c27 : chkFn Try.prog fid Try.f27 f_help_Leaf = true := by kernel_rfl
theorem c28 : chkFn Try.prog fid Try.f28 f_leaf_Mark = true := by kernel_rfl
theorem c29 : chkFn Try.prog fid Try.f29 f_ref04_Mark = true := by kernel_rfl
theorem c30 : chkFn Try.prog fid Try.f30 f_help_Bytes = true := by kernel_rfl
theorem c31 : chkFn Try.prog fid Try.f31 f_leaf_right = true := by kernel_rfl
theorem c32 : chkFn Try.prog fid Try.f32 f_leaf_put = true := by kernel_rfl
theorem c33 : chkFn Try.prog fid Try.f33 f_leaf_flags = true := by kernel_rfl
theorem c15 : chkFn Try.prog fid Try.f15 f_crc_Sum = true := by kernel_rfl
theorem c34 : chkFn Try.prog fid Try.f34 f_ref04_RightLeaf = true := by kernel_rfl
theorem c35 : chkFn Try.prog fid Try.f35 f_ref04_lay = true := by kernel_rfl
theorem c36 : chkFn Try.prog fid Try.f36 f_help_Plain_byte_ = true := by kernel_rfl
theorem c37 : chkFn Try.prog fid Try.f37 f_leaf_get = true := by kernel_rfl
theorem c38 : chkFn Try.prog fid Try.f38 f_bytes_Clone = true := by kernel_rfl
theorem c18 : chkFn Try.prog fid Try.f18 f_ref04_More = true := by kernel_rfl
theorem c39 : chkFn Try.prog fid Try.f39 f_ref04_four = true := by kernel_rfl
theorem c17 : chkFn Try.prog fid Try.f17 f_crc_More = true := by kernel_rfl
theorem c41 : chkFn Try.prog fid Try.f41 f_help_Plain_byte__1 = true := by kernel_rfl
theorem c40 : chkFn Try.prog fid Try.f40 f_help_Same_byte_ = true := by kernel_rfl

theorem hprog : ∀ f F, prog f = some F → ∃ id fn, fid f = some id ∧ Try.prog.funcs[id]? = some fn ∧ chkFn Try.prog fid fn F = true := by
  intro f F h
  unfold prog at h
  split at h <;> cases h
  · exact ⟨8, _, rfl, Try.func8, c8⟩
  · exact ⟨9, _, rfl, Try.func9, c9⟩
  · exact ⟨10, _, rfl, Try.func10, c10⟩
  · exact ⟨11, _, rfl, Try.func11, c11⟩
  · exact ⟨12, _, rfl, Try.func12, c12⟩
  · exact ⟨13, _, rfl, Try.func13, c13⟩
  · exact ⟨19, _, rfl, Try.func19, c19⟩
  · exact ⟨20, _, rfl, Try.func20, c20⟩
  · exact ⟨21, _, rfl, Try.func21, c21⟩
  · exact ⟨22, _, rfl, Try.func22, c22⟩
  · exact ⟨23, _, rfl, Try.func23, c23⟩
  · exact ⟨24, _, rfl, Try.func24, c24⟩
  · exact ⟨25, _, rfl, Try.func25, c25⟩
  · exact ⟨16, _, rfl, Try.func16, c16⟩
  · exact ⟨26, _, rfl, Try.func26, c26⟩
  · exact ⟨27, _, rfl, Try.func27, c27⟩
  · exact ⟨28, _, rfl, Try.func28, c28⟩
  · exact ⟨29, _, rfl, Try.func29, c29⟩
  · exact ⟨30, _, rfl, Try.func30, c30⟩
  · exact ⟨31, _, rfl, Try.func31, c31⟩
  · exact ⟨32, _, rfl, Try.func32, c32⟩
  · exact ⟨33, _, rfl, Try.func33, c33⟩
  · exact ⟨15, _, rfl, Try.func15, c15⟩
  · exact ⟨34, _, rfl, Try.func34, c34⟩
  · exact ⟨35, _, rfl, Try.func35, c35⟩
  · exact ⟨36, _, rfl, Try.func36, c36⟩
  · exact ⟨37, _, rfl, Try.func37, c37⟩
  · exact ⟨38, _, rfl, Try.func38, c38⟩
  · exact ⟨18, _, rfl, Try.func18, c18⟩
  · exact ⟨39, _, rfl, Try.func39, c39⟩
  · exact ⟨17, _, rfl, Try.func17, c17⟩
  · exact ⟨41, _, rfl, Try.func41, c41⟩
  · exact ⟨40, _, rfl, Try.func40, c40⟩
theorem own : ownKnob Try.prog.godebug = none := by kernel_rfl
theorem laidOut : laidOutB Try.prog = true := by kernel_rfl
end Go.Proofs.Ytgblalimcndgnaa.ChkLeaf
