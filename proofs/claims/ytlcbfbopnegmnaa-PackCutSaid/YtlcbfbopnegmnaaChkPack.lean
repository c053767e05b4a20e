import Derived.Test.YtlcbfbopnegmnaaRows
import Derived.Test.YtlcbfbopnegmnaaAMC
import Derived.Test.YtlcbfbopnegmnaaCrc
import Derived.Test.YtlcbfbopnegmnaaLeafA
import Derived.Test.YtlcbfbopnegmnaaHelp
import Derived.Test.YtlcbfbopnegmnaaScopeA
import Derived.Test.YtlcbfbopnegmnaaSortA
import Derived.Test.YtlcbfbopnegmnaaPackA
import Derived.KernelRfl
set_option linter.unusedVariables false
set_option linter.unusedSimpArgs false
namespace Go.Proofs.Ytlcbfbopnegmnaa.ChkPack
open Go.AM
def fid (f : String) : Option FuncId := match f with
  | "haberdash/haberdashlaw04.PackWrites" => some 6
  | "haberdash/haberdashlaw04.PackBack" => some 7
  | "haberdash/haberdashlaw04.PackCut" => some 8
  | "haberdash/haberdashlaw04.PackForms" => some 3
  | "haberdash/haberdashlaw04.PackNil" => some 9
  | "haberdash/haberdashlaw04.few" => some 28
  | "haberdash/haberdashlaw04.awake" => some 15
  | "(haberdash/haberdashlaw04.Step).kind" => some 29
  | "(*haberdash/pack.Writer).Num" => some 30
  | "(*haberdash/pack.Writer).Text" => some 31
  | "(*haberdash/pack.Writer).Flag" => some 32
  | "(*haberdash/pack.Writer).Bytes" => some 33
  | "haberdash/haberdashhelp.Spoil[byte]" => some 34
  | "haberdash/haberdashlaw04.write" => some 36
  | "haberdash/haberdashhelp.Bytes" => some 35
  | "haberdash/pack.Read" => some 14
  | "(*haberdash/pack.Reader).Num" => some 16
  | "(*haberdash/pack.Reader).Text" => some 37
  | "(*haberdash/pack.Reader).Flag" => some 38
  | "(*haberdash/pack.Reader).Err" => some 17
  | "(*haberdash/pack.Reader).End" => some 39
  | "haberdash/haberdashref04.Num" => some 13
  | "haberdash/haberdashref04.Text" => some 40
  | "slices.Clone[[]byte,byte]" => some 47
  | "haberdash/haberdashref04.Flag" => some 55
  | "(*haberdash/pack.Reader).length" => some 48
  | "(*haberdash/pack.Reader).fail" => some 49
  | "(*haberdash/pack.Reader).text" => some 56
  | _ => none
def prog (f : String) : Option IFn := match f with
  | "haberdash/haberdashlaw04.PackWrites" => some f_law04_PackWrites
  | "haberdash/haberdashlaw04.PackBack" => some f_law04_PackBack
  | "haberdash/haberdashlaw04.PackCut" => some f_law04_PackCut
  | "haberdash/haberdashlaw04.PackForms" => some f_law04_PackForms
  | "haberdash/haberdashlaw04.PackNil" => some f_law04_PackNil
  | "haberdash/haberdashlaw04.few" => some f_law04_few
  | "haberdash/haberdashlaw04.awake" => some f_law04_awake
  | "(haberdash/haberdashlaw04.Step).kind" => some f__law04_Step__kind
  | "(*haberdash/pack.Writer).Num" => some f___pack_Writer__Num
  | "(*haberdash/pack.Writer).Text" => some f___pack_Writer__Text
  | "(*haberdash/pack.Writer).Flag" => some f___pack_Writer__Flag
  | "(*haberdash/pack.Writer).Bytes" => some f___pack_Writer__Bytes
  | "haberdash/haberdashhelp.Spoil[byte]" => some f_help_Spoil_byte_
  | "haberdash/haberdashlaw04.write" => some f_law04_write
  | "haberdash/haberdashhelp.Bytes" => some f_help_Bytes
  | "haberdash/pack.Read" => some f_pack_Read
  | "(*haberdash/pack.Reader).Num" => some f___pack_Reader__Num
  | "(*haberdash/pack.Reader).Text" => some f___pack_Reader__Text
  | "(*haberdash/pack.Reader).Flag" => some f___pack_Reader__Flag
  | "(*haberdash/pack.Reader).Err" => some f___pack_Reader__Err
  | "(*haberdash/pack.Reader).End" => some f___pack_Reader__End
  | "haberdash/haberdashref04.Num" => some f_ref04_Num
  | "haberdash/haberdashref04.Text" => some f_ref04_Text
  | "slices.Clone[[]byte,byte]" => some f_slices_Clone___byte_byte_
  | "haberdash/haberdashref04.Flag" => some f_ref04_Flag
  | "(*haberdash/pack.Reader).length" => some f___pack_Reader__length
  | "(*haberdash/pack.Reader).fail" => some f___pack_Reader__fail
  | "(*haberdash/pack.Reader).text" => some f___pack_Reader__text
  | _ => none
theorem c6 : chkFn Try.prog fid Try.f6 f_law04_PackWrites = true := by kernel_rfl
theorem c7 : chkFn Try.prog fid Try.f7 f_law04_PackBack = true := by kernel_rfl
theorem c8 : chkFn Try.prog fid Try.f8 f_law04_PackCut = true := by kernel_rfl
theorem c3 : chkFn Try.prog fid Try.f3 f_law04_PackForms = true := by kernel_rfl
theorem c9 : chkFn Try.prog fid Try.f9 f_law04_PackNil = true := by kernel_rfl
theorem c28 : chkFn Try.prog fid Try.f28 f_law04_few = true := by kernel_rfl
theorem c15 : chkFn Try.prog fid Try.f15 f_law04_awake = true := by kernel_rfl
theorem c29 : chkFn Try.prog fid Try.f29 f__law04_Step__kind = true := by kernel_rfl
theorem c30 : chkFn Try.prog fid Try.f30 f___pack_Writer__Num = true := by kernel_rfl
theorem c31 : chkFn Try.prog fid Try.f31 f___pack_Writer__Text = true := by kernel_rfl
theorem c32 : chkFn Try.prog fid Try.f32 f___pack_Writer__Flag = true := by kernel_rfl
theorem c33 : chkFn Try.prog fid Try.f33 f___pack_Writer__Bytes = true := by kernel_rfl
theorem c34 : chkFn Try.prog fid Try.f34 f_help_Spoil_byte_ = true := by kernel_rfl
theorem c36 : chkFn Try.prog fid Try.f36 f_law04_write = true := by kernel_rfl
theorem c35 : chkFn Try.prog fid Try.f35 f_help_Bytes = true := by kernel_rfl
theorem c14 : chkFn Try.prog fid Try.f14 f_pack_Read = true := by kernel_rfl
theorem c16 : chkFn Try.prog fid Try.f16 f___pack_Reader__Num = true := by kernel_rfl
theorem c37 : chkFn Try.prog fid Try.f37 f___pack_Reader__Text = true := by kernel_rfl
theorem c38 : chkFn Try.prog fid Try.f38 f___pack_Reader__Flag = true := by kernel_rfl
theorem c17 : chkFn Try.prog fid Try.f17 f___pack_Reader__Err = true := by kernel_rfl
theorem c39 : chkFn Try.prog fid Try.f39 f___pack_Reader__End = true := by kernel_rfl
theorem c13 : chkFn Try.prog fid Try.f13 f_ref04_Num = true := by kernel_rfl
theorem c40 : chkFn Try.prog fid Try.f40 f_ref04_Text = true := by kernel_rfl
theorem c47 : chkFn Try.prog fid Try.f47 f_slices_Clone___byte_byte_ = true := by kernel_rfl
theorem c55 : chkFn Try.prog fid Try.f55 f_ref04_Flag = true := by kernel_rfl
theorem c48 : chkFn Try.prog fid Try.f48 f___pack_Reader__length = true := by kernel_rfl
theorem c49 : chkFn Try.prog fid Try.f49 f___pack_Reader__fail = true := by kernel_rfl
theorem c56 : chkFn Try.prog fid Try.f56 f___pack_Reader__text = true := by kernel_rfl
theorem hprog : ∀ f F, prog f = some F → ∃ id fn, fid f = some id ∧ Try.prog.funcs[id]? = some fn ∧ chkFn Try.prog fid fn F = true := by
  intro f F h
  unfold prog at h
  split at h <;> cases h
  · exact ⟨6, _, rfl, Try.func6, c6⟩
  · exact ⟨7, _, rfl, Try.func7, c7⟩
  · exact ⟨8, _, rfl, Try.func8, c8⟩
  · exact ⟨3, _, rfl, Try.func3, c3⟩
  · exact ⟨9, _, rfl, Try.func9, c9⟩
  · exact ⟨28, _, rfl, Try.func28, c28⟩
  · exact ⟨15, _, rfl, Try.func15, c15⟩
  · exact ⟨29, _, rfl, Try.func29, c29⟩
  · exact ⟨30, _, rfl, Try.func30, c30⟩
  · exact ⟨31, _, rfl, Try.func31, c31⟩
  · exact ⟨32, _, rfl, Try.func32, c32⟩
  · exact ⟨33, _, rfl, Try.func33, c33⟩
  · exact ⟨34, _, rfl, Try.func34, c34⟩
  · exact ⟨36, _, rfl, Try.func36, c36⟩
  · exact ⟨35, _, rfl, Try.func35, c35⟩
  · exact ⟨14, _, rfl, Try.func14, c14⟩
  · exact ⟨16, _, rfl, Try.func16, c16⟩
  · exact ⟨37, _, rfl, Try.func37, c37⟩
  · exact ⟨38, _, rfl, Try.func38, c38⟩
  · exact ⟨17, _, rfl, Try.func17, c17⟩
  · exact ⟨39, _, rfl, Try.func39, c39⟩
  · exact ⟨13, _, rfl, Try.func13, c13⟩
  · exact ⟨40, _, rfl, Try.func40, c40⟩
  · exact ⟨47, _, rfl, Try.func47, c47⟩
  · exact ⟨55, _, rfl, Try.func55, c55⟩
  · exact ⟨48, _, rfl, Try.func48, c48⟩
  · exact ⟨49, _, rfl, Try.func49, c49⟩
  · exact ⟨56, _, rfl, Try.func56, c56⟩
theorem own : ownKnob Try.prog.godebug = none := by kernel_rfl
theorem laidOut : laidOutB Try.prog = true := by kernel_rfl
end Go.Proofs.Ytlcbfbopnegmnaa.ChkPack
