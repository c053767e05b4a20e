import Derived.Test.YtepbjlajgdaipaaRows
import Derived.Test.YtepbjlajgdaipaaAMC
import Derived.Test.YtepbjlajgdaipaaScopeA
import Derived.KernelRfl
set_option linter.unusedVariables false
set_option linter.unusedSimpArgs false
/- The functions that these laws reach, as they stand in the program. Printed by row.py. -/
namespace Go.Proofs.Ytepbjlajgdaipaa.ChkScopeT
open Go.AM

def fid (f : String) : Option FuncId := match f with
  | "haberdash/haberdashlaw11.ScopeTurned" => some 10
  | "haberdash/haberdashplay.Mod" => some 12
  | "haberdash/haberdashlaw11.awake" => some 26
  | "haberdash/scope.Right" => some 28
  | "haberdash/scope.Has" => some 30
  | "(haberdash/scope.names).right" => some 47
  | "(haberdash/scope.names).has" => some 49
  | "haberdash/goods.Rise" => some 39
  | "(haberdash/scope.names).right$1" => some 59
  | "slices.ContainsFunc[haberdash/scope.names,string]" => some 58
  | "slices.Contains[haberdash/scope.names,string]" => some 60
  | "haberdash/goods.Name" => some 15
  | "slices.IndexFunc[haberdash/scope.names,string]" => some 66
  | "slices.Index[haberdash/scope.names,string]" => some 67
  | _ => none
def prog (f : String) : Option IFn := match f with
  | "haberdash/haberdashlaw11.ScopeTurned" => some f_law11_ScopeTurned
  | "haberdash/haberdashplay.Mod" => some f_play_Mod
  | "haberdash/haberdashlaw11.awake" => some f_law11_awake
  | "haberdash/scope.Right" => some f_scope_Right
  | "haberdash/scope.Has" => some f_scope_Has
  | "(haberdash/scope.names).right" => some f__scope_names__right
  | "(haberdash/scope.names).has" => some f__scope_names__has
  | "haberdash/goods.Rise" => some f_goods_Rise
  | "(haberdash/scope.names).right$1" => some f__scope_names__right_1
  | "slices.ContainsFunc[haberdash/scope.names,string]" => some f_slices_ContainsFunc_scope_names_string_
  | "slices.Contains[haberdash/scope.names,string]" => some f_slices_Contains_scope_names_string_
  | "haberdash/goods.Name" => some f_goods_Name
  | "slices.IndexFunc[haberdash/scope.names,string]" => some f_slices_IndexFunc_scope_names_string_
  | "slices.Index[haberdash/scope.names,string]" => some f_slices_Index_scope_names_string_
  | _ => none

theorem c10 : chkFn Try.prog fid Try.f10 f_law11_ScopeTurned = true := by kernel_rfl
theorem c12 : chkFn Try.prog fid Try.f12 f_play_Mod = true := by kernel_rfl
theorem c26 : chkFn Try.prog fid Try.f26 f_law11_awake = true := by kernel_rfl
theorem c28 : chkFn Try.prog fid Try.f28 f_scope_Right = true := by kernel_rfl
theorem c30 : chkFn Try.prog fid Try.f30 f_scope_Has = true := by kernel_rfl
theorem c47 : chkFn Try.prog fid Try.f47 f__scope_names__right = true := by kernel_rfl
theorem c49 : chkFn Try.prog fid Try.f49 f__scope_names__has = true := by kernel_rfl
theorem c39 : chkFn Try.prog fid Try.f39 f_goods_Rise = true := by kernel_rfl
theorem c59 : chkFn Try.prog fid Try.f59 f__scope_names__right_1 = true := by kernel_rfl
theorem c58 : chkFn Try.prog fid Try.f58 f_slices_ContainsFunc_scope_names_string_ = true := by kernel_rfl
theorem c60 : chkFn Try.prog fid Try.f60 f_slices_Contains_scope_names_string_ = true := by kernel_rfl
theorem c15 : chkFn Try.prog fid Try.f15 f_goods_Name = true := by kernel_rfl
theorem c66 : chkFn Try.prog fid Try.f66 f_slices_IndexFunc_scope_names_string_ = true := by kernel_rfl
theorem c67 : chkFn Try.prog fid Try.f67 f_slices_Index_scope_names_string_ = true := by kernel_rfl

theorem hprog : ∀ f F, prog f = some F → ∃ id fn, fid f = some id ∧ Try.prog.funcs[id]? = some fn ∧ chkFn Try.prog fid fn F = true := by
  intro f F h
  unfold prog at h
  split at h <;> cases h
  · exact ⟨10, _, rfl, Try.func10, c10⟩
  · exact ⟨12, _, rfl, Try.func12, c12⟩
  · exact ⟨26, _, rfl, Try.func26, c26⟩
  · exact ⟨28, _, rfl, Try.func28, c28⟩
  · exact ⟨30, _, rfl, Try.func30, c30⟩
  · exact ⟨47, _, rfl, Try.func47, c47⟩
  · exact ⟨49, _, rfl, Try.func49, c49⟩
  · exact ⟨39, _, rfl, Try.func39, c39⟩
  · exact ⟨59, _, rfl, Try.func59, c59⟩
  · exact ⟨58, _, rfl, Try.func58, c58⟩
  · exact ⟨60, _, rfl, Try.func60, c60⟩
  · exact ⟨15, _, rfl, Try.func15, c15⟩
  · exact ⟨66, _, rfl, Try.func66, c66⟩
  · exact ⟨67, _, rfl, Try.func67, c67⟩
theorem own : ownKnob Try.prog.godebug = none := by kernel_rfl
theorem laidOut : laidOutB Try.prog = true := by kernel_rfl
end Go.Proofs.Ytepbjlajgdaipaa.ChkScopeT
