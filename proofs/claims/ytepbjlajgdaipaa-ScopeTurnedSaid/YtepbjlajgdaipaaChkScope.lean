import Derived.Test.YtepbjlajgdaipaaRows
import Derived.Test.YtepbjlajgdaipaaAMC
import Derived.Test.YtepbjlajgdaipaaScopeA
import Derived.KernelRfl
set_option linter.unusedVariables false
set_option linter.unusedSimpArgs false
/- The functions that these laws reach, as they stand in the program. Printed by row.py. -/
namespace Go.Proofs.Ytepbjlajgdaipaa.ChkScope
open Go.AM

def fid (f : String) : Option FuncId := match f with
  | "haberdash/haberdashlaw11.ScopeAll" => some 8
  | "haberdash/haberdashlaw11.ScopeWider" => some 9
  | "haberdash/haberdashlaw11.ScopeTurned" => some 10
  | "haberdash/haberdashlaw11.ScopeNear" => some 11
  | "haberdash/haberdashlaw11.few" => some 25
  | "haberdash/haberdashlaw11.awake" => some 26
  | "haberdash/haberdashhelp.Own[string]" => some 27
  | "haberdash/scope.Right" => some 28
  | "haberdash/haberdashref10.Scope" => some 29
  | "haberdash/scope.Has" => some 30
  | "haberdash/haberdashref10.Has" => some 31
  | "haberdash/haberdashhelp.Kept[string]" => some 32
  | "haberdash/haberdashplay.Scope" => some 33
  | "haberdash/haberdashplay.Sku" => some 13
  | "haberdash/haberdashplay.Category" => some 34
  | "haberdash/haberdashplay.Mod" => some 12
  | "haberdash/haberdashplay.Items" => some 17
  | "haberdash/scope.Index" => some 36
  | "haberdash/haberdashref10.Index" => some 37
  | "haberdash/haberdashhelp.Lists" => some 35
  | "(haberdash/scope.names).right" => some 47
  | "haberdash/haberdashref10.names" => some 48
  | "(haberdash/scope.names).has" => some 49
  | "haberdash/haberdashref10.has" => some 50
  | "haberdash/haberdashhelp.Plain[string]" => some 51
  | "haberdash/haberdashplay.some" => some 52
  | "haberdash/haberdashplay.pick" => some 38
  | "haberdash/haberdashplay.Mod64" => some 24
  | "haberdash/haberdashhelp.Plain[int]" => some 54
  | "haberdash/haberdashhelp.Same[[]int]" => some 53
  | "haberdash/goods.Rise" => some 39
  | "(haberdash/scope.names).right$1" => some 59
  | "slices.ContainsFunc[haberdash/scope.names,string]" => some 58
  | "haberdash/haberdashref10.Name" => some 16
  | "slices.Contains[haberdash/scope.names,string]" => some 60
  | "haberdash/haberdashhelp.Plain[string]$1" => some 62
  | "haberdash/haberdashhelp.Same[string]" => some 61
  | "haberdash/haberdashhelp.Plain[int]$1" => some 64
  | "haberdash/haberdashhelp.Same[int]" => some 63
  | "haberdash/goods.Name" => some 15
  | "slices.IndexFunc[haberdash/scope.names,string]" => some 66
  | "slices.Index[haberdash/scope.names,string]" => some 67
  | _ => none
def prog (f : String) : Option IFn := match f with
  | "haberdash/haberdashlaw11.ScopeAll" => some f_law11_ScopeAll
  | "haberdash/haberdashlaw11.ScopeWider" => some f_law11_ScopeWider
  | "haberdash/haberdashlaw11.ScopeTurned" => some f_law11_ScopeTurned
  | "haberdash/haberdashlaw11.ScopeNear" => some f_law11_ScopeNear
  | "haberdash/haberdashlaw11.few" => some f_law11_few
  | "haberdash/haberdashlaw11.awake" => some f_law11_awake
  | "haberdash/haberdashhelp.Own[string]" => some f_help_Own_string_
  | "haberdash/scope.Right" => some f_scope_Right
  | "haberdash/haberdashref10.Scope" => some f_ref10_Scope
  | "haberdash/scope.Has" => some f_scope_Has
  | "haberdash/haberdashref10.Has" => some f_ref10_Has
  | "haberdash/haberdashhelp.Kept[string]" => some f_help_Kept_string_
  | "haberdash/haberdashplay.Scope" => some f_play_Scope
  | "haberdash/haberdashplay.Sku" => some f_play_Sku
  | "haberdash/haberdashplay.Category" => some f_play_Category
  | "haberdash/haberdashplay.Mod" => some f_play_Mod
  | "haberdash/haberdashplay.Items" => some f_play_Items
  | "haberdash/scope.Index" => some f_scope_Index
  | "haberdash/haberdashref10.Index" => some f_ref10_Index
  | "haberdash/haberdashhelp.Lists" => some f_help_Lists
  | "(haberdash/scope.names).right" => some f__scope_names__right
  | "haberdash/haberdashref10.names" => some f_ref10_names
  | "(haberdash/scope.names).has" => some f__scope_names__has
  | "haberdash/haberdashref10.has" => some f_ref10_has
  | "haberdash/haberdashhelp.Plain[string]" => some f_help_Plain_string_
  | "haberdash/haberdashplay.some" => some f_play_some
  | "haberdash/haberdashplay.pick" => some f_play_pick
  | "haberdash/haberdashplay.Mod64" => some f_play_Mod64
  | "haberdash/haberdashhelp.Plain[int]" => some f_help_Plain_int_
  | "haberdash/haberdashhelp.Same[[]int]" => some f_help_Same___int_
  | "haberdash/goods.Rise" => some f_goods_Rise
  | "(haberdash/scope.names).right$1" => some f__scope_names__right_1
  | "slices.ContainsFunc[haberdash/scope.names,string]" => some f_slices_ContainsFunc_scope_names_string_
  | "haberdash/haberdashref10.Name" => some f_ref10_Name
  | "slices.Contains[haberdash/scope.names,string]" => some f_slices_Contains_scope_names_string_
  | "haberdash/haberdashhelp.Plain[string]$1" => some f_help_Plain_string__1
  | "haberdash/haberdashhelp.Same[string]" => some f_help_Same_string_
  | "haberdash/haberdashhelp.Plain[int]$1" => some f_help_Plain_int__1
  | "haberdash/haberdashhelp.Same[int]" => some f_help_Same_int_
  | "haberdash/goods.Name" => some f_goods_Name
  | "slices.IndexFunc[haberdash/scope.names,string]" => some f_slices_IndexFunc_scope_names_string_
  | "slices.Index[haberdash/scope.names,string]" => some f_slices_Index_scope_names_string_
  | _ => none

theorem c8 : chkFn Try.prog fid Try.f8 f_law11_ScopeAll = true := by kernel_rfl
theorem c9 : chkFn Try.prog fid Try.f9 f_law11_ScopeWider = true := by kernel_rfl
theorem c10 : chkFn Try.prog fid Try.f10 f_law11_ScopeTurned = true := by kernel_rfl
theorem c11 : chkFn Try.prog fid Try.f11 f_law11_ScopeNear = true := by kernel_rfl
theorem c25 : chkFn Try.prog fid Try.f25 f_law11_few = true := by kernel_rfl
theorem c26 : chkFn Try.prog fid Try.f26 f_law11_awake = true := by kernel_rfl
theorem c27 : chkFn Try.prog fid Try.f27 f_help_Own_string_ = true := by kernel_rfl
theorem c28 : chkFn Try.prog fid Try.f28 f_scope_Right = true := by kernel_rfl
theorem c29 : chkFn Try.prog fid Try.f29 f_ref10_Scope = true := by kernel_rfl
theorem c30 : chkFn Try.prog fid Try.f30 f_scope_Has = true := by kernel_rfl
theorem c31 : chkFn Try.prog fid Try.f31 f_ref10_Has = true := by kernel_rfl
theorem c32 : chkFn Try.prog fid Try.f32 f_help_Kept_string_ = true := by kernel_rfl
theorem c33 : chkFn Try.prog fid Try.f33 f_play_Scope = true := by kernel_rfl
theorem c13 : chkFn Try.prog fid Try.f13 f_play_Sku = true := by kernel_rfl
theorem c34 : chkFn Try.prog fid Try.f34 f_play_Category = true := by kernel_rfl
theorem c12 : chkFn Try.prog fid Try.f12 f_play_Mod = true := by kernel_rfl
theorem c17 : chkFn Try.prog fid Try.f17 f_play_Items = true := by kernel_rfl
theorem c36 : chkFn Try.prog fid Try.f36 f_scope_Index = true := by kernel_rfl
theorem c37 : chkFn Try.prog fid Try.f37 f_ref10_Index = true := by kernel_rfl
theorem c35 : chkFn Try.prog fid Try.f35 f_help_Lists = true := by kernel_rfl
theorem c47 : chkFn Try.prog fid Try.f47 f__scope_names__right = true := by kernel_rfl
theorem c48 : chkFn Try.prog fid Try.f48 f_ref10_names = true := by kernel_rfl
theorem c49 : chkFn Try.prog fid Try.f49 f__scope_names__has = true := by kernel_rfl
theorem c50 : chkFn Try.prog fid Try.f50 f_ref10_has = true := by kernel_rfl
theorem c51 : chkFn Try.prog fid Try.f51 f_help_Plain_string_ = true := by kernel_rfl
theorem c52 : chkFn Try.prog fid Try.f52 f_play_some = true := by kernel_rfl
theorem c38 : chkFn Try.prog fid Try.f38 f_play_pick = true := by kernel_rfl
theorem c24 : chkFn Try.prog fid Try.f24 f_play_Mod64 = true := by kernel_rfl
theorem c54 : chkFn Try.prog fid Try.f54 f_help_Plain_int_ = true := by kernel_rfl
theorem c53 : chkFn Try.prog fid Try.f53 f_help_Same___int_ = true := by kernel_rfl
theorem c39 : chkFn Try.prog fid Try.f39 f_goods_Rise = true := by kernel_rfl
theorem c59 : chkFn Try.prog fid Try.f59 f__scope_names__right_1 = true := by kernel_rfl
theorem c58 : chkFn Try.prog fid Try.f58 f_slices_ContainsFunc_scope_names_string_ = true := by kernel_rfl
theorem c16 : chkFn Try.prog fid Try.f16 f_ref10_Name = true := by kernel_rfl
theorem c60 : chkFn Try.prog fid Try.f60 f_slices_Contains_scope_names_string_ = true := by kernel_rfl
theorem c62 : chkFn Try.prog fid Try.f62 f_help_Plain_string__1 = true := by kernel_rfl
theorem c61 : chkFn Try.prog fid Try.f61 f_help_Same_string_ = true := by kernel_rfl
theorem c64 : chkFn Try.prog fid Try.f64 f_help_Plain_int__1 = true := by kernel_rfl
theorem c63 : chkFn Try.prog fid Try.f63 f_help_Same_int_ = true := by kernel_rfl
theorem c15 : chkFn Try.prog fid Try.f15 f_goods_Name = true := by kernel_rfl
theorem c66 : chkFn Try.prog fid Try.f66 f_slices_IndexFunc_scope_names_string_ = true := by kernel_rfl
theorem c67 : chkFn Try.prog fid Try.f67 f_slices_Index_scope_names_string_ = true := by kernel_rfl

theorem hprog : ∀ f F, prog f = some F → ∃ id fn, fid f = some id ∧ Try.prog.funcs[id]? = some fn ∧ chkFn Try.prog fid fn F = true := by
  intro f F h
  unfold prog at h
  split at h <;> cases h
  · exact ⟨8, _, rfl, Try.func8, c8⟩
  · exact ⟨9, _, rfl, Try.func9, c9⟩
  · exact ⟨10, _, rfl, Try.func10, c10⟩
  · exact ⟨11, _, rfl, Try.func11, c11⟩
  · exact ⟨25, _, rfl, Try.func25, c25⟩
  · exact ⟨26, _, rfl, Try.func26, c26⟩
  · exact ⟨27, _, rfl, Try.func27, c27⟩
  · exact ⟨28, _, rfl, Try.func28, c28⟩
  · exact ⟨29, _, rfl, Try.func29, c29⟩
  · exact ⟨30, _, rfl, Try.func30, c30⟩
  · exact ⟨31, _, rfl, Try.func31, c31⟩
  · exact ⟨32, _, rfl, Try.func32, c32⟩
  · exact ⟨33, _, rfl, Try.func33, c33⟩
  · exact ⟨13, _, rfl, Try.func13, c13⟩
  · exact ⟨34, _, rfl, Try.func34, c34⟩
  · exact ⟨12, _, rfl, Try.func12, c12⟩
  · exact ⟨17, _, rfl, Try.func17, c17⟩
  · exact ⟨36, _, rfl, Try.func36, c36⟩
  · exact ⟨37, _, rfl, Try.func37, c37⟩
  · exact ⟨35, _, rfl, Try.func35, c35⟩
  · exact ⟨47, _, rfl, Try.func47, c47⟩
  · exact ⟨48, _, rfl, Try.func48, c48⟩
  · exact ⟨49, _, rfl, Try.func49, c49⟩
  · exact ⟨50, _, rfl, Try.func50, c50⟩
  · exact ⟨51, _, rfl, Try.func51, c51⟩
  · exact ⟨52, _, rfl, Try.func52, c52⟩
  · exact ⟨38, _, rfl, Try.func38, c38⟩
  · exact ⟨24, _, rfl, Try.func24, c24⟩
  · exact ⟨54, _, rfl, Try.func54, c54⟩
  · exact ⟨53, _, rfl, Try.func53, c53⟩
  · exact ⟨39, _, rfl, Try.func39, c39⟩
  · exact ⟨59, _, rfl, Try.func59, c59⟩
  · exact ⟨58, _, rfl, Try.func58, c58⟩
  · exact ⟨16, _, rfl, Try.func16, c16⟩
  · exact ⟨60, _, rfl, Try.func60, c60⟩
  · exact ⟨62, _, rfl, Try.func62, c62⟩
  · exact ⟨61, _, rfl, Try.func61, c61⟩
  · exact ⟨64, _, rfl, Try.func64, c64⟩
  · exact ⟨63, _, rfl, Try.func63, c63⟩
  · exact ⟨15, _, rfl, Try.func15, c15⟩
  · exact ⟨66, _, rfl, Try.func66, c66⟩
  · exact ⟨67, _, rfl, Try.func67, c67⟩
theorem own : ownKnob Try.prog.godebug = none := by kernel_rfl
theorem laidOut : laidOutB Try.prog = true := by kernel_rfl
end Go.Proofs.Ytepbjlajgdaipaa.ChkScope
