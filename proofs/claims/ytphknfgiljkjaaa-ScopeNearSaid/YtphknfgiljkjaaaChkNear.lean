import Derived.Test.YtphknfgiljkjaaaRows
import Derived.Test.YtphknfgiljkjaaaNearV
import Derived.Test.YtphknfgiljkjaaaAMC
import Derived.Test.YtphknfgiljkjaaaCrc
import Derived.Test.YtphknfgiljkjaaaLeafA
import Derived.Test.YtphknfgiljkjaaaHelp
import Derived.Test.YtphknfgiljkjaaaScopeA
import Derived.KernelRfl
set_option linter.unusedVariables false
set_option linter.unusedSimpArgs false
namespace Go.Proofs.Ytphknfgiljkjaaa.ChkNear
open Go.AM
def fid (f : String) : Option FuncId := match f with
  | "haberdash/haberdashlaw11.ScopeNear" => some 6
  | "haberdash/haberdashlaw11.few" => some 12
  | "haberdash/haberdashlaw11.awake" => some 13
  | "haberdash/haberdashplay.Scope" => some 20
  | "haberdash/scope.Right" => some 15
  | "haberdash/haberdashplay.Items" => some 24
  | "haberdash/scope.Index" => some 26
  | "haberdash/haberdashref10.Index" => some 27
  | "haberdash/haberdashhelp.Lists" => some 25
  | "haberdash/haberdashhelp.Own[string]" => some 14
  | "haberdash/haberdashref10.Scope" => some 16
  | "haberdash/scope.Has" => some 17
  | "haberdash/haberdashref10.Has" => some 18
  | "haberdash/haberdashhelp.Kept[string]" => some 19
  | "haberdash/haberdashplay.Sku" => some 21
  | "haberdash/haberdashplay.Category" => some 22
  | "haberdash/haberdashplay.some" => some 43
  | "(haberdash/scope.names).right" => some 38
  | "haberdash/haberdashplay.pick" => some 44
  | "haberdash/haberdashplay.Mod64" => some 37
  | "(haberdash/scope.names).has" => some 40
  | "haberdash/haberdashhelp.Plain[int]" => some 46
  | "haberdash/haberdashhelp.Same[[]int]" => some 45
  | "haberdash/haberdashref10.names" => some 39
  | "haberdash/haberdashref10.has" => some 41
  | "haberdash/haberdashhelp.Plain[string]" => some 42
  | "haberdash/haberdashplay.Mod" => some 23
  | "haberdash/goods.Rise" => some 47
  | "(haberdash/scope.names).right$1" => some 56
  | "slices.ContainsFunc[haberdash/scope.names,string]" => some 55
  | "slices.Contains[haberdash/scope.names,string]" => some 57
  | "haberdash/haberdashhelp.Plain[int]$1" => some 61
  | "haberdash/haberdashhelp.Same[int]" => some 60
  | "haberdash/haberdashref10.Name" => some 30
  | "haberdash/haberdashhelp.Plain[string]$1" => some 59
  | "haberdash/haberdashhelp.Same[string]" => some 58
  | "haberdash/goods.Name" => some 29
  | "slices.IndexFunc[haberdash/scope.names,string]" => some 65
  | "slices.Index[haberdash/scope.names,string]" => some 66
  | _ => none
def prog (f : String) : Option IFn := match f with
  | "haberdash/haberdashlaw11.ScopeNear" => some f_law11_ScopeNear
  | "haberdash/haberdashlaw11.few" => some f_law11_few
  | "haberdash/haberdashlaw11.awake" => some f_law11_awake
  | "haberdash/haberdashplay.Scope" => some f_play_Scope
  | "haberdash/scope.Right" => some f_scope_Right
  | "haberdash/haberdashplay.Items" => some f_play_Items
  | "haberdash/scope.Index" => some xFn
  | "haberdash/haberdashref10.Index" => some f_ref10_Index
  | "haberdash/haberdashhelp.Lists" => some f_help_Lists
  | "haberdash/haberdashhelp.Own[string]" => some f_help_Own_string_
  | "haberdash/haberdashref10.Scope" => some f_ref10_Scope
  | "haberdash/scope.Has" => some f_scope_Has
  | "haberdash/haberdashref10.Has" => some f_ref10_Has
  | "haberdash/haberdashhelp.Kept[string]" => some f_help_Kept_string_
  | "haberdash/haberdashplay.Sku" => some f_play_Sku
  | "haberdash/haberdashplay.Category" => some f_play_Category
  | "haberdash/haberdashplay.some" => some f_play_some
  | "(haberdash/scope.names).right" => some f__scope_names__right
  | "haberdash/haberdashplay.pick" => some f_play_pick
  | "haberdash/haberdashplay.Mod64" => some f_play_Mod64
  | "(haberdash/scope.names).has" => some f__scope_names__has
  | "haberdash/haberdashhelp.Plain[int]" => some f_help_Plain_int_
  | "haberdash/haberdashhelp.Same[[]int]" => some f_help_Same___int_
  | "haberdash/haberdashref10.names" => some f_ref10_names
  | "haberdash/haberdashref10.has" => some f_ref10_has
  | "haberdash/haberdashhelp.Plain[string]" => some f_help_Plain_string_
  | "haberdash/haberdashplay.Mod" => some f_play_Mod
  | "haberdash/goods.Rise" => some f_goods_Rise
  | "(haberdash/scope.names).right$1" => some f__scope_names__right_1
  | "slices.ContainsFunc[haberdash/scope.names,string]" => some f_slices_ContainsFunc_scope_names_string_
  | "slices.Contains[haberdash/scope.names,string]" => some f_slices_Contains_scope_names_string_
  | "haberdash/haberdashhelp.Plain[int]$1" => some f_help_Plain_int__1
  | "haberdash/haberdashhelp.Same[int]" => some f_help_Same_int_
  | "haberdash/haberdashref10.Name" => some f_ref10_Name
  | "haberdash/haberdashhelp.Plain[string]$1" => some f_help_Plain_string__1
  | "haberdash/haberdashhelp.Same[string]" => some f_help_Same_string_
  | "haberdash/goods.Name" => some f_goods_Name
  | "slices.IndexFunc[haberdash/scope.names,string]" => some f_slices_IndexFunc_scope_names_string_
  | "slices.Index[haberdash/scope.names,string]" => some f_slices_Index_scope_names_string_
  | _ => none
def prog0 (f : String) : Option IFn := match f with
  | "haberdash/haberdashlaw11.ScopeNear" => some f_law11_ScopeNear
  | "haberdash/haberdashlaw11.few" => some f_law11_few
  | "haberdash/haberdashlaw11.awake" => some f_law11_awake
  | "haberdash/haberdashplay.Scope" => some f_play_Scope
  | "haberdash/scope.Right" => some f_scope_Right
  | "haberdash/haberdashplay.Items" => some f_play_Items
  | "haberdash/haberdashref10.Index" => some f_ref10_Index
  | "haberdash/haberdashhelp.Lists" => some f_help_Lists
  | "haberdash/haberdashhelp.Own[string]" => some f_help_Own_string_
  | "haberdash/haberdashref10.Scope" => some f_ref10_Scope
  | "haberdash/scope.Has" => some f_scope_Has
  | "haberdash/haberdashref10.Has" => some f_ref10_Has
  | "haberdash/haberdashhelp.Kept[string]" => some f_help_Kept_string_
  | "haberdash/haberdashplay.Sku" => some f_play_Sku
  | "haberdash/haberdashplay.Category" => some f_play_Category
  | "haberdash/haberdashplay.some" => some f_play_some
  | "(haberdash/scope.names).right" => some f__scope_names__right
  | "haberdash/haberdashplay.pick" => some f_play_pick
  | "haberdash/haberdashplay.Mod64" => some f_play_Mod64
  | "(haberdash/scope.names).has" => some f__scope_names__has
  | "haberdash/haberdashhelp.Plain[int]" => some f_help_Plain_int_
  | "haberdash/haberdashhelp.Same[[]int]" => some f_help_Same___int_
  | "haberdash/haberdashref10.names" => some f_ref10_names
  | "haberdash/haberdashref10.has" => some f_ref10_has
  | "haberdash/haberdashhelp.Plain[string]" => some f_help_Plain_string_
  | "haberdash/haberdashplay.Mod" => some f_play_Mod
  | "haberdash/goods.Rise" => some f_goods_Rise
  | "(haberdash/scope.names).right$1" => some f__scope_names__right_1
  | "slices.ContainsFunc[haberdash/scope.names,string]" => some f_slices_ContainsFunc_scope_names_string_
  | "slices.Contains[haberdash/scope.names,string]" => some f_slices_Contains_scope_names_string_
  | "haberdash/haberdashhelp.Plain[int]$1" => some f_help_Plain_int__1
  | "haberdash/haberdashhelp.Same[int]" => some f_help_Same_int_
  | "haberdash/haberdashref10.Name" => some f_ref10_Name
  | "haberdash/haberdashhelp.Plain[string]$1" => some f_help_Plain_string__1
  | "haberdash/haberdashhelp.Same[string]" => some f_help_Same_string_
  | "haberdash/goods.Name" => some f_goods_Name
  | "slices.IndexFunc[haberdash/scope.names,string]" => some f_slices_IndexFunc_scope_names_string_
  | "slices.Index[haberdash/scope.names,string]" => some f_slices_Index_scope_names_string_
  | _ => none
theorem c6 : chkFn Try.prog fid Try.f6 f_law11_ScopeNear = true := by kernel_rfl
theorem c12 : chkFn Try.prog fid Try.f12 f_law11_few = true := by kernel_rfl
theorem c13 : chkFn Try.prog fid Try.f13 f_law11_awake = true := by kernel_rfl
theorem c20 : chkFn Try.prog fid Try.f20 f_play_Scope = true := by kernel_rfl
theorem c15 : chkFn Try.prog fid Try.f15 f_scope_Right = true := by kernel_rfl
theorem c24 : chkFn Try.prog fid Try.f24 f_play_Items = true := by kernel_rfl
theorem c27 : chkFn Try.prog fid Try.f27 f_ref10_Index = true := by kernel_rfl
theorem c25 : chkFn Try.prog fid Try.f25 f_help_Lists = true := by kernel_rfl
theorem c14 : chkFn Try.prog fid Try.f14 f_help_Own_string_ = true := by kernel_rfl
theorem c16 : chkFn Try.prog fid Try.f16 f_ref10_Scope = true := by kernel_rfl
theorem c17 : chkFn Try.prog fid Try.f17 f_scope_Has = true := by kernel_rfl
theorem c18 : chkFn Try.prog fid Try.f18 f_ref10_Has = true := by kernel_rfl
theorem c19 : chkFn Try.prog fid Try.f19 f_help_Kept_string_ = true := by kernel_rfl
theorem c21 : chkFn Try.prog fid Try.f21 f_play_Sku = true := by kernel_rfl
theorem c22 : chkFn Try.prog fid Try.f22 f_play_Category = true := by kernel_rfl
theorem c43 : chkFn Try.prog fid Try.f43 f_play_some = true := by kernel_rfl
theorem c38 : chkFn Try.prog fid Try.f38 f__scope_names__right = true := by kernel_rfl
theorem c44 : chkFn Try.prog fid Try.f44 f_play_pick = true := by kernel_rfl
theorem c37 : chkFn Try.prog fid Try.f37 f_play_Mod64 = true := by kernel_rfl
theorem c40 : chkFn Try.prog fid Try.f40 f__scope_names__has = true := by kernel_rfl
theorem c46 : chkFn Try.prog fid Try.f46 f_help_Plain_int_ = true := by kernel_rfl
theorem c45 : chkFn Try.prog fid Try.f45 f_help_Same___int_ = true := by kernel_rfl
theorem c39 : chkFn Try.prog fid Try.f39 f_ref10_names = true := by kernel_rfl
theorem c41 : chkFn Try.prog fid Try.f41 f_ref10_has = true := by kernel_rfl
theorem c42 : chkFn Try.prog fid Try.f42 f_help_Plain_string_ = true := by kernel_rfl
theorem c23 : chkFn Try.prog fid Try.f23 f_play_Mod = true := by kernel_rfl
theorem c47 : chkFn Try.prog fid Try.f47 f_goods_Rise = true := by kernel_rfl
theorem c56 : chkFn Try.prog fid Try.f56 f__scope_names__right_1 = true := by kernel_rfl
theorem c55 : chkFn Try.prog fid Try.f55 f_slices_ContainsFunc_scope_names_string_ = true := by kernel_rfl
theorem c57 : chkFn Try.prog fid Try.f57 f_slices_Contains_scope_names_string_ = true := by kernel_rfl
theorem c61 : chkFn Try.prog fid Try.f61 f_help_Plain_int__1 = true := by kernel_rfl
theorem c60 : chkFn Try.prog fid Try.f60 f_help_Same_int_ = true := by kernel_rfl
theorem c30 : chkFn Try.prog fid Try.f30 f_ref10_Name = true := by kernel_rfl
theorem c59 : chkFn Try.prog fid Try.f59 f_help_Plain_string__1 = true := by kernel_rfl
theorem c58 : chkFn Try.prog fid Try.f58 f_help_Same_string_ = true := by kernel_rfl
theorem c29 : chkFn Try.prog fid Try.f29 f_goods_Name = true := by kernel_rfl
theorem c65 : chkFn Try.prog fid Try.f65 f_slices_IndexFunc_scope_names_string_ = true := by kernel_rfl
theorem c66 : chkFn Try.prog fid Try.f66 f_slices_Index_scope_names_string_ = true := by kernel_rfl
theorem hprog0 : ∀ f F, prog0 f = some F → ∃ id fn, fid f = some id ∧ Try.prog.funcs[id]? = some fn ∧ chkFn Try.prog fid fn F = true := by
  intro f F h
  unfold prog0 at h
  split at h <;> cases h
  · exact ⟨6, _, rfl, Try.func6, c6⟩
  · exact ⟨12, _, rfl, Try.func12, c12⟩
  · exact ⟨13, _, rfl, Try.func13, c13⟩
  · exact ⟨20, _, rfl, Try.func20, c20⟩
  · exact ⟨15, _, rfl, Try.func15, c15⟩
  · exact ⟨24, _, rfl, Try.func24, c24⟩
  · exact ⟨27, _, rfl, Try.func27, c27⟩
  · exact ⟨25, _, rfl, Try.func25, c25⟩
  · exact ⟨14, _, rfl, Try.func14, c14⟩
  · exact ⟨16, _, rfl, Try.func16, c16⟩
  · exact ⟨17, _, rfl, Try.func17, c17⟩
  · exact ⟨18, _, rfl, Try.func18, c18⟩
  · exact ⟨19, _, rfl, Try.func19, c19⟩
  · exact ⟨21, _, rfl, Try.func21, c21⟩
  · exact ⟨22, _, rfl, Try.func22, c22⟩
  · exact ⟨43, _, rfl, Try.func43, c43⟩
  · exact ⟨38, _, rfl, Try.func38, c38⟩
  · exact ⟨44, _, rfl, Try.func44, c44⟩
  · exact ⟨37, _, rfl, Try.func37, c37⟩
  · exact ⟨40, _, rfl, Try.func40, c40⟩
  · exact ⟨46, _, rfl, Try.func46, c46⟩
  · exact ⟨45, _, rfl, Try.func45, c45⟩
  · exact ⟨39, _, rfl, Try.func39, c39⟩
  · exact ⟨41, _, rfl, Try.func41, c41⟩
  · exact ⟨42, _, rfl, Try.func42, c42⟩
  · exact ⟨23, _, rfl, Try.func23, c23⟩
  · exact ⟨47, _, rfl, Try.func47, c47⟩
  · exact ⟨56, _, rfl, Try.func56, c56⟩
  · exact ⟨55, _, rfl, Try.func55, c55⟩
  · exact ⟨57, _, rfl, Try.func57, c57⟩
  · exact ⟨61, _, rfl, Try.func61, c61⟩
  · exact ⟨60, _, rfl, Try.func60, c60⟩
  · exact ⟨30, _, rfl, Try.func30, c30⟩
  · exact ⟨59, _, rfl, Try.func59, c59⟩
  · exact ⟨58, _, rfl, Try.func58, c58⟩
  · exact ⟨29, _, rfl, Try.func29, c29⟩
  · exact ⟨65, _, rfl, Try.func65, c65⟩
  · exact ⟨66, _, rfl, Try.func66, c66⟩
theorem hprog : ∀ base w0 f F, prog f = some F → FnOk Try.prog fid f F ∨ (F = xFn ∧ XOk Try.prog fid base w0 f) := by
  intro base w0 f F h
  unfold prog at h
  split at h <;> cases h
  · exact .inl ⟨6, _, rfl, Try.func6, c6⟩
  · exact .inl ⟨12, _, rfl, Try.func12, c12⟩
  · exact .inl ⟨13, _, rfl, Try.func13, c13⟩
  · exact .inl ⟨20, _, rfl, Try.func20, c20⟩
  · exact .inl ⟨15, _, rfl, Try.func15, c15⟩
  · exact .inl ⟨24, _, rfl, Try.func24, c24⟩
  · exact .inr ⟨rfl, xIdx_ok rfl rfl hprog0 (xhas_of (by repeat' (first | exact rfl | constructor)))⟩
  · exact .inl ⟨27, _, rfl, Try.func27, c27⟩
  · exact .inl ⟨25, _, rfl, Try.func25, c25⟩
  · exact .inl ⟨14, _, rfl, Try.func14, c14⟩
  · exact .inl ⟨16, _, rfl, Try.func16, c16⟩
  · exact .inl ⟨17, _, rfl, Try.func17, c17⟩
  · exact .inl ⟨18, _, rfl, Try.func18, c18⟩
  · exact .inl ⟨19, _, rfl, Try.func19, c19⟩
  · exact .inl ⟨21, _, rfl, Try.func21, c21⟩
  · exact .inl ⟨22, _, rfl, Try.func22, c22⟩
  · exact .inl ⟨43, _, rfl, Try.func43, c43⟩
  · exact .inl ⟨38, _, rfl, Try.func38, c38⟩
  · exact .inl ⟨44, _, rfl, Try.func44, c44⟩
  · exact .inl ⟨37, _, rfl, Try.func37, c37⟩
  · exact .inl ⟨40, _, rfl, Try.func40, c40⟩
  · exact .inl ⟨46, _, rfl, Try.func46, c46⟩
  · exact .inl ⟨45, _, rfl, Try.func45, c45⟩
  · exact .inl ⟨39, _, rfl, Try.func39, c39⟩
  · exact .inl ⟨41, _, rfl, Try.func41, c41⟩
  · exact .inl ⟨42, _, rfl, Try.func42, c42⟩
  · exact .inl ⟨23, _, rfl, Try.func23, c23⟩
  · exact .inl ⟨47, _, rfl, Try.func47, c47⟩
  · exact .inl ⟨56, _, rfl, Try.func56, c56⟩
  · exact .inl ⟨55, _, rfl, Try.func55, c55⟩
  · exact .inl ⟨57, _, rfl, Try.func57, c57⟩
  · exact .inl ⟨61, _, rfl, Try.func61, c61⟩
  · exact .inl ⟨60, _, rfl, Try.func60, c60⟩
  · exact .inl ⟨30, _, rfl, Try.func30, c30⟩
  · exact .inl ⟨59, _, rfl, Try.func59, c59⟩
  · exact .inl ⟨58, _, rfl, Try.func58, c58⟩
  · exact .inl ⟨29, _, rfl, Try.func29, c29⟩
  · exact .inl ⟨65, _, rfl, Try.func65, c65⟩
  · exact .inl ⟨66, _, rfl, Try.func66, c66⟩
theorem own : ownKnob Try.prog.godebug = none := by kernel_rfl
theorem laidOut : laidOutB Try.prog = true := by kernel_rfl
end Go.Proofs.Ytphknfgiljkjaaa.ChkNear
