import Derived.Test.YtikbagggffehkaaRows
import Derived.Test.YtikbagggffehkaaBasketV
import Derived.Test.YtikbagggffehkaaAMC
import Derived.Test.YtikbagggffehkaaCrc
import Derived.Test.YtikbagggffehkaaLeafA
import Derived.Test.YtikbagggffehkaaHelp
import Derived.Test.YtikbagggffehkaaGoodsA
import Derived.Test.YtikbagggffehkaaScopeA
import Derived.Test.YtikbagggffehkaaSortA
import Derived.Test.YtikbagggffehkaaBasketIr
import Derived.KernelRfl
set_option linter.unusedVariables false
set_option linter.unusedSimpArgs false
namespace Go.Proofs.Ytikbagggffehkaa.ChkBasket
open Go.AM
def fid (f : String) : Option FuncId := match f with
  | "haberdash/haberdashlaw14.BasketRaw" => some 3
  | "haberdash/haberdashlaw14.BasketNear" => some 4
  | "haberdash/haberdashlaw14.BasketTurned" => some 5
  | "haberdash/haberdashlaw14.BasketBounds" => some 6
  | "haberdash/haberdashlaw14.BasketJoin" => some 7
  | "haberdash/haberdashlaw14.units" => some 12
  | "haberdash/haberdashlaw14.awake" => some 13
  | "haberdash/haberdashhelp.Own[haberdash/api.Line]" => some 14
  | "haberdash/haberdashhelp.Own[haberdash/api.Item]" => some 15
  | "haberdash/basket.Check" => some 16
  | "haberdash/haberdashref10.Check" => some 17
  | "haberdash/basket.Gross" => some 18
  | "haberdash/haberdashref10.Gross" => some 19
  | "haberdash/basket.Units" => some 21
  | "haberdash/haberdashref10.Units" => some 22
  | "haberdash/haberdashhelp.Plain[haberdash/api.Unit]" => some 20
  | "haberdash/basket.Items" => some 24
  | "haberdash/haberdashref10.Items" => some 25
  | "haberdash/haberdashhelp.Plain[haberdash/api.Item]" => some 23
  | "haberdash/haberdashhelp.Kept[haberdash/api.Line]" => some 26
  | "haberdash/haberdashhelp.Kept[haberdash/api.Item]" => some 27
  | "haberdash/haberdashplay.Items" => some 28
  | "haberdash/haberdashplay.Lines" => some 29
  | "haberdash/haberdashplay.Mod" => some 30
  | "haberdash/haberdashplay.Mod64" => some 31
  | "haberdash/basket.Check$1" => some 45
  | "haberdash/basket.check" => some 44
  | "haberdash/haberdashref10.Find" => some 47
  | "haberdash/haberdashref10.in" => some 48
  | "haberdash/haberdashref10.may" => some 49
  | "haberdash/basket.may" => some 50
  | "haberdash/basket.sums" => some 51
  | "haberdash/haberdashhelp.Plain[haberdash/api.Unit]$1" => some 53
  | "haberdash/haberdashhelp.Same[haberdash/api.Unit]" => some 52
  | "haberdash/goods.Find" => some 46
  | "haberdash/haberdashhelp.Plain[haberdash/api.Item]$1" => some 56
  | "haberdash/haberdashhelp.Same[haberdash/api.Item]" => some 55
  | "haberdash/haberdashhelp.Plain[haberdash/api.Line]" => some 57
  | "haberdash/haberdashplay.Sku" => some 58
  | "haberdash/haberdashplay.Category" => some 59
  | "haberdash/haberdashplay.pick" => some 60
  | "haberdash/basket.line" => some 69
  | "haberdash/basket.may$1" => some 75
  | "haberdash/goods.bySku" => some 71
  | "slices.IsSortedFunc[[]haberdash/api.Item,haberdash/api.Item]" => some 70
  | "haberdash/goods.Find$1" => some 73
  | "slices.IndexFunc[[]haberdash/api.Item,haberdash/api.Item]" => some 72
  | "slices.BinarySearchFunc[[]haberdash/api.Item,haberdash/api.Item,haberdash/api.Item]" => some 74
  | "haberdash/haberdashhelp.Plain[haberdash/api.Line]$1" => some 78
  | "haberdash/haberdashhelp.Same[haberdash/api.Line]" => some 77
  | "cmp.Compare[string]" => some 86
  | "cmp.isNaN[string]" => some 89
  | _ => none
def prog (f : String) : Option IFn := match f with
  | "haberdash/haberdashlaw14.BasketRaw" => some f_law14_BasketRaw
  | "haberdash/haberdashlaw14.BasketNear" => some f_law14_BasketNear
  | "haberdash/haberdashlaw14.BasketTurned" => some f_law14_BasketTurned
  | "haberdash/haberdashlaw14.BasketBounds" => some f_law14_BasketBounds
  | "haberdash/haberdashlaw14.BasketJoin" => some f_law14_BasketJoin
  | "haberdash/haberdashlaw14.units" => some f_law14_units
  | "haberdash/haberdashlaw14.awake" => some f_law14_awake
  | "haberdash/haberdashhelp.Own[haberdash/api.Line]" => some f_help_Own_api_Line_
  | "haberdash/haberdashhelp.Own[haberdash/api.Item]" => some f_help_Own_api_Item_
  | "haberdash/basket.Check" => some f_basket_Check
  | "haberdash/haberdashref10.Check" => some f_ref10_Check
  | "haberdash/basket.Gross" => some f_basket_Gross
  | "haberdash/haberdashref10.Gross" => some f_ref10_Gross
  | "haberdash/basket.Units" => some xFn
  | "haberdash/haberdashref10.Units" => some f_ref10_Units
  | "haberdash/haberdashhelp.Plain[haberdash/api.Unit]" => some f_help_Plain_api_Unit_
  | "haberdash/basket.Items" => some f_basket_Items
  | "haberdash/haberdashref10.Items" => some f_ref10_Items
  | "haberdash/haberdashhelp.Plain[haberdash/api.Item]" => some f_help_Plain_api_Item_
  | "haberdash/haberdashhelp.Kept[haberdash/api.Line]" => some f_help_Kept_api_Line_
  | "haberdash/haberdashhelp.Kept[haberdash/api.Item]" => some f_help_Kept_api_Item_
  | "haberdash/haberdashplay.Items" => some f_play_Items
  | "haberdash/haberdashplay.Lines" => some f_play_Lines
  | "haberdash/haberdashplay.Mod" => some f_play_Mod
  | "haberdash/haberdashplay.Mod64" => some f_play_Mod64
  | "haberdash/basket.Check$1" => some f_basket_Check_1
  | "haberdash/basket.check" => some f_basket_check
  | "haberdash/haberdashref10.Find" => some f_ref10_Find
  | "haberdash/haberdashref10.in" => some f_ref10_in
  | "haberdash/haberdashref10.may" => some f_ref10_may
  | "haberdash/basket.may" => some f_basket_may
  | "haberdash/basket.sums" => some f_basket_sums
  | "haberdash/haberdashhelp.Plain[haberdash/api.Unit]$1" => some f_help_Plain_api_Unit__1
  | "haberdash/haberdashhelp.Same[haberdash/api.Unit]" => some f_help_Same_api_Unit_
  | "haberdash/goods.Find" => some f_goods_Find
  | "haberdash/haberdashhelp.Plain[haberdash/api.Item]$1" => some f_help_Plain_api_Item__1
  | "haberdash/haberdashhelp.Same[haberdash/api.Item]" => some f_help_Same_api_Item_
  | "haberdash/haberdashhelp.Plain[haberdash/api.Line]" => some f_help_Plain_api_Line_
  | "haberdash/haberdashplay.Sku" => some f_play_Sku
  | "haberdash/haberdashplay.Category" => some f_play_Category
  | "haberdash/haberdashplay.pick" => some f_play_pick
  | "haberdash/basket.line" => some f_basket_line
  | "haberdash/basket.may$1" => some f_basket_may_1
  | "haberdash/goods.bySku" => some f_goods_bySku
  | "slices.IsSortedFunc[[]haberdash/api.Item,haberdash/api.Item]" => some f_slices_IsSortedFunc___api_Item_api_Item_
  | "haberdash/goods.Find$1" => some f_goods_Find_1
  | "slices.IndexFunc[[]haberdash/api.Item,haberdash/api.Item]" => some f_slices_IndexFunc___api_Item_api_Item_
  | "slices.BinarySearchFunc[[]haberdash/api.Item,haberdash/api.Item,haberdash/api.Item]" => some f_slices_BinarySearchFunc___api_Item_api_Item_api_Item_
  | "haberdash/haberdashhelp.Plain[haberdash/api.Line]$1" => some f_help_Plain_api_Line__1
  | "haberdash/haberdashhelp.Same[haberdash/api.Line]" => some f_help_Same_api_Line_
  | "cmp.Compare[string]" => some f_cmp_Compare_string_
  | "cmp.isNaN[string]" => some f_cmp_isNaN_string_
  | _ => none
def prog0 (f : String) : Option IFn := match f with
  | "haberdash/haberdashlaw14.BasketRaw" => some f_law14_BasketRaw
  | "haberdash/haberdashlaw14.BasketNear" => some f_law14_BasketNear
  | "haberdash/haberdashlaw14.BasketTurned" => some f_law14_BasketTurned
  | "haberdash/haberdashlaw14.BasketBounds" => some f_law14_BasketBounds
  | "haberdash/haberdashlaw14.BasketJoin" => some f_law14_BasketJoin
  | "haberdash/haberdashlaw14.units" => some f_law14_units
  | "haberdash/haberdashlaw14.awake" => some f_law14_awake
  | "haberdash/haberdashhelp.Own[haberdash/api.Line]" => some f_help_Own_api_Line_
  | "haberdash/haberdashhelp.Own[haberdash/api.Item]" => some f_help_Own_api_Item_
  | "haberdash/basket.Check" => some f_basket_Check
  | "haberdash/haberdashref10.Check" => some f_ref10_Check
  | "haberdash/basket.Gross" => some f_basket_Gross
  | "haberdash/haberdashref10.Gross" => some f_ref10_Gross
  | "haberdash/haberdashref10.Units" => some f_ref10_Units
  | "haberdash/haberdashhelp.Plain[haberdash/api.Unit]" => some f_help_Plain_api_Unit_
  | "haberdash/basket.Items" => some f_basket_Items
  | "haberdash/haberdashref10.Items" => some f_ref10_Items
  | "haberdash/haberdashhelp.Plain[haberdash/api.Item]" => some f_help_Plain_api_Item_
  | "haberdash/haberdashhelp.Kept[haberdash/api.Line]" => some f_help_Kept_api_Line_
  | "haberdash/haberdashhelp.Kept[haberdash/api.Item]" => some f_help_Kept_api_Item_
  | "haberdash/haberdashplay.Items" => some f_play_Items
  | "haberdash/haberdashplay.Lines" => some f_play_Lines
  | "haberdash/haberdashplay.Mod" => some f_play_Mod
  | "haberdash/haberdashplay.Mod64" => some f_play_Mod64
  | "haberdash/basket.Check$1" => some f_basket_Check_1
  | "haberdash/basket.check" => some f_basket_check
  | "haberdash/haberdashref10.Find" => some f_ref10_Find
  | "haberdash/haberdashref10.in" => some f_ref10_in
  | "haberdash/haberdashref10.may" => some f_ref10_may
  | "haberdash/basket.may" => some f_basket_may
  | "haberdash/basket.sums" => some f_basket_sums
  | "haberdash/haberdashhelp.Plain[haberdash/api.Unit]$1" => some f_help_Plain_api_Unit__1
  | "haberdash/haberdashhelp.Same[haberdash/api.Unit]" => some f_help_Same_api_Unit_
  | "haberdash/goods.Find" => some f_goods_Find
  | "haberdash/haberdashhelp.Plain[haberdash/api.Item]$1" => some f_help_Plain_api_Item__1
  | "haberdash/haberdashhelp.Same[haberdash/api.Item]" => some f_help_Same_api_Item_
  | "haberdash/haberdashhelp.Plain[haberdash/api.Line]" => some f_help_Plain_api_Line_
  | "haberdash/haberdashplay.Sku" => some f_play_Sku
  | "haberdash/haberdashplay.Category" => some f_play_Category
  | "haberdash/haberdashplay.pick" => some f_play_pick
  | "haberdash/basket.line" => some f_basket_line
  | "haberdash/basket.may$1" => some f_basket_may_1
  | "haberdash/goods.bySku" => some f_goods_bySku
  | "slices.IsSortedFunc[[]haberdash/api.Item,haberdash/api.Item]" => some f_slices_IsSortedFunc___api_Item_api_Item_
  | "haberdash/goods.Find$1" => some f_goods_Find_1
  | "slices.IndexFunc[[]haberdash/api.Item,haberdash/api.Item]" => some f_slices_IndexFunc___api_Item_api_Item_
  | "slices.BinarySearchFunc[[]haberdash/api.Item,haberdash/api.Item,haberdash/api.Item]" => some f_slices_BinarySearchFunc___api_Item_api_Item_api_Item_
  | "haberdash/haberdashhelp.Plain[haberdash/api.Line]$1" => some f_help_Plain_api_Line__1
  | "haberdash/haberdashhelp.Same[haberdash/api.Line]" => some f_help_Same_api_Line_
  | "cmp.Compare[string]" => some f_cmp_Compare_string_
  | "cmp.isNaN[string]" => some f_cmp_isNaN_string_
  | _ => none
theorem c3 : chkFn Try.prog fid Try.f3 f_law14_BasketRaw = true := by kernel_rfl
theorem c4 : chkFn Try.prog fid Try.f4 f_law14_BasketNear = true := by kernel_rfl
theorem c5 : chkFn Try.prog fid Try.f5 f_law14_BasketTurned = true := by kernel_rfl
theorem c6 : chkFn Try.prog fid Try.f6 f_law14_BasketBounds = true := by kernel_rfl
theorem c7 : chkFn Try.prog fid Try.f7 f_law14_BasketJoin = true := by kernel_rfl
theorem c12 : chkFn Try.prog fid Try.f12 f_law14_units = true := by kernel_rfl
theorem c13 : chkFn Try.prog fid Try.f13 f_law14_awake = true := by kernel_rfl
theorem c14 : chkFn Try.prog fid Try.f14 f_help_Own_api_Line_ = true := by kernel_rfl
theorem c15 : chkFn Try.prog fid Try.f15 f_help_Own_api_Item_ = true := by kernel_rfl
theorem c16 : chkFn Try.prog fid Try.f16 f_basket_Check = true := by kernel_rfl
theorem c17 : chkFn Try.prog fid Try.f17 f_ref10_Check = true := by kernel_rfl
theorem c18 : chkFn Try.prog fid Try.f18 f_basket_Gross = true := by kernel_rfl
theorem c19 : chkFn Try.prog fid Try.f19 f_ref10_Gross = true := by kernel_rfl
theorem c22 : chkFn Try.prog fid Try.f22 f_ref10_Units = true := by kernel_rfl
theorem c20 : chkFn Try.prog fid Try.f20 f_help_Plain_api_Unit_ = true := by kernel_rfl
theorem c24 : chkFn Try.prog fid Try.f24 f_basket_Items = true := by kernel_rfl
theorem c25 : chkFn Try.prog fid Try.f25 f_ref10_Items = true := by kernel_rfl
theorem c23 : chkFn Try.prog fid Try.f23 f_help_Plain_api_Item_ = true := by kernel_rfl
theorem c26 : chkFn Try.prog fid Try.f26 f_help_Kept_api_Line_ = true := by kernel_rfl
theorem c27 : chkFn Try.prog fid Try.f27 f_help_Kept_api_Item_ = true := by kernel_rfl
theorem c28 : chkFn Try.prog fid Try.f28 f_play_Items = true := by kernel_rfl
theorem c29 : chkFn Try.prog fid Try.f29 f_play_Lines = true := by kernel_rfl
theorem c30 : chkFn Try.prog fid Try.f30 f_play_Mod = true := by kernel_rfl
theorem c31 : chkFn Try.prog fid Try.f31 f_play_Mod64 = true := by kernel_rfl
theorem c45 : chkFn Try.prog fid Try.f45 f_basket_Check_1 = true := by kernel_rfl
theorem c44 : chkFn Try.prog fid Try.f44 f_basket_check = true := by kernel_rfl
theorem c47 : chkFn Try.prog fid Try.f47 f_ref10_Find = true := by kernel_rfl
theorem c48 : chkFn Try.prog fid Try.f48 f_ref10_in = true := by kernel_rfl
theorem c49 : chkFn Try.prog fid Try.f49 f_ref10_may = true := by kernel_rfl
theorem c50 : chkFn Try.prog fid Try.f50 f_basket_may = true := by kernel_rfl
theorem c51 : chkFn Try.prog fid Try.f51 f_basket_sums = true := by kernel_rfl
theorem c53 : chkFn Try.prog fid Try.f53 f_help_Plain_api_Unit__1 = true := by kernel_rfl
theorem c52 : chkFn Try.prog fid Try.f52 f_help_Same_api_Unit_ = true := by kernel_rfl
theorem c46 : chkFn Try.prog fid Try.f46 f_goods_Find = true := by kernel_rfl
theorem c56 : chkFn Try.prog fid Try.f56 f_help_Plain_api_Item__1 = true := by kernel_rfl
theorem c55 : chkFn Try.prog fid Try.f55 f_help_Same_api_Item_ = true := by kernel_rfl
theorem c57 : chkFn Try.prog fid Try.f57 f_help_Plain_api_Line_ = true := by kernel_rfl
theorem c58 : chkFn Try.prog fid Try.f58 f_play_Sku = true := by kernel_rfl
theorem c59 : chkFn Try.prog fid Try.f59 f_play_Category = true := by kernel_rfl
theorem c60 : chkFn Try.prog fid Try.f60 f_play_pick = true := by kernel_rfl
theorem c69 : chkFn Try.prog fid Try.f69 f_basket_line = true := by kernel_rfl
theorem c75 : chkFn Try.prog fid Try.f75 f_basket_may_1 = true := by kernel_rfl
theorem c71 : chkFn Try.prog fid Try.f71 f_goods_bySku = true := by kernel_rfl
theorem c70 : chkFn Try.prog fid Try.f70 f_slices_IsSortedFunc___api_Item_api_Item_ = true := by kernel_rfl
theorem c73 : chkFn Try.prog fid Try.f73 f_goods_Find_1 = true := by kernel_rfl
theorem c72 : chkFn Try.prog fid Try.f72 f_slices_IndexFunc___api_Item_api_Item_ = true := by kernel_rfl
theorem c74 : chkFn Try.prog fid Try.f74 f_slices_BinarySearchFunc___api_Item_api_Item_api_Item_ = true := by kernel_rfl
theorem c78 : chkFn Try.prog fid Try.f78 f_help_Plain_api_Line__1 = true := by kernel_rfl
theorem c77 : chkFn Try.prog fid Try.f77 f_help_Same_api_Line_ = true := by kernel_rfl
theorem c86 : chkFn Try.prog fid Try.f86 f_cmp_Compare_string_ = true := by kernel_rfl
theorem c89 : chkFn Try.prog fid Try.f89 f_cmp_isNaN_string_ = true := by kernel_rfl
theorem hprog0 : ∀ f F, prog0 f = some F → ∃ id fn, fid f = some id ∧ Try.prog.funcs[id]? = some fn ∧ chkFn Try.prog fid fn F = true := by
  intro f F h
  unfold prog0 at h
  split at h <;> cases h
  · exact ⟨3, _, rfl, Try.func3, c3⟩
  · exact ⟨4, _, rfl, Try.func4, c4⟩
  · exact ⟨5, _, rfl, Try.func5, c5⟩
  · exact ⟨6, _, rfl, Try.func6, c6⟩
  · exact ⟨7, _, rfl, Try.func7, c7⟩
  · exact ⟨12, _, rfl, Try.func12, c12⟩
  · exact ⟨13, _, rfl, Try.func13, c13⟩
  · exact ⟨14, _, rfl, Try.func14, c14⟩
  · exact ⟨15, _, rfl, Try.func15, c15⟩
  · exact ⟨16, _, rfl, Try.func16, c16⟩
  · exact ⟨17, _, rfl, Try.func17, c17⟩
  · exact ⟨18, _, rfl, Try.func18, c18⟩
  · exact ⟨19, _, rfl, Try.func19, c19⟩
  · exact ⟨22, _, rfl, Try.func22, c22⟩
  · exact ⟨20, _, rfl, Try.func20, c20⟩
  · exact ⟨24, _, rfl, Try.func24, c24⟩
  · exact ⟨25, _, rfl, Try.func25, c25⟩
  · exact ⟨23, _, rfl, Try.func23, c23⟩
  · exact ⟨26, _, rfl, Try.func26, c26⟩
  · exact ⟨27, _, rfl, Try.func27, c27⟩
  · exact ⟨28, _, rfl, Try.func28, c28⟩
  · exact ⟨29, _, rfl, Try.func29, c29⟩
  · exact ⟨30, _, rfl, Try.func30, c30⟩
  · exact ⟨31, _, rfl, Try.func31, c31⟩
  · exact ⟨45, _, rfl, Try.func45, c45⟩
  · exact ⟨44, _, rfl, Try.func44, c44⟩
  · exact ⟨47, _, rfl, Try.func47, c47⟩
  · exact ⟨48, _, rfl, Try.func48, c48⟩
  · exact ⟨49, _, rfl, Try.func49, c49⟩
  · exact ⟨50, _, rfl, Try.func50, c50⟩
  · exact ⟨51, _, rfl, Try.func51, c51⟩
  · exact ⟨53, _, rfl, Try.func53, c53⟩
  · exact ⟨52, _, rfl, Try.func52, c52⟩
  · exact ⟨46, _, rfl, Try.func46, c46⟩
  · exact ⟨56, _, rfl, Try.func56, c56⟩
  · exact ⟨55, _, rfl, Try.func55, c55⟩
  · exact ⟨57, _, rfl, Try.func57, c57⟩
  · exact ⟨58, _, rfl, Try.func58, c58⟩
  · exact ⟨59, _, rfl, Try.func59, c59⟩
  · exact ⟨60, _, rfl, Try.func60, c60⟩
  · exact ⟨69, _, rfl, Try.func69, c69⟩
  · exact ⟨75, _, rfl, Try.func75, c75⟩
  · exact ⟨71, _, rfl, Try.func71, c71⟩
  · exact ⟨70, _, rfl, Try.func70, c70⟩
  · exact ⟨73, _, rfl, Try.func73, c73⟩
  · exact ⟨72, _, rfl, Try.func72, c72⟩
  · exact ⟨74, _, rfl, Try.func74, c74⟩
  · exact ⟨78, _, rfl, Try.func78, c78⟩
  · exact ⟨77, _, rfl, Try.func77, c77⟩
  · exact ⟨86, _, rfl, Try.func86, c86⟩
  · exact ⟨89, _, rfl, Try.func89, c89⟩
theorem hprog : ∀ base w0 f F, prog f = some F → FnOk Try.prog fid f F ∨ (F = xFn ∧ XOk Try.prog fid base w0 f) := by
  intro base w0 f F h
  unfold prog at h
  split at h <;> cases h
  · exact .inl ⟨3, _, rfl, Try.func3, c3⟩
  · exact .inl ⟨4, _, rfl, Try.func4, c4⟩
  · exact .inl ⟨5, _, rfl, Try.func5, c5⟩
  · exact .inl ⟨6, _, rfl, Try.func6, c6⟩
  · exact .inl ⟨7, _, rfl, Try.func7, c7⟩
  · exact .inl ⟨12, _, rfl, Try.func12, c12⟩
  · exact .inl ⟨13, _, rfl, Try.func13, c13⟩
  · exact .inl ⟨14, _, rfl, Try.func14, c14⟩
  · exact .inl ⟨15, _, rfl, Try.func15, c15⟩
  · exact .inl ⟨16, _, rfl, Try.func16, c16⟩
  · exact .inl ⟨17, _, rfl, Try.func17, c17⟩
  · exact .inl ⟨18, _, rfl, Try.func18, c18⟩
  · exact .inl ⟨19, _, rfl, Try.func19, c19⟩
  · exact .inr ⟨rfl, xUnits_ok rfl rfl hprog0 (may_ro ⟨rfl, rfl, rfl, rfl, rfl⟩)⟩
  · exact .inl ⟨22, _, rfl, Try.func22, c22⟩
  · exact .inl ⟨20, _, rfl, Try.func20, c20⟩
  · exact .inl ⟨24, _, rfl, Try.func24, c24⟩
  · exact .inl ⟨25, _, rfl, Try.func25, c25⟩
  · exact .inl ⟨23, _, rfl, Try.func23, c23⟩
  · exact .inl ⟨26, _, rfl, Try.func26, c26⟩
  · exact .inl ⟨27, _, rfl, Try.func27, c27⟩
  · exact .inl ⟨28, _, rfl, Try.func28, c28⟩
  · exact .inl ⟨29, _, rfl, Try.func29, c29⟩
  · exact .inl ⟨30, _, rfl, Try.func30, c30⟩
  · exact .inl ⟨31, _, rfl, Try.func31, c31⟩
  · exact .inl ⟨45, _, rfl, Try.func45, c45⟩
  · exact .inl ⟨44, _, rfl, Try.func44, c44⟩
  · exact .inl ⟨47, _, rfl, Try.func47, c47⟩
  · exact .inl ⟨48, _, rfl, Try.func48, c48⟩
  · exact .inl ⟨49, _, rfl, Try.func49, c49⟩
  · exact .inl ⟨50, _, rfl, Try.func50, c50⟩
  · exact .inl ⟨51, _, rfl, Try.func51, c51⟩
  · exact .inl ⟨53, _, rfl, Try.func53, c53⟩
  · exact .inl ⟨52, _, rfl, Try.func52, c52⟩
  · exact .inl ⟨46, _, rfl, Try.func46, c46⟩
  · exact .inl ⟨56, _, rfl, Try.func56, c56⟩
  · exact .inl ⟨55, _, rfl, Try.func55, c55⟩
  · exact .inl ⟨57, _, rfl, Try.func57, c57⟩
  · exact .inl ⟨58, _, rfl, Try.func58, c58⟩
  · exact .inl ⟨59, _, rfl, Try.func59, c59⟩
  · exact .inl ⟨60, _, rfl, Try.func60, c60⟩
  · exact .inl ⟨69, _, rfl, Try.func69, c69⟩
  · exact .inl ⟨75, _, rfl, Try.func75, c75⟩
  · exact .inl ⟨71, _, rfl, Try.func71, c71⟩
  · exact .inl ⟨70, _, rfl, Try.func70, c70⟩
  · exact .inl ⟨73, _, rfl, Try.func73, c73⟩
  · exact .inl ⟨72, _, rfl, Try.func72, c72⟩
  · exact .inl ⟨74, _, rfl, Try.func74, c74⟩
  · exact .inl ⟨78, _, rfl, Try.func78, c78⟩
  · exact .inl ⟨77, _, rfl, Try.func77, c77⟩
  · exact .inl ⟨86, _, rfl, Try.func86, c86⟩
  · exact .inl ⟨89, _, rfl, Try.func89, c89⟩
theorem own : ownKnob Try.prog.godebug = none := by kernel_rfl
theorem laidOut : laidOutB Try.prog = true := by kernel_rfl
end Go.Proofs.Ytikbagggffehkaa.ChkBasket
