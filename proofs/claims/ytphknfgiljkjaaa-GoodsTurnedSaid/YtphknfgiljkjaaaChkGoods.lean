import Derived.Test.YtphknfgiljkjaaaRows
import Derived.Test.YtphknfgiljkjaaaAMC
import Derived.Test.YtphknfgiljkjaaaSortA
import Derived.KernelRfl
set_option linter.unusedVariables false
set_option linter.unusedSimpArgs false
/- The functions that these laws reach, as they stand in the program. Printed by row.py. -/
namespace Go.Proofs.Ytphknfgiljkjaaa.ChkGoods
open Go.AM

def fid (f : String) : Option FuncId := match f with
  | "haberdash/haberdashlaw10.GoodsNames" => some 7
  | "haberdash/haberdashlaw10.GoodsRight" => some 8
  | "haberdash/haberdashlaw10.GoodsFinds" => some 10
  | "haberdash/haberdashlaw10.GoodsTurned" => some 9
  | "haberdash/haberdashlaw10.GoodsMany" => some 11
  | "haberdash/haberdashplay.Mod" => some 23
  | "haberdash/haberdashplay.Sku" => some 21
  | "haberdash/haberdashlaw10.awake" => some 28
  | "haberdash/goods.Name" => some 29
  | "haberdash/haberdashref10.Name" => some 30
  | "haberdash/haberdashplay.Items" => some 24
  | "haberdash/haberdashhelp.Own[haberdash/api.Item]" => some 31
  | "haberdash/goods.Right" => some 32
  | "haberdash/haberdashref10.Goods" => some 33
  | "haberdash/goods.Find" => some 34
  | "haberdash/haberdashref10.Find" => some 35
  | "haberdash/haberdashhelp.Kept[haberdash/api.Item]" => some 36
  | "haberdash/haberdashplay.Mod64" => some 37
  | "haberdash/haberdashplay.Category" => some 22
  | "haberdash/haberdashplay.pick" => some 44
  | "haberdash/goods.Rise" => some 47
  | "haberdash/haberdashref10.in" => some 48
  | "haberdash/goods.bySku" => some 50
  | "slices.IsSortedFunc[[]haberdash/api.Item,haberdash/api.Item]" => some 49
  | "haberdash/goods.Find$1" => some 52
  | "slices.IndexFunc[[]haberdash/api.Item,haberdash/api.Item]" => some 51
  | "slices.BinarySearchFunc[[]haberdash/api.Item,haberdash/api.Item,haberdash/api.Item]" => some 53
  | "haberdash/haberdashhelp.Plain[haberdash/api.Item]" => some 54
  | "cmp.Compare[string]" => some 62
  | "haberdash/haberdashhelp.Plain[haberdash/api.Item]$1" => some 64
  | "haberdash/haberdashhelp.Same[haberdash/api.Item]" => some 63
  | "cmp.isNaN[string]" => some 67
  | _ => none
def prog (f : String) : Option IFn := match f with
  | "haberdash/haberdashlaw10.GoodsNames" => some f_law10_GoodsNames
  | "haberdash/haberdashlaw10.GoodsRight" => some f_law10_GoodsRight
  | "haberdash/haberdashlaw10.GoodsFinds" => some f_law10_GoodsFinds
  | "haberdash/haberdashlaw10.GoodsTurned" => some f_law10_GoodsTurned
  | "haberdash/haberdashlaw10.GoodsMany" => some f_law10_GoodsMany
  | "haberdash/haberdashplay.Mod" => some f_play_Mod
  | "haberdash/haberdashplay.Sku" => some f_play_Sku
  | "haberdash/haberdashlaw10.awake" => some f_law10_awake
  | "haberdash/goods.Name" => some f_goods_Name
  | "haberdash/haberdashref10.Name" => some f_ref10_Name
  | "haberdash/haberdashplay.Items" => some f_play_Items
  | "haberdash/haberdashhelp.Own[haberdash/api.Item]" => some f_help_Own_api_Item_
  | "haberdash/goods.Right" => some f_goods_Right
  | "haberdash/haberdashref10.Goods" => some f_ref10_Goods
  | "haberdash/goods.Find" => some f_goods_Find
  | "haberdash/haberdashref10.Find" => some f_ref10_Find
  | "haberdash/haberdashhelp.Kept[haberdash/api.Item]" => some f_help_Kept_api_Item_
  | "haberdash/haberdashplay.Mod64" => some f_play_Mod64
  | "haberdash/haberdashplay.Category" => some f_play_Category
  | "haberdash/haberdashplay.pick" => some f_play_pick
  | "haberdash/goods.Rise" => some f_goods_Rise
  | "haberdash/haberdashref10.in" => some f_ref10_in
  | "haberdash/goods.bySku" => some f_goods_bySku
  | "slices.IsSortedFunc[[]haberdash/api.Item,haberdash/api.Item]" => some f_slices_IsSortedFunc___api_Item_api_Item_
  | "haberdash/goods.Find$1" => some f_goods_Find_1
  | "slices.IndexFunc[[]haberdash/api.Item,haberdash/api.Item]" => some f_slices_IndexFunc___api_Item_api_Item_
  | "slices.BinarySearchFunc[[]haberdash/api.Item,haberdash/api.Item,haberdash/api.Item]" => some f_slices_BinarySearchFunc___api_Item_api_Item_api_Item_
  | "haberdash/haberdashhelp.Plain[haberdash/api.Item]" => some f_help_Plain_api_Item_
  | "cmp.Compare[string]" => some f_cmp_Compare_string_
  | "haberdash/haberdashhelp.Plain[haberdash/api.Item]$1" => some f_help_Plain_api_Item__1
  | "haberdash/haberdashhelp.Same[haberdash/api.Item]" => some f_help_Same_api_Item_
  | "cmp.isNaN[string]" => some f_cmp_isNaN_string_
  | _ => none

theorem c7 : chkFn Try.prog fid Try.f7 f_law10_GoodsNames = true := by kernel_rfl
theorem c8 : chkFn Try.prog fid Try.f8 f_law10_GoodsRight = true := by kernel_rfl
theorem c10 : chkFn Try.prog fid Try.f10 f_law10_GoodsFinds = true := by kernel_rfl
theorem c9 : chkFn Try.prog fid Try.f9 f_law10_GoodsTurned = true := by kernel_rfl
theorem c11 : chkFn Try.prog fid Try.f11 f_law10_GoodsMany = true := by kernel_rfl
theorem c23 : chkFn Try.prog fid Try.f23 f_play_Mod = true := by kernel_rfl
theorem c21 : chkFn Try.prog fid Try.f21 f_play_Sku = true := by kernel_rfl
theorem c28 : chkFn Try.prog fid Try.f28 f_law10_awake = true := by kernel_rfl
theorem c29 : chkFn Try.prog fid Try.f29 f_goods_Name = true := by kernel_rfl
theorem c30 : chkFn Try.prog fid Try.f30 f_ref10_Name = true := by kernel_rfl
theorem c24 : chkFn Try.prog fid Try.f24 f_play_Items = true := by kernel_rfl
theorem c31 : chkFn Try.prog fid Try.f31 f_help_Own_api_Item_ = true := by kernel_rfl
theorem c32 : chkFn Try.prog fid Try.f32 f_goods_Right = true := by kernel_rfl
theorem c33 : chkFn Try.prog fid Try.f33 f_ref10_Goods = true := by kernel_rfl
theorem c34 : chkFn Try.prog fid Try.f34 f_goods_Find = true := by kernel_rfl
theorem c35 : chkFn Try.prog fid Try.f35 f_ref10_Find = true := by kernel_rfl
theorem c36 : chkFn Try.prog fid Try.f36 f_help_Kept_api_Item_ = true := by kernel_rfl
theorem c37 : chkFn Try.prog fid Try.f37 f_play_Mod64 = true := by kernel_rfl
theorem c22 : chkFn Try.prog fid Try.f22 f_play_Category = true := by kernel_rfl
theorem c44 : chkFn Try.prog fid Try.f44 f_play_pick = true := by kernel_rfl
theorem c47 : chkFn Try.prog fid Try.f47 f_goods_Rise = true := by kernel_rfl
theorem c48 : chkFn Try.prog fid Try.f48 f_ref10_in = true := by kernel_rfl
theorem c50 : chkFn Try.prog fid Try.f50 f_goods_bySku = true := by kernel_rfl
theorem c49 : chkFn Try.prog fid Try.f49 f_slices_IsSortedFunc___api_Item_api_Item_ = true := by kernel_rfl
theorem c52 : chkFn Try.prog fid Try.f52 f_goods_Find_1 = true := by kernel_rfl
theorem c51 : chkFn Try.prog fid Try.f51 f_slices_IndexFunc___api_Item_api_Item_ = true := by kernel_rfl
theorem c53 : chkFn Try.prog fid Try.f53 f_slices_BinarySearchFunc___api_Item_api_Item_api_Item_ = true := by kernel_rfl
theorem c54 : chkFn Try.prog fid Try.f54 f_help_Plain_api_Item_ = true := by kernel_rfl
theorem c62 : chkFn Try.prog fid Try.f62 f_cmp_Compare_string_ = true := by kernel_rfl
theorem c64 : chkFn Try.prog fid Try.f64 f_help_Plain_api_Item__1 = true := by kernel_rfl
theorem c63 : chkFn Try.prog fid Try.f63 f_help_Same_api_Item_ = true := by kernel_rfl
theorem c67 : chkFn Try.prog fid Try.f67 f_cmp_isNaN_string_ = true := by kernel_rfl

theorem hprog : ∀ f F, prog f = some F → ∃ id fn, fid f = some id ∧ Try.prog.funcs[id]? = some fn ∧ chkFn Try.prog fid fn F = true := by
  intro f F h
  unfold prog at h
  split at h <;> cases h
  · exact ⟨7, _, rfl, Try.func7, c7⟩
  · exact ⟨8, _, rfl, Try.func8, c8⟩
  · exact ⟨10, _, rfl, Try.func10, c10⟩
  · exact ⟨9, _, rfl, Try.func9, c9⟩
  · exact ⟨11, _, rfl, Try.func11, c11⟩
  · exact ⟨23, _, rfl, Try.func23, c23⟩
  · exact ⟨21, _, rfl, Try.func21, c21⟩
  · exact ⟨28, _, rfl, Try.func28, c28⟩
  · exact ⟨29, _, rfl, Try.func29, c29⟩
  · exact ⟨30, _, rfl, Try.func30, c30⟩
  · exact ⟨24, _, rfl, Try.func24, c24⟩
  · exact ⟨31, _, rfl, Try.func31, c31⟩
  · exact ⟨32, _, rfl, Try.func32, c32⟩
  · exact ⟨33, _, rfl, Try.func33, c33⟩
  · exact ⟨34, _, rfl, Try.func34, c34⟩
  · exact ⟨35, _, rfl, Try.func35, c35⟩
  · exact ⟨36, _, rfl, Try.func36, c36⟩
  · exact ⟨37, _, rfl, Try.func37, c37⟩
  · exact ⟨22, _, rfl, Try.func22, c22⟩
  · exact ⟨44, _, rfl, Try.func44, c44⟩
  · exact ⟨47, _, rfl, Try.func47, c47⟩
  · exact ⟨48, _, rfl, Try.func48, c48⟩
  · exact ⟨50, _, rfl, Try.func50, c50⟩
  · exact ⟨49, _, rfl, Try.func49, c49⟩
  · exact ⟨52, _, rfl, Try.func52, c52⟩
  · exact ⟨51, _, rfl, Try.func51, c51⟩
  · exact ⟨53, _, rfl, Try.func53, c53⟩
  · exact ⟨54, _, rfl, Try.func54, c54⟩
  · exact ⟨62, _, rfl, Try.func62, c62⟩
  · exact ⟨64, _, rfl, Try.func64, c64⟩
  · exact ⟨63, _, rfl, Try.func63, c63⟩
  · exact ⟨67, _, rfl, Try.func67, c67⟩
theorem own : ownKnob Try.prog.godebug = none := by kernel_rfl
theorem laidOut : laidOutB Try.prog = true := by kernel_rfl
end Go.Proofs.Ytphknfgiljkjaaa.ChkGoods
