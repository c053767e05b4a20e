import Derived.Test.YtdcnjckkcfoppaaSortA
import Derived.Test.YtdcnjckkcfoppaaPlayA
import Derived.Test.YtdcnjckkcfoppaaScopeB
import Derived.KernelRfl
set_option linter.unusedVariables false
set_option linter.unusedSimpArgs false
namespace Go.AM
variable {prog : String → Option IFn}
structure GoodsLib (prog : String → Option IFn) : Prop where
  name : prog "haberdash/goods.Name" = some f_goods_Name
  rname : prog "haberdash/haberdashref10.Name" = some f_ref10_Name
  riseF : prog "haberdash/goods.Rise" = some f_goods_Rise
  right : prog "haberdash/goods.Right" = some f_goods_Right
  rgoods : prog "haberdash/haberdashref10.Goods" = some f_ref10_Goods
  rin : prog "haberdash/haberdashref10.in" = some f_ref10_in
  find : prog "haberdash/goods.Find" = some f_goods_Find
  find1 : prog "haberdash/goods.Find$1" = some f_goods_Find_1
  rfind : prog "haberdash/haberdashref10.Find" = some f_ref10_Find
  bySku : prog "haberdash/goods.bySku" = some f_goods_bySku
  cmp : prog "cmp.Compare[string]" = some f_cmp_Compare_string_
  nan : prog "cmp.isNaN[string]" = some f_cmp_isNaN_string_
  sorted : prog "slices.IsSortedFunc[[]haberdash/api.Item,haberdash/api.Item]" = some f_slices_IsSortedFunc___api_Item_api_Item_
  search : prog "slices.BinarySearchFunc[[]haberdash/api.Item,haberdash/api.Item,haberdash/api.Item]" = some f_slices_BinarySearchFunc___api_Item_api_Item_api_Item_
  indexF : prog "slices.IndexFunc[[]haberdash/api.Item,haberdash/api.Item]" = some f_slices_IndexFunc___api_Item_api_Item_
end Go.AM
namespace Go.AM
variable {prog : String → Option IFn}
theorem into_nil {G : List (Option Blk)} : (⟨G, []⟩ : Hp).into = G := by simp [Hp.into]
end Go.AM
namespace Go.AM
variable {prog : String → Option IFn}
instance instDecItemD : DecidableEq ItemD := fun a b =>
  if h : a.sku = b.sku ∧ (a.cat = b.cat ∧ (a.price = b.price ∧ a.used = b.used)) then isTrue (by cases a; cases b; simp only at h; obtain ⟨rfl, rfl, rfl, rfl⟩ := h; rfl)
  else isFalse (by rintro rfl; exact h ⟨rfl, rfl, rfl, rfl⟩)
structure Law10 (prog : String → Option IFn) : Prop extends GoodsLib prog where
  play : PlayBase prog
  items : prog "haberdash/haberdashplay.Items" = some f_play_Items
  mod64 : prog "haberdash/haberdashplay.Mod64" = some f_play_Mod64
  awake : prog "haberdash/haberdashlaw10.awake" = some f_law10_awake
  own : prog "haberdash/haberdashhelp.Own[haberdash/api.Item]" = some f_help_Own_api_Item_
  kept : prog "haberdash/haberdashhelp.Kept[haberdash/api.Item]" = some f_help_Kept_api_Item_
  same : prog "haberdash/haberdashhelp.Same[haberdash/api.Item]" = some f_help_Same_api_Item_
  plain : prog "haberdash/haberdashhelp.Plain[haberdash/api.Item]" = some f_help_Plain_api_Item_
  plain1 : prog "haberdash/haberdashhelp.Plain[haberdash/api.Item]$1" = some f_help_Plain_api_Item__1
def fs10 : List (String × IFn) := [
  ("haberdash/haberdashlaw10.awake", f_law10_awake), ("haberdash/goods.Name", f_goods_Name), ("haberdash/goods.Rise", f_goods_Rise), ("haberdash/goods.Right", f_goods_Right), ("haberdash/goods.Find", f_goods_Find),
  ("haberdash/goods.Find$1", f_goods_Find_1), ("haberdash/goods.bySku", f_goods_bySku), ("cmp.Compare[string]", f_cmp_Compare_string_), ("cmp.isNaN[string]", f_cmp_isNaN_string_),
  ("slices.IsSortedFunc[[]haberdash/api.Item,haberdash/api.Item]", f_slices_IsSortedFunc___api_Item_api_Item_),
  ("slices.BinarySearchFunc[[]haberdash/api.Item,haberdash/api.Item,haberdash/api.Item]", f_slices_BinarySearchFunc___api_Item_api_Item_api_Item_),
  ("slices.IndexFunc[[]haberdash/api.Item,haberdash/api.Item]", f_slices_IndexFunc___api_Item_api_Item_)]
theorem Law10.fs (H : Law10 prog) : Holds prog fs10 := ⟨H.awake, H.name, H.riseF, H.right, H.find, H.find1, H.bySku, H.cmp, H.nan, H.sorted, H.search, H.indexF, trivial⟩
end Go.AM
