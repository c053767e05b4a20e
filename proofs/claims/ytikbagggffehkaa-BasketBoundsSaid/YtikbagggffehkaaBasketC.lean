import Derived.Test.YtikbagggffehkaaBasketB
import Derived.KernelRfl
set_option linter.unusedVariables false
set_option linter.unusedSimpArgs false
namespace Go.AM
variable {prog : String → Option IFn}
structure Law14 (prog : String → Option IFn) : Prop extends FindLib prog, BasketLib prog where
  units : prog "haberdash/basket.Units" = some xFn
  checkF : prog "haberdash/basket.Check" = some f_basket_Check
  check1 : prog "haberdash/basket.Check$1" = some f_basket_Check_1
  gross : prog "haberdash/basket.Gross" = some f_basket_Gross
  itemsF : prog "haberdash/basket.Items" = some f_basket_Items
  rcheck : prog "haberdash/haberdashref10.Check" = some f_ref10_Check
  rmay : prog "haberdash/haberdashref10.may" = some f_ref10_may
  awake : prog "haberdash/haberdashlaw14.awake" = some f_law14_awake
def fs14 : List (String × IFn) := [
  ("haberdash/haberdashlaw14.awake", f_law14_awake), ("haberdash/basket.Units", xFn), ("haberdash/basket.Check", f_basket_Check), ("haberdash/basket.Check$1", f_basket_Check_1), ("haberdash/basket.Gross", f_basket_Gross),
  ("haberdash/basket.Items", f_basket_Items), ("haberdash/basket.check", f_basket_check), ("haberdash/basket.line", f_basket_line), ("haberdash/basket.sums", f_basket_sums), ("haberdash/basket.may", f_basket_may), ("haberdash/basket.may$1", f_basket_may_1),
  ("haberdash/goods.Find", f_goods_Find),
  ("haberdash/goods.Find$1", f_goods_Find_1), ("haberdash/goods.bySku", f_goods_bySku), ("cmp.Compare[string]", f_cmp_Compare_string_), ("cmp.isNaN[string]", f_cmp_isNaN_string_),
  ("slices.IsSortedFunc[[]haberdash/api.Item,haberdash/api.Item]", f_slices_IsSortedFunc___api_Item_api_Item_),
  ("slices.BinarySearchFunc[[]haberdash/api.Item,haberdash/api.Item,haberdash/api.Item]", f_slices_BinarySearchFunc___api_Item_api_Item_api_Item_),
  ("slices.IndexFunc[[]haberdash/api.Item,haberdash/api.Item]", f_slices_IndexFunc___api_Item_api_Item_)]
theorem aw14_4 : run (look fs14) 600 (.call "haberdash/haberdashlaw14.awake" [] (List.replicate 4 none)) = some (.ret (.v (.bool true)) (List.replicate 4 none)) := by kernel_rfl
theorem aw14_5 : run (look fs14) 600 (.call "haberdash/haberdashlaw14.awake" [] (List.replicate 5 none)) = some (.ret (.v (.bool true)) (List.replicate 5 none)) := by kernel_rfl
theorem aw14_6 : run (look fs14) 600 (.call "haberdash/haberdashlaw14.awake" [] (List.replicate 6 none)) = some (.ret (.v (.bool true)) (List.replicate 6 none)) := by kernel_rfl
theorem aw14_8 : run (look fs14) 600 (.call "haberdash/haberdashlaw14.awake" [] (List.replicate 8 none)) = some (.ret (.v (.bool true)) (List.replicate 8 none)) := by kernel_rfl
theorem Law14.fs (H : Law14 prog) : Holds prog fs14 := ⟨H.awake, H.units, H.checkF, H.check1, H.gross, H.itemsF, H.check, H.line, H.sums, H.may, H.may1, H.find, H.find1, H.bySku, H.cmp, H.nan, H.sorted, H.search, H.indexF, trivial⟩
theorem awake14 (H : Law14 prog) {G} (hG : G.length = 4 ∨ G.length = 5 ∨ G.length = 6 ∨ G.length = 8) : Ev prog (.call "haberdash/haberdashlaw14.awake" [] G) (.ret (.v (.bool true)) G) := by
  rcases hG with h | h | h | h
  · exact ev_run H.fs h aw14_4
  · exact ev_run H.fs h aw14_5
  · exact ev_run H.fs h aw14_6
  · exact ev_run H.fs h aw14_8
end Go.AM
