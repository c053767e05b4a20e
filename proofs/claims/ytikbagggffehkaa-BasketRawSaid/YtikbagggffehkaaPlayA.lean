import Derived.Test.YtikbagggffehkaaLawScopeB
import Derived.Test.YtikbagggffehkaaAME
set_option linter.unusedVariables false
set_option linter.unusedSimpArgs false
namespace Go.AM
variable {prog : String → Option IFn}
structure PlayBase (prog : String → Option IFn) : Prop where
  pick : prog "haberdash/haberdashplay.pick" = some f_play_pick
  mod : prog "haberdash/haberdashplay.Mod" = some f_play_Mod
  sku : prog "haberdash/haberdashplay.Sku" = some f_play_Sku
  cat : prog "haberdash/haberdashplay.Category" = some f_play_Category
end Go.AM
