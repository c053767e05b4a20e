import Derived.Test.YtdcnjckkcfoppaaJourF
import Derived.Test.YtdcnjckkcfoppaaLawJourB
import Derived.Test.YtdcnjckkcfoppaaLawScopeB
set_option linter.unusedVariables false
set_option linter.unusedSimpArgs false
namespace Go.AM
variable {prog : String → Option IFn}
variable {n frm N : Nat} {D E : DskD} {J K : JD} {X Y : List (Option Blk)}
theorem mod_op (hf : prog "haberdash/haberdashplay.Mod" = some f_play_Mod) {c z : Int} (n : Nat) (hz : z = n) (h0 : 0 < n) (hn : n < 9223372036854775808) {h : Hp} (hg : Good h) :
    Ev prog (.op (.call "haberdash/haberdashplay.Mod" []) [.v (.int .i64 c), .v (.int .i64 z)] h) (.val (.v (.int .i64 (umod c n : Nat))) h) :=
  op_turn h (Mod_spec hf n hz h0 hn) rfl rfl rfl hg hg
end Go.AM
