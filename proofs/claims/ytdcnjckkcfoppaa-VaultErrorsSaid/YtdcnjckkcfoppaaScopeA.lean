import Derived.Test.YtdcnjckkcfoppaaAMA
import Derived.Test.YtdcnjckkcfoppaaAMD
import Derived.Test.YtdcnjckkcfoppaaHelp
set_option linter.unusedVariables false
set_option linter.unusedSimpArgs false
namespace Go.AM
def f_play_Mod_B : ICode :=
 (.seq
 (.ops [ iP 4 .id [kI 0]])
 (.seq
 (.ops [ iP 5 .id [.t 0], iP 6 (.convInt .u64) [.t 5], iP 7 .id [.t 1], iP 8 (.convInt .u64) [.t 7], iP 9 (.bin .rem) [.t 6, .t 8], iP 10 (.convInt .i64) [.t 9], iP 4 .id [.t 10]])
 .ret))
def f_play_Mod : IFn := ⟨11, 0, [.tmp 4], f_play_Mod_B⟩
end Go.AM
namespace Go.AM
variable {prog : String → Option IFn}
abbrev Txt := List UInt8
end Go.AM
