import Derived.Test.YtikbagggffehkaaAMA
import Derived.Test.YtikbagggffehkaaCrc
import Derived.Test.YtikbagggffehkaaAMD
set_option linter.unusedVariables false
set_option linter.unusedSimpArgs false
namespace Go.AM
def f_help_Bytes_B : ICode :=
 (.seq
 (.ops [ iP 4 .id [.c (.bool false)]])
 (.seq
 (.ops [ iP 5 .id [.t 0], iP 6 .bytesStr [.t 5], iP 7 .id [.t 1], iP 8 .bytesStr [.t 7], iP 9 (.bin .eql) [.t 6, .t 8], iP 4 .id [.t 9]])
 .ret))
def f_help_Bytes : IFn := ⟨10, 0, [.tmp 4], f_help_Bytes_B⟩
def f_bytes_Clone_B : ICode :=
 (.seq
 (.ops [ iP 2 .id [.c (.slice none 0 0)]])
 (.seq
 (.seq
 (.ops [ iP 3 .id [.t 0], iP 4 (.eqNil false .slice) [.t 3, .c (.slice none 0 0)]])
 (.cond (.t 4)
 (.seq
 (.ops [ iP 2 .id [.c (.slice none 0 0)]])
 .ret)
 .skip))
 (.seq
 (.ops [ iP 5 (.buildSlice 0 false 1 0 [(.int .u8 0)] []) [], iP 6 .id [.t 0], iP 7 (.append 1 false 1 1) [.t 5, .t 6], iP 2 .id [.t 7]])
 .ret)))
def f_bytes_Clone : IFn := ⟨8, 2, [.tmp 2], f_bytes_Clone_B⟩
end Go.AM
namespace Go.AM
variable {prog : String → Option IFn}
theorem k0 : Value.int .u8 0 = u8 0 := rfl
theorem k1 : Value.int .u8 1 = u8 1 := rfl
theorem k2 : Value.int .u8 2 = u8 2 := rfl
end Go.AM
