import Derived.Test.YtikbagggffehkaaAMA
import Derived.Test.YtikbagggffehkaaAMD
import Derived.Laws.Bits64
set_option linter.unusedVariables false
set_option linter.unusedSimpArgs false
namespace Go.AM
theorem c1 : Value.int .u32 1 = u32 1#32 := rfl
theorem c2 : Value.int .u32 3988292384 = u32 0xedb88320#32 := rfl
theorem c0 : Value.int .u32 0 = u32 0#32 := rfl
variable {prog : String → Option IFn}
end Go.AM
namespace Go.AM
variable {prog : String → Option IFn}
def aw : List UInt8 := [49, 50, 51, 52, 53, 54, 55, 56, 57]
end Go.AM
