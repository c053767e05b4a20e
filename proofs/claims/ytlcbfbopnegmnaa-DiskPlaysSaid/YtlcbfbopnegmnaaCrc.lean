import Derived.Test.YtlcbfbopnegmnaaAMA
import Derived.Test.YtlcbfbopnegmnaaAMD
import Derived.Laws.Bits64
set_option linter.unusedVariables false
set_option linter.unusedSimpArgs false
namespace Go.AM
def crcBit (s : BitVec 32) : BitVec 32 := if (s &&& 1#32) == 1#32 then (s >>> 1) ^^^ 0xedb88320#32 else s >>> 1
def crcBits : Nat → BitVec 32 → BitVec 32
  | 0, s => s
  | n + 1, s => crcBits n (crcBit s)
def crcByte (s : BitVec 32) (c : UInt8) : BitVec 32 := crcBits 8 (s ^^^ BitVec.ofNat 32 c.toNat)
def crcMore (s : BitVec 32) (bs : List UInt8) : BitVec 32 := ~~~ (bs.foldl crcByte (~~~ s))
theorem c1 : Value.int .u32 1 = u32 1#32 := rfl
theorem c2 : Value.int .u32 3988292384 = u32 0xedb88320#32 := rfl
theorem c0 : Value.int .u32 0 = u32 0#32 := rfl
variable {prog : String → Option IFn}
end Go.AM
