import Derived.Test.YtdcnjckkcfoppaaLeafB
import Derived.Test.YtdcnjckkcfoppaaHelp
import Derived.Test.YtdcnjckkcfoppaaAMD
set_option linter.unusedVariables false
set_option linter.unusedSimpArgs false
namespace Go.AM
variable {prog : String → Option IFn}
structure TakeLib (prog : String → Option IFn) : Prop extends LeafLib prog where
  clone : prog "bytes.Clone" = some f_bytes_Clone
  take : prog "haberdash/leaf.Take" = some f_leaf_Take
  rtake : prog "haberdash/haberdashref04.Take" = some f_ref04_Take
end Go.AM
namespace Go.AM
variable {prog : String → Option IFn}
def be4 (v : BitVec 32) : List UInt8 := [UInt8.ofNat (v >>> 24).toNat, UInt8.ofNat (v >>> 16).toNat, UInt8.ofNat (v >>> 8).toNat, UInt8.ofNat (v >>> 0).toNat]
def LeafD.front (x : LeafD) : List UInt8 := be4 x.e ++ (be4 x.n ++ ([x.flags, UInt8.ofNat x.d.length] ++ (x.d ++ List.replicate (46 - x.d.length) 0)))
def LeafD.sum (x : LeafD) : BitVec 32 := crcMore 0#32 x.front
end Go.AM
