import Derived.Test.YtlcbfbopnegmnaaAMA
import Derived.Test.YtlcbfbopnegmnaaCrc
import Derived.Test.YtlcbfbopnegmnaaAMD
set_option linter.unusedVariables false
set_option linter.unusedSimpArgs false
namespace Go.AM
def f_help_Bytes_B : ICode :=
  (.seq
    (.ops [
      ⟨some 4, .id, [.c (.bool false)], none, [], [], false⟩])
    (.seq
      (.ops [
        ⟨some 5, .id, [.t 0], none, [], [], false⟩,
        ⟨some 6, .bytesStr, [.t 5], none, [], [], false⟩,
        ⟨some 7, .id, [.t 1], none, [], [], false⟩,
        ⟨some 8, .bytesStr, [.t 7], none, [], [], false⟩,
        ⟨some 9, .bin .eql, [.t 6, .t 8], none, [], [], false⟩,
        ⟨some 4, .id, [.t 9], none, [], [], false⟩])
      .ret))
def f_help_Bytes : IFn := ⟨10, 0, [.tmp 4], f_help_Bytes_B⟩
end Go.AM
namespace Go.AM
variable {prog : String → Option IFn}
def putN (bs : List UInt8) (at' : Nat) (v : BitVec 32) : Nat → List UInt8
  | 0 => bs
  | i + 1 => (putN bs at' v i).set (at' + i) (UInt8.ofNat (v >>> (24 - 8 * i)).toNat)
def put4 (bs : List UInt8) (at' : Nat) (v : BitVec 32) : List UInt8 := putN bs at' v 4
end Go.AM
namespace Go.AM
variable {prog : String → Option IFn}
structure LeafD where
  e : BitVec 32
  n : BitVec 32
  f : Bool
  l : Bool
  d : List UInt8
def LeafD.cells (x : LeafD) (a : AV) : List AV := [.v (u32 x.e), .v (u32 x.n), .v (.bool x.f), .v (.bool x.l), a]
def LeafD.right (x : LeafD) : Bool := x.e != 0#32 && (decide ((x.d.length : Int) ≥ 1) && (decide ((x.d.length : Int) ≤ 46) && (x.l || ((x.d.length : Int) == 46))))
def LeafD.flags (x : LeafD) : UInt8 := if x.l then (if x.f then 3 else 2) else (if x.f then 1 else 0)
theorem k0 : Value.int .u8 0 = u8 0 := rfl
theorem k1 : Value.int .u8 1 = u8 1 := rfl
theorem k2 : Value.int .u8 2 = u8 2 := rfl
def LeafD.body (x : LeafD) : List UInt8 := blit ((((put4 (put4 zs64 0 x.e) 4 x.n).set 8 x.flags).set 9 (UInt8.ofNat x.d.length))) 10 x.d
def LeafD.bytes (x : LeafD) : List UInt8 := put4 (put4 x.body 56 (crcMore 0#32 (x.body.take 56))) 60 x.e
end Go.AM
