import Derived.Test.YtgblalimcndgnaaAMA
import Derived.Test.YtgblalimcndgnaaAMD
import Derived.Laws.Bits64
set_option linter.unusedVariables false
set_option linter.unusedSimpArgs false
/- Printed by wip/gen/Gen.lean: our texts of the functions. -/
namespace Go.AM

def f_haberdash_haberdashlaw05_CrcAll_B : ICode :=
  (.seq
    (.ops [
      ⟨some 4, .id, [.c (.bool false)], none, [], [], false⟩])
    (.seq
      (.seq
        (.ops [
          ⟨some 5, .id, [.t 1], none, [], [], false⟩,
          ⟨some 6, .lenSlice, [.t 5], none, [], [], false⟩,
          ⟨some 7, .bin .gtr, [.t 6, .c (.int .i64 3000)], none, [], [], false⟩])
        (.cond (.t 7)
          (.seq
            (.ops [
              ⟨some 8, .call "haberdash/haberdashlaw05.awake" [], [], none, [], [], false⟩,
              ⟨some 4, .id, [.t 8], none, [], [], false⟩])
            .ret)
          .skip))
      (.seq
        (.ops [
          ⟨some 9, .call "haberdash/haberdashlaw05.awake" [], [], none, [], [], false⟩,
          ⟨some 10, .id, [.t 9], none, [], [], false⟩,
          ⟨some 11, .id, [.t 1], (some (10, true)), [], [], false⟩,
          ⟨some 12, .call "haberdash/crc.Sum" [], [.t 11], (some (10, true)), [], [], false⟩,
          ⟨some 13, .id, [.t 1], (some (10, true)), [], [], false⟩,
          ⟨some 14, .call "haberdash/haberdashref04.Sum" [], [.t 13], (some (10, true)), [], [], false⟩,
          ⟨some 15, .bin .eql, [.t 12, .t 14], (some (10, true)), [], [], false⟩,
          ⟨some 16, .pick, [.t 10, .t 15, .c (.bool false)], none, [], [], false⟩,
          ⟨some 17, .id, [.t 16], none, [], [], false⟩,
          ⟨some 18, .id, [.t 0], (some (17, true)), [], [], false⟩,
          ⟨some 19, .id, [.t 1], (some (17, true)), [], [], false⟩,
          ⟨some 20, .call "haberdash/crc.More" [], [.t 18, .t 19], (some (17, true)), [], [], false⟩,
          ⟨some 21, .id, [.t 0], (some (17, true)), [], [], false⟩,
          ⟨some 22, .id, [.t 1], (some (17, true)), [], [], false⟩,
          ⟨some 23, .call "haberdash/haberdashref04.More" [], [.t 21, .t 22], (some (17, true)), [], [], false⟩,
          ⟨some 24, .bin .eql, [.t 20, .t 23], (some (17, true)), [], [], false⟩,
          ⟨some 25, .pick, [.t 17, .t 24, .c (.bool false)], none, [], [], false⟩,
          ⟨some 4, .id, [.t 25], none, [], [], false⟩])
        .ret)))
def f_haberdash_haberdashlaw05_CrcAll : IFn := ⟨26, 0, [.tmp 4], f_haberdash_haberdashlaw05_CrcAll_B⟩
def f_haberdash_haberdashlaw05_CrcPieces_L0 : ICode :=
  (.seq
    (.seq
      (.ops [
        ⟨some 19, .id, [.t 7], none, [], [], false⟩,
        ⟨some 20, .id, [.t 1], none, [], [], false⟩,
        ⟨some 21, .lenSlice, [.t 20], none, [], [], false⟩,
        ⟨some 22, .bin .lss, [.t 19, .t 21], none, [], [], false⟩])
      (.cond (.t 22)
        .skip
        (.exit 0)))
    (.seq
      (.block 1
        (.seq
          (.ops [
            ⟨some 25, .id, [.t 6], none, [], [], false⟩,
            ⟨some 26, .id, [.t 1], none, [], [], false⟩,
            ⟨some 27, .id, [.t 7], none, [], [], false⟩,
            ⟨some 28, .indexAddr 1, [.t 26, .t 27], none, [], [], false⟩,
            ⟨some 29, .load 1 false, [.t 28], none, [], [], false⟩,
            ⟨some 30, .convInt .u64, [.t 29], none, [], [], false⟩,
            ⟨some 31, .id, [.t 0], none, [], [], false⟩,
            ⟨some 32, .lenSlice, [.t 31], none, [], [], false⟩,
            ⟨some 33, .id, [.t 6], none, [], [], false⟩,
            ⟨some 34, .bin .sub, [.t 32, .t 33], none, [], [], false⟩,
            ⟨some 35, .bin .add, [.t 34, .c (.int .i64 1)], none, [], [], false⟩,
            ⟨some 36, .convInt .u64, [.t 35], none, [], [], false⟩,
            ⟨some 37, .bin .rem, [.t 30, .t 36], none, [], [], false⟩,
            ⟨some 38, .convInt .i64, [.t 37], none, [], [], false⟩,
            ⟨some 39, .bin .add, [.t 25, .t 38], none, [], [], false⟩,
            ⟨some 8, .id, [.t 39], none, [], [], false⟩])
          (.ops [
            ⟨some 40, .id, [.t 5], none, [], [], false⟩,
            ⟨some 41, .id, [.t 0], none, [], [], false⟩,
            ⟨some 42, .id, [.t 6], none, [], [], false⟩,
            ⟨some 43, .id, [.t 8], none, [], [], false⟩,
            ⟨some 44, .slice 1 true true false, [.t 41, .t 42, .t 43], none, [], [], false⟩,
            ⟨some 45, .call "haberdash/crc.More" [], [.t 40, .t 44], none, [], [], false⟩,
            ⟨some 46, .id, [.t 8], none, [], [], false⟩,
            ⟨some 5, .id, [.t 45], none, [], [], false⟩,
            ⟨some 6, .id, [.t 46], none, [], [], false⟩])))
      (.ops [
        ⟨some 23, .id, [.t 7], none, [], [], false⟩,
        ⟨some 24, .bin .add, [.t 23, .c (.int .i64 1)], none, [], [], false⟩,
        ⟨some 7, .id, [.t 24], none, [], [], false⟩])))
def f_haberdash_haberdashlaw05_CrcPieces_B : ICode :=
  (.seq
    (.ops [
      ⟨some 4, .id, [.c (.bool false)], none, [], [], false⟩])
    (.seq
      (.seq
        (.ops [
          ⟨some 9, .id, [.t 0], none, [], [], false⟩,
          ⟨some 10, .lenSlice, [.t 9], none, [], [], false⟩,
          ⟨some 11, .bin .gtr, [.t 10, .c (.int .i64 2000)], none, [], [], false⟩,
          ⟨some 12, .id, [.t 11], none, [], [], false⟩,
          ⟨some 13, .id, [.t 1], (some (12, false)), [], [], false⟩,
          ⟨some 14, .lenSlice, [.t 13], (some (12, false)), [], [], false⟩,
          ⟨some 15, .bin .gtr, [.t 14, .c (.int .i64 40)], (some (12, false)), [], [], false⟩,
          ⟨some 16, .pick, [.t 12, .c (.bool true), .t 15], none, [], [], false⟩])
        (.cond (.t 16)
          (.seq
            (.ops [
              ⟨some 17, .call "haberdash/haberdashlaw05.awake" [], [], none, [], [], false⟩,
              ⟨some 4, .id, [.t 17], none, [], [], false⟩])
            .ret)
          .skip))
      (.seq
        (.ops [
          ⟨some 18, .call "haberdash/crc.Sum" [], [.c (.slice none 0 0)], none, [], [], false⟩,
          ⟨some 5, .id, [.t 18], none, [], [], false⟩,
          ⟨some 6, .id, [.c (.int .i64 0)], none, [], [], false⟩])
        (.seq
          (.seq
            (.ops [
              ⟨some 7, .id, [.c (.int .i64 0)], none, [], [], false⟩])
            (.block 0
              (.loop [19, 20, 21, 22, 25, 26, 27, 28, 29, 30, 31, 32, 33, 34, 35, 36, 37, 38, 39, 8, 40, 41, 42, 43, 44, 45, 46, 23, 24] [] f_haberdash_haberdashlaw05_CrcPieces_L0)))
          (.seq
            (.ops [
              ⟨some 47, .call "haberdash/haberdashlaw05.awake" [], [], none, [], [], false⟩,
              ⟨some 48, .id, [.t 47], none, [], [], false⟩,
              ⟨some 49, .id, [.t 5], (some (48, true)), [], [], false⟩,
              ⟨some 50, .id, [.t 0], (some (48, true)), [], [], false⟩,
              ⟨some 51, .id, [.t 6], (some (48, true)), [], [], false⟩,
              ⟨some 52, .slice 1 true false false, [.t 50, .t 51], (some (48, true)), [], [], false⟩,
              ⟨some 53, .call "haberdash/crc.More" [], [.t 49, .t 52], (some (48, true)), [], [], false⟩,
              ⟨some 54, .id, [.t 0], (some (48, true)), [], [], false⟩,
              ⟨some 55, .call "haberdash/crc.Sum" [], [.t 54], (some (48, true)), [], [], false⟩,
              ⟨some 56, .bin .eql, [.t 53, .t 55], (some (48, true)), [], [], false⟩,
              ⟨some 57, .pick, [.t 48, .t 56, .c (.bool false)], none, [], [], false⟩,
              ⟨some 4, .id, [.t 57], none, [], [], false⟩])
            .ret)))))
def f_haberdash_haberdashlaw05_CrcPieces : IFn := ⟨58, 0, [.tmp 4], f_haberdash_haberdashlaw05_CrcPieces_B⟩
def f_haberdash_haberdashlaw05_CrcTurned_L0 : ICode :=
  (.seq
    (.seq
      (.ops [
        ⟨some 29, .id, [.t 8], none, [], [], false⟩,
        ⟨some 30, .bin .lss, [.t 29, .c (.int .i64 32)], none, [], [], false⟩])
      (.cond (.t 30)
        .skip
        (.exit 0)))
    (.seq
      (.block 1
        (.seq
          (.ops [
            ⟨some 33, .id, [.t 2], none, [], [], false⟩,
            ⟨some 34, .id, [.t 8], none, [], [], false⟩,
            ⟨some 35, .convInt .u64, [.t 34], none, [], [], false⟩,
            ⟨some 36, .bin .shr, [.t 33, .t 35], none, [], [], false⟩,
            ⟨some 37, .bin .and, [.t 36, .c (.int .u32 1)], none, [], [], false⟩,
            ⟨some 38, .bin .eql, [.t 37, .c (.int .u32 1)], none, [], [], false⟩])
          (.cond (.t 38)
            (.ops [
              ⟨some 39, .id, [.t 7], none, [], [], false⟩,
              ⟨some 40, .id, [.t 1], none, [], [], false⟩,
              ⟨some 41, .id, [.t 8], none, [], [], false⟩,
              ⟨some 42, .bin .add, [.t 40, .t 41], none, [], [], false⟩,
              ⟨some 43, .bin .quo, [.t 42, .c (.int .i64 8)], none, [], [], false⟩,
              ⟨some 44, .indexAddr 1, [.t 39, .t 43], none, [], [], false⟩,
              ⟨some 45, .load 1 false, [.t 44], none, [], [], false⟩,
              ⟨some 46, .id, [.t 1], none, [], [], false⟩,
              ⟨some 47, .id, [.t 8], none, [], [], false⟩,
              ⟨some 48, .bin .add, [.t 46, .t 47], none, [], [], false⟩,
              ⟨some 49, .bin .rem, [.t 48, .c (.int .i64 8)], none, [], [], false⟩,
              ⟨some 50, .convInt .u64, [.t 49], none, [], [], false⟩,
              ⟨some 51, .bin .shl, [.c (.int .u8 1), .t 50], none, [], [], false⟩,
              ⟨some 52, .bin .xor, [.t 45, .t 51], none, [], [], false⟩,
              ⟨some 53, .indexAddr 1, [.t 39, .t 43], none, [], [], false⟩,
              ⟨none, .store 1 false, [.t 53, .t 52], none, [], [], false⟩])
            .skip)))
      (.ops [
        ⟨some 31, .id, [.t 8], none, [], [], false⟩,
        ⟨some 32, .bin .add, [.t 31, .c (.int .i64 1)], none, [], [], false⟩,
        ⟨some 8, .id, [.t 32], none, [], [], false⟩])))
def f_haberdash_haberdashlaw05_CrcTurned_B : ICode :=
  (.seq
    (.ops [
      ⟨some 6, .id, [.c (.bool false)], none, [], [], false⟩])
    (.seq
      (.seq
        (.ops [
          ⟨some 9, .id, [.t 0], none, [], [], false⟩,
          ⟨some 10, .lenSlice, [.t 9], none, [], [], false⟩,
          ⟨some 11, .bin .lss, [.t 10, .c (.int .i64 5)], none, [], [], false⟩,
          ⟨some 12, .id, [.t 11], none, [], [], false⟩,
          ⟨some 13, .id, [.t 0], (some (12, false)), [], [], false⟩,
          ⟨some 14, .lenSlice, [.t 13], (some (12, false)), [], [], false⟩,
          ⟨some 15, .bin .gtr, [.t 14, .c (.int .i64 1000)], (some (12, false)), [], [], false⟩,
          ⟨some 16, .pick, [.t 12, .c (.bool true), .t 15], none, [], [], false⟩])
        (.cond (.t 16)
          (.seq
            (.ops [
              ⟨some 17, .call "haberdash/haberdashlaw05.awake" [], [], none, [], [], false⟩,
              ⟨some 6, .id, [.t 17], none, [], [], false⟩])
            .ret)
          .skip))
      (.seq
        (.ops [
          ⟨some 18, .id, [.t 1], none, [], [], false⟩,
          ⟨some 19, .convInt .u64, [.t 18], none, [], [], false⟩,
          ⟨some 20, .id, [.t 0], none, [], [], false⟩,
          ⟨some 21, .lenSlice, [.t 20], none, [], [], false⟩,
          ⟨some 22, .bin .mul, [.c (.int .i64 8), .t 21], none, [], [], false⟩,
          ⟨some 23, .bin .sub, [.t 22, .c (.int .i64 31)], none, [], [], false⟩,
          ⟨some 24, .convInt .u64, [.t 23], none, [], [], false⟩,
          ⟨some 25, .bin .rem, [.t 19, .t 24], none, [], [], false⟩,
          ⟨some 26, .convInt .i64, [.t 25], none, [], [], false⟩,
          ⟨some 1, .id, [.t 26], none, [], [], false⟩])
        (.seq
          (.ops [
            ⟨some 27, .id, [.t 0], none, [], [], false⟩,
            ⟨some 28, .append 0 false 1 1, [.c (.slice none 0 0), .t 27], none, [], [], false⟩,
            ⟨some 7, .id, [.t 28], none, [], [], false⟩])
          (.seq
            (.seq
              (.ops [
                ⟨some 8, .id, [.c (.int .i64 0)], none, [], [], false⟩])
              (.block 0
                (.loop [29, 30, 33, 34, 35, 36, 37, 38, 39, 40, 41, 42, 43, 44, 45, 46, 47, 48, 49, 50, 51, 52, 53, 31, 32] [] f_haberdash_haberdashlaw05_CrcTurned_L0)))
            (.seq
              (.ops [
                ⟨some 54, .call "haberdash/haberdashlaw05.awake" [], [], none, [], [], false⟩,
                ⟨some 55, .id, [.t 54], none, [], [], false⟩,
                ⟨some 56, .id, [.t 0], (some (55, true)), [], [], false⟩,
                ⟨some 57, .call "haberdash/crc.Sum" [], [.t 56], (some (55, true)), [], [], false⟩,
                ⟨some 58, .id, [.t 7], (some (55, true)), [], [], false⟩,
                ⟨some 59, .call "haberdash/crc.Sum" [], [.t 58], (some (55, true)), [], [], false⟩,
                ⟨some 60, .bin .eql, [.t 57, .t 59], (some (55, true)), [], [], false⟩,
                ⟨some 61, .id, [.t 2], (some (55, true)), [], [], false⟩,
                ⟨some 62, .bin .eql, [.t 61, .c (.int .u32 0)], (some (55, true)), [], [], false⟩,
                ⟨some 63, .eqBool false, [.t 60, .t 62], (some (55, true)), [], [], false⟩,
                ⟨some 64, .pick, [.t 55, .t 63, .c (.bool false)], none, [], [], false⟩,
                ⟨some 6, .id, [.t 64], none, [], [], false⟩])
              .ret))))))
def f_haberdash_haberdashlaw05_CrcTurned : IFn := ⟨65, 1, [.tmp 6], f_haberdash_haberdashlaw05_CrcTurned_B⟩
def f_haberdash_haberdashlaw05_CrcThree_L0 : ICode :=
  (.seq
    (.seq
      (.ops [
        ⟨some 19, .id, [.t 9], none, [], [], false⟩,
        ⟨some 20, .id, [.t 7], none, [], [], false⟩,
        ⟨some 21, .bin .lss, [.t 19, .t 20], none, [], [], false⟩])
      (.cond (.t 21)
        .skip
        (.exit 0)))
    (.seq
      (.block 1
        (.draw [
          ⟨some 24, .id, [.t 8], none, [], [], false⟩,
          ⟨some 25, .id, [.t 9], none, [], [], false⟩,
          ⟨some 26, .id, [.t 0], none, [], [], false⟩,
          ⟨some 27, .id, [.t 9], none, [], [], false⟩,
          ⟨some 28, .indexAddr 1, [.t 26, .t 27], none, [], [], false⟩,
          ⟨some 29, .load 1 false, [.t 28], none, [], [], false⟩,
          ⟨some 30, .id, [.t 1], none, [], [], false⟩,
          ⟨some 31, .id, [.t 9], none, [], [], false⟩,
          ⟨some 32, .indexAddr 1, [.t 30, .t 31], none, [], [], false⟩,
          ⟨some 33, .load 1 false, [.t 32], none, [], [], false⟩,
          ⟨some 34, .bin .xor, [.t 29, .t 33], none, [], [], false⟩,
          ⟨some 35, .id, [.t 2], none, [], [], false⟩,
          ⟨some 36, .id, [.t 9], none, [], [], false⟩,
          ⟨some 37, .indexAddr 1, [.t 35, .t 36], none, [], [], false⟩,
          ⟨some 38, .load 1 false, [.t 37], none, [], [], false⟩,
          ⟨some 39, .bin .xor, [.t 34, .t 38], none, [], [], false⟩,
          ⟨some 40, .indexAddr 1, [.t 24, .t 25], none, [], [], false⟩,
          ⟨none, .store 1 false, [.t 40, .t 39], none, [], [0], false⟩]))
      (.ops [
        ⟨some 22, .id, [.t 9], none, [], [], false⟩,
        ⟨some 23, .bin .add, [.t 22, .c (.int .i64 1)], none, [], [], false⟩,
        ⟨some 9, .id, [.t 23], none, [], [], false⟩])))
def f_haberdash_haberdashlaw05_CrcThree_B : ICode :=
  (.seq
    (.ops [
      ⟨some 6, .id, [.c (.bool false)], none, [], [], false⟩])
    (.seq
      (.ops [
        ⟨some 10, .id, [.t 0], none, [], [], false⟩,
        ⟨some 11, .lenSlice, [.t 10], none, [], [], false⟩,
        ⟨some 12, .id, [.t 1], none, [], [], false⟩,
        ⟨some 13, .lenSlice, [.t 12], none, [], [], false⟩,
        ⟨some 14, .id, [.t 2], none, [], [], false⟩,
        ⟨some 15, .lenSlice, [.t 14], none, [], [], false⟩,
        ⟨some 16, .min, [.t 11, .t 13, .t 15, .c (.int .i64 500)], none, [], [], false⟩,
        ⟨some 7, .id, [.t 16], none, [], [], false⟩])
      (.seq
        (.ops [
          ⟨some 17, .id, [.t 7], none, [], [], false⟩,
          ⟨some 18, .makeSlice 0 1 1 [(.int .u8 0)], [.t 17, .t 17], none, [], [], false⟩,
          ⟨some 8, .id, [.t 18], none, [], [], false⟩])
        (.seq
          (.seq
            (.ops [
              ⟨some 9, .id, [.c (.int .i64 0)], none, [], [], false⟩])
            (.block 0
              (.loop [19, 20, 21, 24, 25, 26, 27, 28, 29, 30, 31, 32, 33, 34, 35, 36, 37, 38, 39, 40, 22, 23] [] f_haberdash_haberdashlaw05_CrcThree_L0)))
          (.seq
            (.draw [
              ⟨some 41, .call "haberdash/haberdashlaw05.awake" [], [], none, [], [], false⟩,
              ⟨some 42, .id, [.t 41], none, [], [], false⟩,
              ⟨some 43, .id, [.t 8], (some (42, true)), [], [], false⟩,
              ⟨some 44, .call "haberdash/crc.Sum" [], [.t 43], (some (42, true)), [], [], false⟩,
              ⟨some 45, .id, [.t 0], (some (42, true)), [], [], false⟩,
              ⟨some 46, .id, [.t 7], (some (42, true)), [], [], false⟩,
              ⟨some 47, .slice 1 false true false, [.t 45, .t 46], (some (42, true)), [], [], false⟩,
              ⟨some 48, .call "haberdash/crc.Sum" [], [.t 47], (some (42, true)), [], [], false⟩,
              ⟨some 49, .id, [.t 1], (some (42, true)), [], [], false⟩,
              ⟨some 50, .id, [.t 7], (some (42, true)), [], [], false⟩,
              ⟨some 51, .slice 1 false true false, [.t 49, .t 50], (some (42, true)), [], [], false⟩,
              ⟨some 52, .call "haberdash/crc.Sum" [], [.t 51], (some (42, true)), [], [], false⟩,
              ⟨some 53, .bin .xor, [.t 48, .t 52], (some (42, true)), [], [], false⟩,
              ⟨some 54, .id, [.t 2], (some (42, true)), [], [], false⟩,
              ⟨some 55, .id, [.t 7], (some (42, true)), [], [], false⟩,
              ⟨some 56, .slice 1 false true false, [.t 54, .t 55], (some (42, true)), [], [], false⟩,
              ⟨some 57, .call "haberdash/crc.Sum" [], [.t 56], (some (42, true)), [], [], false⟩,
              ⟨some 58, .bin .xor, [.t 53, .t 57], (some (42, true)), [], [], false⟩,
              ⟨some 59, .bin .eql, [.t 44, .t 58], (some (42, true)), [], [], false⟩,
              ⟨some 60, .pick, [.t 42, .t 59, .c (.bool false)], none, [], [], false⟩,
              ⟨some 6, .id, [.t 60], none, [], [], false⟩])
            .ret)))))
def f_haberdash_haberdashlaw05_CrcThree : IFn := ⟨61, 1, [.tmp 6], f_haberdash_haberdashlaw05_CrcThree_B⟩
def f_haberdash_haberdashlaw05_CrcEnds_B : ICode :=
  (.seq
    (.ops [
      ⟨some 2, .id, [.c (.bool false)], none, [], [], false⟩])
    (.seq
      (.seq
        (.ops [
          ⟨some 5, .id, [.t 0], none, [], [], false⟩,
          ⟨some 6, .lenSlice, [.t 5], none, [], [], false⟩,
          ⟨some 7, .bin .gtr, [.t 6, .c (.int .i64 1000)], none, [], [], false⟩])
        (.cond (.t 7)
          (.seq
            (.ops [
              ⟨some 8, .call "haberdash/haberdashlaw05.awake" [], [], none, [], [], false⟩,
              ⟨some 2, .id, [.t 8], none, [], [], false⟩])
            .ret)
          .skip))
      (.seq
        (.ops [
          ⟨some 9, .id, [.t 0], none, [], [], false⟩,
          ⟨some 10, .call "haberdash/crc.Sum" [], [.t 9], none, [], [], false⟩,
          ⟨some 3, .id, [.t 10], none, [], [], false⟩])
        (.seq
          (.ops [
            ⟨some 11, .id, [.t 0], none, [], [], false⟩,
            ⟨some 12, .append 0 false 1 1, [.c (.slice none 0 0), .t 11], none, [], [], false⟩,
            ⟨some 13, .id, [.t 3], none, [], [], false⟩,
            ⟨some 14, .convInt .u8, [.t 13], none, [], [], false⟩,
            ⟨some 15, .id, [.t 3], none, [], [], false⟩,
            ⟨some 16, .bin .shr, [.t 15, .c (.int .u64 8)], none, [], [], false⟩,
            ⟨some 17, .convInt .u8, [.t 16], none, [], [], false⟩,
            ⟨some 18, .id, [.t 3], none, [], [], false⟩,
            ⟨some 19, .bin .shr, [.t 18, .c (.int .u64 16)], none, [], [], false⟩,
            ⟨some 20, .convInt .u8, [.t 19], none, [], [], false⟩,
            ⟨some 21, .id, [.t 3], none, [], [], false⟩,
            ⟨some 22, .bin .shr, [.t 21, .c (.int .u64 24)], none, [], [], false⟩,
            ⟨some 23, .convInt .u8, [.t 22], none, [], [], false⟩,
            ⟨some 24, .buildSlice 1 false 1 4 [(.int .u8 0)] [(0, 1), (1, 1), (2, 1), (3, 1)], [.t 14, .t 17, .t 20, .t 23], none, [], [], false⟩,
            ⟨some 25, .append 2 false 1 1, [.t 12, .t 24], none, [], [], false⟩,
            ⟨some 4, .id, [.t 25], none, [], [], false⟩])
          (.seq
            (.ops [
              ⟨some 26, .call "haberdash/haberdashlaw05.awake" [], [], none, [], [], false⟩,
              ⟨some 27, .id, [.t 26], none, [], [], false⟩,
              ⟨some 28, .id, [.t 4], (some (27, true)), [], [], false⟩,
              ⟨some 29, .call "haberdash/crc.Sum" [], [.t 28], (some (27, true)), [], [], false⟩,
              ⟨some 30, .buildSlice 3 false 1 4 [(.int .u8 0)] [(0, 1), (1, 1), (2, 1), (3, 1)], [.c (.int .u8 0), .c (.int .u8 0), .c (.int .u8 0), .c (.int .u8 0)], (some (27, true)), [], [], false⟩,
              ⟨some 31, .call "haberdash/crc.Sum" [], [.t 30], (some (27, true)), [], [], false⟩,
              ⟨some 32, .bin .eql, [.t 29, .t 31], (some (27, true)), [], [], false⟩,
              ⟨some 33, .pick, [.t 27, .t 32, .c (.bool false)], none, [], [], false⟩,
              ⟨some 34, .id, [.t 33], none, [], [], false⟩,
              ⟨some 35, .call "haberdash/crc.Sum" [], [.c (.slice none 0 0)], (some (34, true)), [], [], false⟩,
              ⟨some 36, .bin .eql, [.t 35, .c (.int .u32 0)], (some (34, true)), [], [], false⟩,
              ⟨some 37, .pick, [.t 34, .t 36, .c (.bool false)], none, [], [], false⟩,
              ⟨some 2, .id, [.t 37], none, [], [], false⟩])
            .ret)))))
def f_haberdash_haberdashlaw05_CrcEnds : IFn := ⟨38, 4, [.tmp 2], f_haberdash_haberdashlaw05_CrcEnds_B⟩
def f_haberdash_haberdashlaw05_awake_B : ICode :=
  (.seq
    (.ops [
      ⟨some 0, .id, [.c (.bool false)], none, [], [], false⟩])
    (.seq
      (.ops [
        ⟨some 1, .buildSlice 0 false 1 9 [(.int .u8 0)] [(0, 1), (1, 1), (2, 1), (3, 1), (4, 1), (5, 1), (6, 1), (7, 1), (8, 1)], [.c (.int .u8 49), .c (.int .u8 50), .c (.int .u8 51), .c (.int .u8 52), .c (.int .u8 53), .c (.int .u8 54), .c (.int .u8 55), .c (.int .u8 56), .c (.int .u8 57)], none, [], [], false⟩,
        ⟨some 2, .bytesBytes, [.t 1], none, [], [], false⟩,
        ⟨some 3, .call "haberdash/crc.Sum" [], [.t 2], none, [], [], false⟩,
        ⟨some 4, .bin .eql, [.t 3, .c (.int .u32 3421780262)], none, [], [], false⟩,
        ⟨some 0, .id, [.t 4], none, [], [], false⟩])
      .ret))
def f_haberdash_haberdashlaw05_awake : IFn := ⟨5, 1, [.tmp 0], f_haberdash_haberdashlaw05_awake_B⟩
def f_haberdash_crc_Sum_B : ICode :=
  (.seq
    (.ops [
      ⟨some 2, .id, [.c (.int .u32 0)], none, [], [], false⟩])
    (.seq
      (.ops [
        ⟨some 3, .id, [.t 0], none, [], [], false⟩,
        ⟨some 4, .call "haberdash/crc.More" [], [.c (.int .u32 0), .t 3], none, [], [], false⟩,
        ⟨some 2, .id, [.t 4], none, [], [], false⟩])
      .ret))
def f_haberdash_crc_Sum : IFn := ⟨5, 0, [.tmp 2], f_haberdash_crc_Sum_B⟩
def f_haberdash_haberdashref04_Sum_B : ICode :=
  (.seq
    (.ops [
      ⟨some 2, .id, [.c (.int .u32 0)], none, [], [], false⟩])
    (.seq
      (.ops [
        ⟨some 3, .id, [.t 0], none, [], [], false⟩,
        ⟨some 4, .call "haberdash/haberdashref04.More" [], [.c (.int .u32 0), .t 3], none, [], [], false⟩,
        ⟨some 2, .id, [.t 4], none, [], [], false⟩])
      .ret))
def f_haberdash_haberdashref04_Sum : IFn := ⟨5, 0, [.tmp 2], f_haberdash_haberdashref04_Sum_B⟩
def f_haberdash_crc_More_L0 : ICode :=
  (.seq
    (.ops [
      ⟨some 22, .bin .lss, [.t 21, .c (.int .i64 8)], none, [], [], false⟩])
    (.seq
      (.cond (.t 22)
        .skip
        (.exit 2))
      (.seq
        (.block 3
          (.seq
            (.ops [
              ⟨some 23, .id, [.t 5], none, [], [], false⟩,
              ⟨some 24, .bin .and, [.t 23, .c (.int .u32 1)], none, [], [], false⟩,
              ⟨some 8, .id, [.t 24], none, [], [], false⟩])
            (.seq
              (.ops [
                ⟨some 25, .id, [.t 5], none, [], [], false⟩,
                ⟨some 26, .bin .shr, [.t 25, .c (.int .u64 1)], none, [], [], false⟩,
                ⟨some 5, .id, [.t 26], none, [], [], false⟩])
              (.seq
                (.ops [
                  ⟨some 27, .id, [.t 8], none, [], [], false⟩,
                  ⟨some 28, .bin .eql, [.t 27, .c (.int .u32 1)], none, [], [], false⟩])
                (.cond (.t 28)
                  (.ops [
                    ⟨some 29, .id, [.t 5], none, [], [], false⟩,
                    ⟨some 30, .bin .xor, [.t 29, .c (.int .u32 3988292384)], none, [], [], false⟩,
                    ⟨some 5, .id, [.t 30], none, [], [], false⟩])
                  .skip)))))
        (.ops [
          ⟨some 31, .bin .add, [.t 21, .c (.int .i64 1)], none, [], [], false⟩,
          ⟨some 21, .id, [.t 31], none, [], [], false⟩]))))
def f_haberdash_crc_More_L1 : ICode :=
  (.seq
    (.ops [
      ⟨some 14, .bin .lss, [.t 13, .t 12], none, [], [], false⟩])
    (.seq
      (.cond (.t 14)
        .skip
        (.exit 0))
      (.seq
        (.block 1
          (.seq
            (.ops [
              ⟨some 15, .indexAddr 1, [.t 11, .t 13], none, [], [], false⟩,
              ⟨some 16, .load 1 false, [.t 15], none, [], [], false⟩,
              ⟨some 7, .id, [.t 16], none, [], [], false⟩])
            (.seq
              (.ops [
                ⟨some 17, .id, [.t 5], none, [], [], false⟩,
                ⟨some 18, .id, [.t 7], none, [], [], false⟩,
                ⟨some 19, .convInt .u32, [.t 18], none, [], [], false⟩,
                ⟨some 20, .bin .xor, [.t 17, .t 19], none, [], [], false⟩,
                ⟨some 5, .id, [.t 20], none, [], [], false⟩])
              (.seq
                (.ops [
                  ⟨some 21, .id, [.c (.int .i64 0)], none, [], [], false⟩])
                (.block 2
                  (.loop [22, 23, 24, 8, 25, 26, 27, 28, 29, 30, 31] [] f_haberdash_crc_More_L0))))))
        (.ops [
          ⟨some 32, .bin .add, [.t 13, .c (.int .i64 1)], none, [], [], false⟩,
          ⟨some 13, .id, [.t 32], none, [], [], false⟩]))))
def f_haberdash_crc_More_B : ICode :=
  (.seq
    (.ops [
      ⟨some 4, .id, [.c (.int .u32 0)], none, [], [], false⟩])
    (.seq
      (.ops [
        ⟨some 9, .id, [.t 0], none, [], [], false⟩,
        ⟨some 10, .un .xor, [.t 9], none, [], [], false⟩,
        ⟨some 5, .id, [.t 10], none, [], [], false⟩])
      (.seq
        (.seq
          (.ops [
            ⟨some 11, .id, [.t 1], none, [], [], false⟩,
            ⟨some 12, .lenSlice, [.t 11], none, [], [], false⟩,
            ⟨some 13, .id, [.c (.int .i64 0)], none, [], [], false⟩])
          (.block 0
            (.loop [14, 15, 16, 7, 17, 18, 19, 20, 21, 22, 23, 24, 8, 25, 26, 27, 28, 29, 30, 31, 32] [] f_haberdash_crc_More_L1)))
        (.seq
          (.ops [
            ⟨some 33, .id, [.t 5], none, [], [], false⟩,
            ⟨some 34, .un .xor, [.t 33], none, [], [], false⟩,
            ⟨some 4, .id, [.t 34], none, [], [], false⟩])
          .ret))))
def f_haberdash_crc_More : IFn := ⟨35, 0, [.tmp 4], f_haberdash_crc_More_B⟩
def f_haberdash_haberdashref04_More_L0 : ICode :=
  (.seq
    (.seq
      (.ops [
        ⟨some 17, .id, [.t 7], none, [], [], false⟩,
        ⟨some 18, .bin .lss, [.t 17, .c (.int .i64 8)], none, [], [], false⟩])
      (.cond (.t 18)
        .skip
        (.exit 2)))
    (.seq
      (.block 3
        (.seq
          (.ops [
            ⟨some 21, .id, [.t 5], none, [], [], false⟩,
            ⟨some 22, .bin .and, [.t 21, .c (.int .u32 1)], none, [], [], false⟩,
            ⟨some 23, .id, [.t 1], none, [], [], false⟩,
            ⟨some 24, .id, [.t 6], none, [], [], false⟩,
            ⟨some 25, .indexAddr 1, [.t 23, .t 24], none, [], [], false⟩,
            ⟨some 26, .load 1 false, [.t 25], none, [], [], false⟩,
            ⟨some 27, .id, [.t 7], none, [], [], false⟩,
            ⟨some 28, .convInt .u64, [.t 27], none, [], [], false⟩,
            ⟨some 29, .bin .shr, [.t 26, .t 28], none, [], [], false⟩,
            ⟨some 30, .convInt .u32, [.t 29], none, [], [], false⟩,
            ⟨some 31, .bin .and, [.t 30, .c (.int .u32 1)], none, [], [], false⟩,
            ⟨some 32, .bin .xor, [.t 22, .t 31], none, [], [], false⟩,
            ⟨some 8, .id, [.t 32], none, [], [], false⟩])
          (.seq
            (.ops [
              ⟨some 33, .id, [.t 5], none, [], [], false⟩,
              ⟨some 34, .bin .shr, [.t 33, .c (.int .u64 1)], none, [], [], false⟩,
              ⟨some 5, .id, [.t 34], none, [], [], false⟩])
            (.seq
              (.ops [
                ⟨some 35, .id, [.t 8], none, [], [], false⟩,
                ⟨some 36, .bin .eql, [.t 35, .c (.int .u32 1)], none, [], [], false⟩])
              (.cond (.t 36)
                (.ops [
                  ⟨some 37, .id, [.t 5], none, [], [], false⟩,
                  ⟨some 38, .bin .xor, [.t 37, .c (.int .u32 3988292384)], none, [], [], false⟩,
                  ⟨some 5, .id, [.t 38], none, [], [], false⟩])
                .skip)))))
      (.ops [
        ⟨some 19, .id, [.t 7], none, [], [], false⟩,
        ⟨some 20, .bin .add, [.t 19, .c (.int .i64 1)], none, [], [], false⟩,
        ⟨some 7, .id, [.t 20], none, [], [], false⟩])))
def f_haberdash_haberdashref04_More_L1 : ICode :=
  (.seq
    (.seq
      (.ops [
        ⟨some 11, .id, [.t 6], none, [], [], false⟩,
        ⟨some 12, .id, [.t 1], none, [], [], false⟩,
        ⟨some 13, .lenSlice, [.t 12], none, [], [], false⟩,
        ⟨some 14, .bin .lss, [.t 11, .t 13], none, [], [], false⟩])
      (.cond (.t 14)
        .skip
        (.exit 0)))
    (.seq
      (.block 1
        (.seq
          (.ops [
            ⟨some 7, .id, [.c (.int .i64 0)], none, [], [], false⟩])
          (.block 2
            (.loop [17, 18, 21, 22, 23, 24, 25, 26, 27, 28, 29, 30, 31, 32, 8, 33, 34, 35, 36, 37, 38, 19, 20] [] f_haberdash_haberdashref04_More_L0))))
      (.ops [
        ⟨some 15, .id, [.t 6], none, [], [], false⟩,
        ⟨some 16, .bin .add, [.t 15, .c (.int .i64 1)], none, [], [], false⟩,
        ⟨some 6, .id, [.t 16], none, [], [], false⟩])))
def f_haberdash_haberdashref04_More_B : ICode :=
  (.seq
    (.ops [
      ⟨some 4, .id, [.c (.int .u32 0)], none, [], [], false⟩])
    (.seq
      (.ops [
        ⟨some 9, .id, [.t 0], none, [], [], false⟩,
        ⟨some 10, .un .xor, [.t 9], none, [], [], false⟩,
        ⟨some 5, .id, [.t 10], none, [], [], false⟩])
      (.seq
        (.seq
          (.ops [
            ⟨some 6, .id, [.c (.int .i64 0)], none, [], [], false⟩])
          (.block 0
            (.loop [11, 12, 13, 14, 7, 17, 18, 21, 22, 23, 24, 25, 26, 27, 28, 29, 30, 31, 32, 8, 33, 34, 35, 36, 37, 38, 19, 20, 15, 16] [] f_haberdash_haberdashref04_More_L1)))
        (.seq
          (.ops [
            ⟨some 39, .id, [.t 5], none, [], [], false⟩,
            ⟨some 40, .un .xor, [.t 39], none, [], [], false⟩,
            ⟨some 4, .id, [.t 40], none, [], [], false⟩])
          .ret))))
def f_haberdash_haberdashref04_More : IFn := ⟨41, 0, [.tmp 4], f_haberdash_haberdashref04_More_B⟩

end Go.AM

namespace Go.AM

def crcBit (s : BitVec 32) : BitVec 32 := if (s &&& 1#32) == 1#32 then (s >>> 1) ^^^ 0xedb88320#32 else s >>> 1
def crcBits : Nat → BitVec 32 → BitVec 32
  | 0, s => s
  | n + 1, s => crcBits n (crcBit s)
def crcByte (s : BitVec 32) (c : UInt8) : BitVec 32 := crcBits 8 (s ^^^ BitVec.ofNat 32 c.toNat)
def crcMore (s : BitVec 32) (bs : List UInt8) : BitVec 32 := ~~~ (bs.foldl crcByte (~~~ s))

theorem c1 : Value.int .u32 1 = u32 1#32 := rfl
theorem c2 : Value.int .u32 3988292384 = u32 0xedb88320#32 := rfl
theorem c0 : Value.int .u32 0 = u32 0#32 := rfl

variable {prog : String → Option IFn}

theorem u8_u32 {b : UInt8} : Value.int .u32 (IntKind.u32.wrap (b.toNat : Int)) = u32 (BitVec.ofNat 32 b.toNat) := by
  rw [u32, IntKind.wrap_u32, BitVec.toNat_ofNat]; congr 1

/-- One bit of the sum. -/
theorem bit_round {e0 e1 e2 e3 e4 e6 e7 e9 e10 e11 e12 e13 e14 e15 e16 e17 e18 e19 e20 e32 e33 e34 : AV} {h : Hp} {k : List Kf} {Q : Out → St → Prop} (s : BitVec 32)
    (hq : WK prog k .normal ⟨[e0, e1, e2, e3, e4, .v (u32 (crcBits 8 s)), e6, e7, .dead, e9, e10, e11, e12, e13, e14, e15, e16, e17, e18, e19, e20, .v (.int .i64 8), .v (.bool false), .dead, .dead, .dead, .dead, .dead, .dead, .dead, .dead, .dead, e32, e33, e34], h⟩ Q)
    {e8 e22 e23 e24 e25 e26 e27 e28 e29 e30 e31 : AV} :
    WC prog (.loop [22, 23, 24, 8, 25, 26, 27, 28, 29, 30, 31] [] f_haberdash_crc_More_L0) (.block 2 :: k)
      ⟨[e0, e1, e2, e3, e4, .v (u32 s), e6, e7, e8, e9, e10, e11, e12, e13, e14, e15, e16, e17, e18, e19, e20, .v (.int .i64 0), e22, e23, e24, e25, e26, e27, e28, e29, e30, e31, e32, e33, e34], h⟩ Q := by
  refine WC_loop (Inv := fun n st => ∃ (i : Nat) (t : BitVec 32), i ≤ 8 ∧ n = 8 - i ∧ crcBits (8 - i) t = crcBits 8 s ∧ st = ⟨[e0, e1, e2, e3, e4, .v (u32 t), e6, e7, .dead, e9, e10, e11, e12, e13, e14, e15, e16, e17, e18, e19, e20, .v (.int .i64 (i : Nat)),
    .dead, .dead, .dead, .dead, .dead, .dead, .dead, .dead, .dead, .dead, e32, e33, e34], h⟩) 8 ⟨_, clear_nil, 0, s, Nat.zero_le _, rfl, rfl, ?_⟩ ?_
  · simp only [List.map_cons, List.map_nil, List.getD_cons_zero, List.getD_cons_succ, List.set_cons_zero, List.set_cons_succ, Option.map_some, Option.bind_some, ne_eq, reduceCtorEq, not_false_eq_true, implies_true, beq_self_eq_true, BEq.rfl, if_true, if_false, Bool.false_eq_true, not_true_eq_false, Option.some.injEq, reduceIte, Bool.not_true, Bool.not_false, beq_true, beq_false, Bool.true_and, Bool.and_true, Bool.false_and, Bool.and_false, List.foldl_cons, List.foldl_nil]; rfl
  rintro n st ⟨i, t, hi, rfl, ht, rfl⟩
  simp only [f_haberdash_crc_More_L0, WK_nil, WK_seq_normal, WK_seq_ret, WK_seq_exit, WK_block_normal, WK_block_ret, WK_block_exit, WC_skip, WC_ret, WC_exit, WC_ops, WC_seq, WC_block, WC_cond, WCond_bool, WO_nil, WO_cons, WG_false, WG_true, WP_prim, WR_some, St.guard, St.put, evalO, const_int, const_bool, const_string, const_slice, const_ptr, const_func, const_agg, const_u32, List.map_cons, List.map_nil, List.getD_cons_zero, List.getD_cons_succ, List.set_cons_zero, List.set_cons_succ, Option.map_some, Option.bind_some, ne_eq, reduceCtorEq, not_false_eq_true, implies_true, beq_self_eq_true, BEq.rfl, if_true, if_false, Bool.false_eq_true, not_true_eq_false, Option.some.injEq, reduceIte, Bool.not_true, Bool.not_false, beq_true, beq_false, Bool.true_and, Bool.and_true, Bool.false_and, Bool.and_false, px_id, px_pick, px_nilv, px_alloc, px_box, px_build, px_buildSlice, px_load_ptr, px_load_rop, px_store, px_nilCheck_ptr, px_nilCheck_rop, px_nilCheck_fn, px_bin, px_eq, px_eqBool, px_eqNil, px_un, px_convInt, px_strBytes, px_bytesStr, px_bytesBytes, px_strStr, px_makeFunc, px_makeSlice, px_sliceStr, px_slice_own, px_slice_ro, px_slice_nil, px_sliceArr, px_fieldAddr_ptr, px_fieldAddr_rop, px_field, px_indexAddr_own, px_indexAddr_ro, px_indexArr, px_indexStr, px_indexAgg, px_extract, px_append, px_copy, px_lenStr, px_lenSlice, px_lenArr, px_cap_own, px_cap_nil, px_min, px_max, lenOf_nil, lenOf_ro, lenOf_own, natOf_nat, vBin_xor_u32, vBin_and_u32, vUn_xor_u32, vBin_shr_u32, vBin_shr_u32_1, vBin_eql_u32, vBin_lss, vBin_leq, vBin_gtr, vBin_geq, vBin_eql, vBin_neq, c1, c2]
  by_cases hlt : i < 8
  · have hlt' : (i : Int) < 8 := by omega
    have ei : 8 - i = (8 - (i + 1)) + 1 := by omega
    rw [ei] at ht
    simp only [hlt', decide_true, WK_nil, WK_seq_normal, WK_seq_ret, WK_seq_exit, WK_block_normal, WK_block_ret, WK_block_exit, WC_skip, WC_ret, WC_exit, WC_ops, WC_seq, WC_block, WC_cond, WCond_bool, WO_nil, WO_cons, WG_false, WG_true, WP_prim, WR_some, St.guard, St.put, evalO, const_int, const_bool, const_string, const_slice, const_ptr, const_func, const_agg, const_u32, List.map_cons, List.map_nil, List.getD_cons_zero, List.getD_cons_succ, List.set_cons_zero, List.set_cons_succ, Option.map_some, Option.bind_some, ne_eq, reduceCtorEq, not_false_eq_true, implies_true, beq_self_eq_true, BEq.rfl, if_true, if_false, Bool.false_eq_true, not_true_eq_false, Option.some.injEq, reduceIte, Bool.not_true, Bool.not_false, beq_true, beq_false, Bool.true_and, Bool.and_true, Bool.false_and, Bool.and_false, px_id, px_pick, px_nilv, px_alloc, px_box, px_build, px_buildSlice, px_load_ptr, px_load_rop, px_store, px_nilCheck_ptr, px_nilCheck_rop, px_nilCheck_fn, px_bin, px_eq, px_eqBool, px_eqNil, px_un, px_convInt, px_strBytes, px_bytesStr, px_bytesBytes, px_strStr, px_makeFunc, px_makeSlice, px_sliceStr, px_slice_own, px_slice_ro, px_slice_nil, px_sliceArr, px_fieldAddr_ptr, px_fieldAddr_rop, px_field, px_indexAddr_own, px_indexAddr_ro, px_indexArr, px_indexStr, px_indexAgg, px_extract, px_append, px_copy, px_lenStr, px_lenSlice, px_lenArr, px_cap_own, px_cap_nil, px_min, px_max, lenOf_nil, lenOf_ro, lenOf_own, natOf_nat, vBin_xor_u32, vBin_and_u32, vUn_xor_u32, vBin_shr_u32, vBin_shr_u32_1, vBin_eql_u32, vBin_lss, vBin_leq, vBin_gtr, vBin_geq, vBin_eql, vBin_neq, c1, c2]
    by_cases hb : (t &&& 1#32 == 1#32) = true
    · simp only [hb, WK_nil, WK_seq_normal, WK_seq_ret, WK_seq_exit, WK_block_normal, WK_block_ret, WK_block_exit, WC_skip, WC_ret, WC_exit, WC_ops, WC_seq, WC_block, WC_cond, WCond_bool, WO_nil, WO_cons, WG_false, WG_true, WP_prim, WR_some, St.guard, St.put, evalO, const_int, const_bool, const_string, const_slice, const_ptr, const_func, const_agg, const_u32, List.map_cons, List.map_nil, List.getD_cons_zero, List.getD_cons_succ, List.set_cons_zero, List.set_cons_succ, Option.map_some, Option.bind_some, ne_eq, reduceCtorEq, not_false_eq_true, implies_true, beq_self_eq_true, BEq.rfl, if_true, if_false, Bool.false_eq_true, not_true_eq_false, Option.some.injEq, reduceIte, Bool.not_true, Bool.not_false, beq_true, beq_false, Bool.true_and, Bool.and_true, Bool.false_and, Bool.and_false, px_id, px_pick, px_nilv, px_alloc, px_box, px_build, px_buildSlice, px_load_ptr, px_load_rop, px_store, px_nilCheck_ptr, px_nilCheck_rop, px_nilCheck_fn, px_bin, px_eq, px_eqBool, px_eqNil, px_un, px_convInt, px_strBytes, px_bytesStr, px_bytesBytes, px_strStr, px_makeFunc, px_makeSlice, px_sliceStr, px_slice_own, px_slice_ro, px_slice_nil, px_sliceArr, px_fieldAddr_ptr, px_fieldAddr_rop, px_field, px_indexAddr_own, px_indexAddr_ro, px_indexArr, px_indexStr, px_indexAgg, px_extract, px_append, px_copy, px_lenStr, px_lenSlice, px_lenArr, px_cap_own, px_cap_nil, px_min, px_max, lenOf_nil, lenOf_ro, lenOf_own, natOf_nat, vBin_xor_u32, vBin_and_u32, vUn_xor_u32, vBin_shr_u32, vBin_shr_u32_1, vBin_eql_u32, vBin_lss, vBin_leq, vBin_gtr, vBin_geq, vBin_eql, vBin_neq, c1, c2]
      rw [vBin_add_i64 (by omega) (by omega)]
      simp only [WK_nil, WK_seq_normal, WK_seq_ret, WK_seq_exit, WK_block_normal, WK_block_ret, WK_block_exit, WC_skip, WC_ret, WC_exit, WC_ops, WC_seq, WC_block, WC_cond, WCond_bool, WO_nil, WO_cons, WG_false, WG_true, WP_prim, WR_some, St.guard, St.put, evalO, const_int, const_bool, const_string, const_slice, const_ptr, const_func, const_agg, const_u32, List.map_cons, List.map_nil, List.getD_cons_zero, List.getD_cons_succ, List.set_cons_zero, List.set_cons_succ, Option.map_some, Option.bind_some, ne_eq, reduceCtorEq, not_false_eq_true, implies_true, beq_self_eq_true, BEq.rfl, if_true, if_false, Bool.false_eq_true, not_true_eq_false, Option.some.injEq, reduceIte, Bool.not_true, Bool.not_false, beq_true, beq_false, Bool.true_and, Bool.and_true, Bool.false_and, Bool.and_false, px_id, px_pick, px_nilv, px_alloc, px_box, px_build, px_buildSlice, px_load_ptr, px_load_rop, px_store, px_nilCheck_ptr, px_nilCheck_rop, px_nilCheck_fn, px_bin, px_eq, px_eqBool, px_eqNil, px_un, px_convInt, px_strBytes, px_bytesStr, px_bytesBytes, px_strStr, px_makeFunc, px_makeSlice, px_sliceStr, px_slice_own, px_slice_ro, px_slice_nil, px_sliceArr, px_fieldAddr_ptr, px_fieldAddr_rop, px_field, px_indexAddr_own, px_indexAddr_ro, px_indexArr, px_indexStr, px_indexAgg, px_extract, px_append, px_copy, px_lenStr, px_lenSlice, px_lenArr, px_cap_own, px_cap_nil, px_min, px_max, lenOf_nil, lenOf_ro, lenOf_own, natOf_nat, vBin_xor_u32, vBin_and_u32, vUn_xor_u32, vBin_shr_u32, vBin_shr_u32_1, vBin_eql_u32, vBin_lss, vBin_leq, vBin_gtr, vBin_geq, vBin_eql, vBin_neq, clear_nil, List.map_cons, List.map_nil, List.getD_cons_zero, List.getD_cons_succ, List.set_cons_zero, List.set_cons_succ, Option.map_some, Option.bind_some, ne_eq, reduceCtorEq, not_false_eq_true, implies_true, beq_self_eq_true, BEq.rfl, if_true, if_false, Bool.false_eq_true, not_true_eq_false, Option.some.injEq, reduceIte, Bool.not_true, Bool.not_false, beq_true, beq_false, Bool.true_and, Bool.and_true, Bool.false_and, Bool.and_false, List.foldl_cons, List.foldl_nil]
      refine ⟨_, 8 - (i + 1), rfl, by omega, i + 1, crcBit t, by omega, rfl, ht, ?_⟩
      simp only [crcBit, hb, if_true]
      rfl
    · simp only [hb, WK_nil, WK_seq_normal, WK_seq_ret, WK_seq_exit, WK_block_normal, WK_block_ret, WK_block_exit, WC_skip, WC_ret, WC_exit, WC_ops, WC_seq, WC_block, WC_cond, WCond_bool, WO_nil, WO_cons, WG_false, WG_true, WP_prim, WR_some, St.guard, St.put, evalO, const_int, const_bool, const_string, const_slice, const_ptr, const_func, const_agg, const_u32, List.map_cons, List.map_nil, List.getD_cons_zero, List.getD_cons_succ, List.set_cons_zero, List.set_cons_succ, Option.map_some, Option.bind_some, ne_eq, reduceCtorEq, not_false_eq_true, implies_true, beq_self_eq_true, BEq.rfl, if_true, if_false, Bool.false_eq_true, not_true_eq_false, Option.some.injEq, reduceIte, Bool.not_true, Bool.not_false, beq_true, beq_false, Bool.true_and, Bool.and_true, Bool.false_and, Bool.and_false, px_id, px_pick, px_nilv, px_alloc, px_box, px_build, px_buildSlice, px_load_ptr, px_load_rop, px_store, px_nilCheck_ptr, px_nilCheck_rop, px_nilCheck_fn, px_bin, px_eq, px_eqBool, px_eqNil, px_un, px_convInt, px_strBytes, px_bytesStr, px_bytesBytes, px_strStr, px_makeFunc, px_makeSlice, px_sliceStr, px_slice_own, px_slice_ro, px_slice_nil, px_sliceArr, px_fieldAddr_ptr, px_fieldAddr_rop, px_field, px_indexAddr_own, px_indexAddr_ro, px_indexArr, px_indexStr, px_indexAgg, px_extract, px_append, px_copy, px_lenStr, px_lenSlice, px_lenArr, px_cap_own, px_cap_nil, px_min, px_max, lenOf_nil, lenOf_ro, lenOf_own, natOf_nat, vBin_xor_u32, vBin_and_u32, vUn_xor_u32, vBin_shr_u32, vBin_shr_u32_1, vBin_eql_u32, vBin_lss, vBin_leq, vBin_gtr, vBin_geq, vBin_eql, vBin_neq, c1, c2]
      rw [vBin_add_i64 (by omega) (by omega)]
      simp only [WK_nil, WK_seq_normal, WK_seq_ret, WK_seq_exit, WK_block_normal, WK_block_ret, WK_block_exit, WC_skip, WC_ret, WC_exit, WC_ops, WC_seq, WC_block, WC_cond, WCond_bool, WO_nil, WO_cons, WG_false, WG_true, WP_prim, WR_some, St.guard, St.put, evalO, const_int, const_bool, const_string, const_slice, const_ptr, const_func, const_agg, const_u32, List.map_cons, List.map_nil, List.getD_cons_zero, List.getD_cons_succ, List.set_cons_zero, List.set_cons_succ, Option.map_some, Option.bind_some, ne_eq, reduceCtorEq, not_false_eq_true, implies_true, beq_self_eq_true, BEq.rfl, if_true, if_false, Bool.false_eq_true, not_true_eq_false, Option.some.injEq, reduceIte, Bool.not_true, Bool.not_false, beq_true, beq_false, Bool.true_and, Bool.and_true, Bool.false_and, Bool.and_false, px_id, px_pick, px_nilv, px_alloc, px_box, px_build, px_buildSlice, px_load_ptr, px_load_rop, px_store, px_nilCheck_ptr, px_nilCheck_rop, px_nilCheck_fn, px_bin, px_eq, px_eqBool, px_eqNil, px_un, px_convInt, px_strBytes, px_bytesStr, px_bytesBytes, px_strStr, px_makeFunc, px_makeSlice, px_sliceStr, px_slice_own, px_slice_ro, px_slice_nil, px_sliceArr, px_fieldAddr_ptr, px_fieldAddr_rop, px_field, px_indexAddr_own, px_indexAddr_ro, px_indexArr, px_indexStr, px_indexAgg, px_extract, px_append, px_copy, px_lenStr, px_lenSlice, px_lenArr, px_cap_own, px_cap_nil, px_min, px_max, lenOf_nil, lenOf_ro, lenOf_own, natOf_nat, vBin_xor_u32, vBin_and_u32, vUn_xor_u32, vBin_shr_u32, vBin_shr_u32_1, vBin_eql_u32, vBin_lss, vBin_leq, vBin_gtr, vBin_geq, vBin_eql, vBin_neq, clear_nil, List.map_cons, List.map_nil, List.getD_cons_zero, List.getD_cons_succ, List.set_cons_zero, List.set_cons_succ, Option.map_some, Option.bind_some, ne_eq, reduceCtorEq, not_false_eq_true, implies_true, beq_self_eq_true, BEq.rfl, if_true, if_false, Bool.false_eq_true, not_true_eq_false, Option.some.injEq, reduceIte, Bool.not_true, Bool.not_false, beq_true, beq_false, Bool.true_and, Bool.and_true, Bool.false_and, Bool.and_false, List.foldl_cons, List.foldl_nil]
      refine ⟨_, 8 - (i + 1), rfl, by omega, i + 1, crcBit t, by omega, rfl, ht, ?_⟩
      simp only [crcBit, hb]
      rfl
  · obtain rfl : i = 8 := by omega
    simp only [show ¬ (((8 : Nat) : Int) < 8) by omega, decide_false, WK_nil, WK_seq_normal, WK_seq_ret, WK_seq_exit, WK_block_normal, WK_block_ret, WK_block_exit, WC_skip, WC_ret, WC_exit, WC_ops, WC_seq, WC_block, WC_cond, WCond_bool, WO_nil, WO_cons, WG_false, WG_true, WP_prim, WR_some, St.guard, St.put, evalO, const_int, const_bool, const_string, const_slice, const_ptr, const_func, const_agg, const_u32, List.map_cons, List.map_nil, List.getD_cons_zero, List.getD_cons_succ, List.set_cons_zero, List.set_cons_succ, Option.map_some, Option.bind_some, ne_eq, reduceCtorEq, not_false_eq_true, implies_true, beq_self_eq_true, BEq.rfl, if_true, if_false, Bool.false_eq_true, not_true_eq_false, Option.some.injEq, reduceIte, Bool.not_true, Bool.not_false, beq_true, beq_false, Bool.true_and, Bool.and_true, Bool.false_and, Bool.and_false, px_id, px_pick, px_nilv, px_alloc, px_box, px_build, px_buildSlice, px_load_ptr, px_load_rop, px_store, px_nilCheck_ptr, px_nilCheck_rop, px_nilCheck_fn, px_bin, px_eq, px_eqBool, px_eqNil, px_un, px_convInt, px_strBytes, px_bytesStr, px_bytesBytes, px_strStr, px_makeFunc, px_makeSlice, px_sliceStr, px_slice_own, px_slice_ro, px_slice_nil, px_sliceArr, px_fieldAddr_ptr, px_fieldAddr_rop, px_field, px_indexAddr_own, px_indexAddr_ro, px_indexArr, px_indexStr, px_indexAgg, px_extract, px_append, px_copy, px_lenStr, px_lenSlice, px_lenArr, px_cap_own, px_cap_nil, px_min, px_max, lenOf_nil, lenOf_ro, lenOf_own, natOf_nat, vBin_xor_u32, vBin_and_u32, vUn_xor_u32, vBin_shr_u32, vBin_shr_u32_1, vBin_eql_u32, vBin_lss, vBin_leq, vBin_gtr, vBin_geq, vBin_eql, vBin_neq]
    simp only [Nat.sub_self, crcBits] at ht
    rw [ht]
    exact hq

theorem More_spec (hf : prog "haberdash/crc.More" = some f_haberdash_crc_More) {G a} {bs : List UInt8} (v : ∀ L, View ⟨G, L⟩ a 1 bs.length (bs.map byteAV)) (s : BitVec 32) (hb : bs.length < 2 ^ 62) :
    Ev prog (.call "haberdash/crc.More" [.v (u32 s), a] G) (.ret (.v (u32 (crcMore s bs))) G) := by
  refine call_of_fin hf ?_
  have v0 := v []
  simp only [f_haberdash_crc_More_B, enter, List.length_cons, List.length_nil, List.replicate, Nat.reduceAdd, Nat.reduceSub, List.cons_append, List.nil_append]
  simp only [WK_nil, WK_seq_normal, WK_seq_ret, WK_seq_exit, WK_block_normal, WK_block_ret, WK_block_exit, WC_skip, WC_ret, WC_exit, WC_ops, WC_seq, WC_block, WC_cond, WCond_bool, WO_nil, WO_cons, WG_false, WG_true, WP_prim, WR_some, St.guard, St.put, evalO, const_int, const_bool, const_string, const_slice, const_ptr, const_func, const_agg, const_u32, List.map_cons, List.map_nil, List.getD_cons_zero, List.getD_cons_succ, List.set_cons_zero, List.set_cons_succ, Option.map_some, Option.bind_some, ne_eq, reduceCtorEq, not_false_eq_true, implies_true, beq_self_eq_true, BEq.rfl, if_true, if_false, Bool.false_eq_true, not_true_eq_false, Option.some.injEq, reduceIte, Bool.not_true, Bool.not_false, beq_true, beq_false, Bool.true_and, Bool.and_true, Bool.false_and, Bool.and_false, px_id, px_pick, px_nilv, px_alloc, px_box, px_build, px_buildSlice, px_load_ptr, px_load_rop, px_store, px_nilCheck_ptr, px_nilCheck_rop, px_nilCheck_fn, px_bin, px_eq, px_eqBool, px_eqNil, px_un, px_convInt, px_strBytes, px_bytesStr, px_bytesBytes, px_strStr, px_makeFunc, px_makeSlice, px_sliceStr, px_slice_own, px_slice_ro, px_slice_nil, px_sliceArr, px_fieldAddr_ptr, px_fieldAddr_rop, px_field, px_indexAddr_own, px_indexAddr_ro, px_indexArr, px_indexStr, px_indexAgg, px_extract, px_append, px_copy, px_lenStr, px_lenSlice, px_lenArr, px_cap_own, px_cap_nil, px_min, px_max, lenOf_nil, lenOf_ro, lenOf_own, natOf_nat, vBin_xor_u32, vBin_and_u32, vUn_xor_u32, vBin_shr_u32, vBin_shr_u32_1, vBin_eql_u32, vBin_lss, vBin_leq, vBin_gtr, vBin_geq, vBin_eql, vBin_neq, v0.lenSlice]
  refine WC_loop (Inv := fun n st => ∃ i : Nat, i ≤ bs.length ∧ n = bs.length - i ∧ st = ⟨[.v (u32 s), a, .dead, .dead, .v (Value.int IntKind.u32 0), .v (u32 ((bs.take i).foldl crcByte (~~~ s))), .dead, .dead, .dead, .v (u32 s), .v (u32 (~~~ s)), a, .v (.int .i64 bs.length), .v (.int .i64 (i : Nat)),
    .dead, .dead, .dead, .dead, .dead, .dead, .dead, .dead, .dead, .dead, .dead, .dead, .dead, .dead, .dead, .dead, .dead, .dead, .dead, .dead, .dead], ⟨G, []⟩⟩) bs.length ⟨_, clear_nil, 0, Nat.zero_le _, rfl, ?_⟩ ?_
  · simp only [List.map_cons, List.map_nil, List.getD_cons_zero, List.getD_cons_succ, List.set_cons_zero, List.set_cons_succ, Option.map_some, Option.bind_some, ne_eq, reduceCtorEq, not_false_eq_true, implies_true, beq_self_eq_true, BEq.rfl, if_true, if_false, Bool.false_eq_true, not_true_eq_false, Option.some.injEq, reduceIte, Bool.not_true, Bool.not_false, beq_true, beq_false, Bool.true_and, Bool.and_true, Bool.false_and, Bool.and_false, List.foldl_cons, List.foldl_nil, List.take_zero]; rfl
  rintro n st ⟨i, hi, rfl, rfl⟩
  simp only [f_haberdash_crc_More_L1, WK_nil, WK_seq_normal, WK_seq_ret, WK_seq_exit, WK_block_normal, WK_block_ret, WK_block_exit, WC_skip, WC_ret, WC_exit, WC_ops, WC_seq, WC_block, WC_cond, WCond_bool, WO_nil, WO_cons, WG_false, WG_true, WP_prim, WR_some, St.guard, St.put, evalO, const_int, const_bool, const_string, const_slice, const_ptr, const_func, const_agg, const_u32, List.map_cons, List.map_nil, List.getD_cons_zero, List.getD_cons_succ, List.set_cons_zero, List.set_cons_succ, Option.map_some, Option.bind_some, ne_eq, reduceCtorEq, not_false_eq_true, implies_true, beq_self_eq_true, BEq.rfl, if_true, if_false, Bool.false_eq_true, not_true_eq_false, Option.some.injEq, reduceIte, Bool.not_true, Bool.not_false, beq_true, beq_false, Bool.true_and, Bool.and_true, Bool.false_and, Bool.and_false, px_id, px_pick, px_nilv, px_alloc, px_box, px_build, px_buildSlice, px_load_ptr, px_load_rop, px_store, px_nilCheck_ptr, px_nilCheck_rop, px_nilCheck_fn, px_bin, px_eq, px_eqBool, px_eqNil, px_un, px_convInt, px_strBytes, px_bytesStr, px_bytesBytes, px_strStr, px_makeFunc, px_makeSlice, px_sliceStr, px_slice_own, px_slice_ro, px_slice_nil, px_sliceArr, px_fieldAddr_ptr, px_fieldAddr_rop, px_field, px_indexAddr_own, px_indexAddr_ro, px_indexArr, px_indexStr, px_indexAgg, px_extract, px_append, px_copy, px_lenStr, px_lenSlice, px_lenArr, px_cap_own, px_cap_nil, px_min, px_max, lenOf_nil, lenOf_ro, lenOf_own, natOf_nat, vBin_xor_u32, vBin_and_u32, vUn_xor_u32, vBin_shr_u32, vBin_shr_u32_1, vBin_eql_u32, vBin_lss, vBin_leq, vBin_gtr, vBin_geq, vBin_eql, vBin_neq]
  by_cases hlt : i < bs.length
  · have hlt' : (i : Int) < (bs.length : Int) := by omega
    have hx : (bs.map byteAV)[i]? = some (byteAV bs[i]) := by simp [hlt]
    simp only [hlt', decide_true, WK_nil, WK_seq_normal, WK_seq_ret, WK_seq_exit, WK_block_normal, WK_block_ret, WK_block_exit, WC_skip, WC_ret, WC_exit, WC_ops, WC_seq, WC_block, WC_cond, WCond_bool, WO_nil, WO_cons, WG_false, WG_true, WP_prim, WR_some, St.guard, St.put, evalO, const_int, const_bool, const_string, const_slice, const_ptr, const_func, const_agg, const_u32, List.map_cons, List.map_nil, List.getD_cons_zero, List.getD_cons_succ, List.set_cons_zero, List.set_cons_succ, Option.map_some, Option.bind_some, ne_eq, reduceCtorEq, not_false_eq_true, implies_true, beq_self_eq_true, BEq.rfl, if_true, if_false, Bool.false_eq_true, not_true_eq_false, Option.some.injEq, reduceIte, Bool.not_true, Bool.not_false, beq_true, beq_false, Bool.true_and, Bool.and_true, Bool.false_and, Bool.and_false, px_id, px_pick, px_nilv, px_alloc, px_box, px_build, px_buildSlice, px_load_ptr, px_load_rop, px_store, px_nilCheck_ptr, px_nilCheck_rop, px_nilCheck_fn, px_bin, px_eq, px_eqBool, px_eqNil, px_un, px_convInt, px_strBytes, px_bytesStr, px_bytesBytes, px_strStr, px_makeFunc, px_makeSlice, px_sliceStr, px_slice_own, px_slice_ro, px_slice_nil, px_sliceArr, px_fieldAddr_ptr, px_fieldAddr_rop, px_field, px_indexAddr_own, px_indexAddr_ro, px_indexArr, px_indexStr, px_indexAgg, px_extract, px_append, px_copy, px_lenStr, px_lenSlice, px_lenArr, px_cap_own, px_cap_nil, px_min, px_max, lenOf_nil, lenOf_ro, lenOf_own, natOf_nat, vBin_xor_u32, vBin_and_u32, vUn_xor_u32, vBin_shr_u32, vBin_shr_u32_1, vBin_eql_u32, vBin_lss, vBin_leq, vBin_gtr, vBin_geq, vBin_eql, vBin_neq, v0.index hlt, v0.load1 hx, byteAV, u8_u32]
    refine bit_round _ ?_
    simp only [WK_nil, WK_seq_normal, WK_seq_ret, WK_seq_exit, WK_block_normal, WK_block_ret, WK_block_exit, WC_skip, WC_ret, WC_exit, WC_ops, WC_seq, WC_block, WC_cond, WCond_bool, WO_nil, WO_cons, WG_false, WG_true, WP_prim, WR_some, St.guard, St.put, evalO, const_int, const_bool, const_string, const_slice, const_ptr, const_func, const_agg, const_u32, List.map_cons, List.map_nil, List.getD_cons_zero, List.getD_cons_succ, List.set_cons_zero, List.set_cons_succ, Option.map_some, Option.bind_some, ne_eq, reduceCtorEq, not_false_eq_true, implies_true, beq_self_eq_true, BEq.rfl, if_true, if_false, Bool.false_eq_true, not_true_eq_false, Option.some.injEq, reduceIte, Bool.not_true, Bool.not_false, beq_true, beq_false, Bool.true_and, Bool.and_true, Bool.false_and, Bool.and_false, px_id, px_pick, px_nilv, px_alloc, px_box, px_build, px_buildSlice, px_load_ptr, px_load_rop, px_store, px_nilCheck_ptr, px_nilCheck_rop, px_nilCheck_fn, px_bin, px_eq, px_eqBool, px_eqNil, px_un, px_convInt, px_strBytes, px_bytesStr, px_bytesBytes, px_strStr, px_makeFunc, px_makeSlice, px_sliceStr, px_slice_own, px_slice_ro, px_slice_nil, px_sliceArr, px_fieldAddr_ptr, px_fieldAddr_rop, px_field, px_indexAddr_own, px_indexAddr_ro, px_indexArr, px_indexStr, px_indexAgg, px_extract, px_append, px_copy, px_lenStr, px_lenSlice, px_lenArr, px_cap_own, px_cap_nil, px_min, px_max, lenOf_nil, lenOf_ro, lenOf_own, natOf_nat, vBin_xor_u32, vBin_and_u32, vUn_xor_u32, vBin_shr_u32, vBin_shr_u32_1, vBin_eql_u32, vBin_lss, vBin_leq, vBin_gtr, vBin_geq, vBin_eql, vBin_neq]
    rw [vBin_add_i64 (by omega) (by omega)]
    simp only [WK_nil, WK_seq_normal, WK_seq_ret, WK_seq_exit, WK_block_normal, WK_block_ret, WK_block_exit, WC_skip, WC_ret, WC_exit, WC_ops, WC_seq, WC_block, WC_cond, WCond_bool, WO_nil, WO_cons, WG_false, WG_true, WP_prim, WR_some, St.guard, St.put, evalO, const_int, const_bool, const_string, const_slice, const_ptr, const_func, const_agg, const_u32, List.map_cons, List.map_nil, List.getD_cons_zero, List.getD_cons_succ, List.set_cons_zero, List.set_cons_succ, Option.map_some, Option.bind_some, ne_eq, reduceCtorEq, not_false_eq_true, implies_true, beq_self_eq_true, BEq.rfl, if_true, if_false, Bool.false_eq_true, not_true_eq_false, Option.some.injEq, reduceIte, Bool.not_true, Bool.not_false, beq_true, beq_false, Bool.true_and, Bool.and_true, Bool.false_and, Bool.and_false, px_id, px_pick, px_nilv, px_alloc, px_box, px_build, px_buildSlice, px_load_ptr, px_load_rop, px_store, px_nilCheck_ptr, px_nilCheck_rop, px_nilCheck_fn, px_bin, px_eq, px_eqBool, px_eqNil, px_un, px_convInt, px_strBytes, px_bytesStr, px_bytesBytes, px_strStr, px_makeFunc, px_makeSlice, px_sliceStr, px_slice_own, px_slice_ro, px_slice_nil, px_sliceArr, px_fieldAddr_ptr, px_fieldAddr_rop, px_field, px_indexAddr_own, px_indexAddr_ro, px_indexArr, px_indexStr, px_indexAgg, px_extract, px_append, px_copy, px_lenStr, px_lenSlice, px_lenArr, px_cap_own, px_cap_nil, px_min, px_max, lenOf_nil, lenOf_ro, lenOf_own, natOf_nat, vBin_xor_u32, vBin_and_u32, vUn_xor_u32, vBin_shr_u32, vBin_shr_u32_1, vBin_eql_u32, vBin_lss, vBin_leq, vBin_gtr, vBin_geq, vBin_eql, vBin_neq, clear_nil, List.map_cons, List.map_nil, List.getD_cons_zero, List.getD_cons_succ, List.set_cons_zero, List.set_cons_succ, Option.map_some, Option.bind_some, ne_eq, reduceCtorEq, not_false_eq_true, implies_true, beq_self_eq_true, BEq.rfl, if_true, if_false, Bool.false_eq_true, not_true_eq_false, Option.some.injEq, reduceIte, Bool.not_true, Bool.not_false, beq_true, beq_false, Bool.true_and, Bool.and_true, Bool.false_and, Bool.and_false, List.foldl_cons, List.foldl_nil]
    refine ⟨_, bs.length - (i + 1), rfl, by omega, i + 1, by omega, rfl, ?_⟩
    rw [List.take_add_one, List.getElem?_eq_getElem hlt, List.foldl_append]
    rfl
  · have hlt' : ¬ (i : Int) < (bs.length : Int) := by omega
    have : i = bs.length := by omega
    subst this
    simp only [hlt', decide_false, WK_nil, WK_seq_normal, WK_seq_ret, WK_seq_exit, WK_block_normal, WK_block_ret, WK_block_exit, WC_skip, WC_ret, WC_exit, WC_ops, WC_seq, WC_block, WC_cond, WCond_bool, WO_nil, WO_cons, WG_false, WG_true, WP_prim, WR_some, St.guard, St.put, evalO, const_int, const_bool, const_string, const_slice, const_ptr, const_func, const_agg, const_u32, List.map_cons, List.map_nil, List.getD_cons_zero, List.getD_cons_succ, List.set_cons_zero, List.set_cons_succ, Option.map_some, Option.bind_some, ne_eq, reduceCtorEq, not_false_eq_true, implies_true, beq_self_eq_true, BEq.rfl, if_true, if_false, Bool.false_eq_true, not_true_eq_false, Option.some.injEq, reduceIte, Bool.not_true, Bool.not_false, beq_true, beq_false, Bool.true_and, Bool.and_true, Bool.false_and, Bool.and_false, px_id, px_pick, px_nilv, px_alloc, px_box, px_build, px_buildSlice, px_load_ptr, px_load_rop, px_store, px_nilCheck_ptr, px_nilCheck_rop, px_nilCheck_fn, px_bin, px_eq, px_eqBool, px_eqNil, px_un, px_convInt, px_strBytes, px_bytesStr, px_bytesBytes, px_strStr, px_makeFunc, px_makeSlice, px_sliceStr, px_slice_own, px_slice_ro, px_slice_nil, px_sliceArr, px_fieldAddr_ptr, px_fieldAddr_rop, px_field, px_indexAddr_own, px_indexAddr_ro, px_indexArr, px_indexStr, px_indexAgg, px_extract, px_append, px_copy, px_lenStr, px_lenSlice, px_lenArr, px_cap_own, px_cap_nil, px_min, px_max, lenOf_nil, lenOf_ro, lenOf_own, natOf_nat, vBin_xor_u32, vBin_and_u32, vUn_xor_u32, vBin_shr_u32, vBin_shr_u32_1, vBin_eql_u32, vBin_lss, vBin_leq, vBin_gtr, vBin_geq, vBin_eql, vBin_neq, fin_tmp, leave_v, List.take_length]
    simp [crcMore]
end Go.AM

namespace Go.AM
variable {prog : String → Option IFn}

theorem labs_v {x : Value} : (AV.v x).labs = [] := rfl
theorem ren_v {ρ x} : (AV.v x).ren ρ = .v x := rfl

theorem Sum_spec (hf : prog "haberdash/crc.More" = some f_haberdash_crc_More) (hg : prog "haberdash/crc.Sum" = some f_haberdash_crc_Sum) {G a} {bs : List UInt8} (v : ∀ L, View ⟨G, L⟩ a 1 bs.length (bs.map byteAV)) (hb : bs.length < 2 ^ 62) :
    Ev prog (.call "haberdash/crc.Sum" [a] G) (.ret (.v (u32 (crcMore 0#32 bs))) G) := by
  refine call_of_fin hg ?_
  simp only [f_haberdash_crc_Sum_B, enter, List.length_cons, List.length_nil, List.replicate, Nat.reduceAdd, Nat.reduceSub, List.cons_append, List.nil_append]
  simp only [WK_nil, WK_seq_normal, WK_seq_ret, WK_seq_exit, WK_block_normal, WK_block_ret, WK_block_exit, WC_skip, WC_ret, WC_exit, WC_ops, WC_seq, WC_block, WC_cond, WCond_bool, WO_nil, WO_cons, WG_false, WG_true, WP_prim, WR_some, St.guard, St.put, evalO, const_int, const_bool, const_string, const_slice, const_ptr, const_func, const_agg, const_u32, List.map_cons, List.map_nil, List.getD_cons_zero, List.getD_cons_succ, List.set_cons_zero, List.set_cons_succ, Option.map_some, Option.bind_some, ne_eq, reduceCtorEq, not_false_eq_true, implies_true, beq_self_eq_true, BEq.rfl, if_true, if_false, Bool.false_eq_true, not_true_eq_false, Option.some.injEq, reduceIte, Bool.not_true, Bool.not_false, beq_true, beq_false, Bool.true_and, Bool.and_true, Bool.false_and, Bool.and_false, px_id, px_pick, px_nilv, px_alloc, px_box, px_build, px_buildSlice, px_load_ptr, px_load_rop, px_store, px_nilCheck_ptr, px_nilCheck_rop, px_nilCheck_fn, px_bin, px_eq, px_eqBool, px_eqNil, px_un, px_convInt, px_strBytes, px_bytesStr, px_bytesBytes, px_strStr, px_makeFunc, px_makeSlice, px_sliceStr, px_slice_own, px_slice_ro, px_slice_nil, px_sliceArr, px_fieldAddr_ptr, px_fieldAddr_rop, px_field, px_indexAddr_own, px_indexAddr_ro, px_indexArr, px_indexStr, px_indexAgg, px_extract, px_append, px_copy, px_lenStr, px_lenSlice, px_lenArr, px_cap_own, px_cap_nil, px_min, px_max, lenOf_nil, lenOf_ro, lenOf_own, natOf_nat, vBin_xor_u32, vBin_and_u32, vUn_xor_u32, vBin_shr_u32, vBin_shr_u32_1, vBin_eql_u32, vBin_lss, vBin_leq, vBin_gtr, vBin_geq, vBin_eql, vBin_neq, c0]
  have hd : AV.lf.lfs (bs.map byteAV) = true := by
    rw [lfs_iff]; intro x hx; obtain ⟨b, _, rfl⟩ := List.mem_map.1 hx; rfl
  have := More_spec (prog := prog) hf ((v []).into hd) 0#32 hb
  rw [WP_pure (x := u32 (crcMore 0#32 bs)) (by simpa only [List.map_cons, List.map_nil, ren_v] using this) rfl rfl]
  simp only [WK_nil, WK_seq_normal, WK_seq_ret, WK_seq_exit, WK_block_normal, WK_block_ret, WK_block_exit, WC_skip, WC_ret, WC_exit, WC_ops, WC_seq, WC_block, WC_cond, WCond_bool, WO_nil, WO_cons, WG_false, WG_true, WP_prim, WR_some, St.guard, St.put, evalO, const_int, const_bool, const_string, const_slice, const_ptr, const_func, const_agg, const_u32, List.map_cons, List.map_nil, List.getD_cons_zero, List.getD_cons_succ, List.set_cons_zero, List.set_cons_succ, Option.map_some, Option.bind_some, ne_eq, reduceCtorEq, not_false_eq_true, implies_true, beq_self_eq_true, BEq.rfl, if_true, if_false, Bool.false_eq_true, not_true_eq_false, Option.some.injEq, reduceIte, Bool.not_true, Bool.not_false, beq_true, beq_false, Bool.true_and, Bool.and_true, Bool.false_and, Bool.and_false, px_id, px_pick, px_nilv, px_alloc, px_box, px_build, px_buildSlice, px_load_ptr, px_load_rop, px_store, px_nilCheck_ptr, px_nilCheck_rop, px_nilCheck_fn, px_bin, px_eq, px_eqBool, px_eqNil, px_un, px_convInt, px_strBytes, px_bytesStr, px_bytesBytes, px_strStr, px_makeFunc, px_makeSlice, px_sliceStr, px_slice_own, px_slice_ro, px_slice_nil, px_sliceArr, px_fieldAddr_ptr, px_fieldAddr_rop, px_field, px_indexAddr_own, px_indexAddr_ro, px_indexArr, px_indexStr, px_indexAgg, px_extract, px_append, px_copy, px_lenStr, px_lenSlice, px_lenArr, px_cap_own, px_cap_nil, px_min, px_max, lenOf_nil, lenOf_ro, lenOf_own, natOf_nat, vBin_xor_u32, vBin_and_u32, vUn_xor_u32, vBin_shr_u32, vBin_shr_u32_1, vBin_eql_u32, vBin_lss, vBin_leq, vBin_gtr, vBin_geq, vBin_eql, vBin_neq, fin_tmp, leave_v]
  simp
end Go.AM

namespace Go.AM

def refBit (s c : BitVec 32) (j : Nat) : BitVec 32 := if ((s &&& 1#32) ^^^ ((c >>> j) &&& 1#32)) == 1#32 then (s >>> 1) ^^^ 0xedb88320#32 else s >>> 1

theorem refBit_eq (s c : BitVec 32) (j : Nat) : crcBit (s ^^^ (c >>> j)) = refBit s c j ^^^ (c >>> (j + 1)) := by
  have e1 : (s ^^^ (c >>> j)) &&& 1#32 = (s &&& 1#32) ^^^ ((c >>> j) &&& 1#32) := by
    ext i hi; simp [Bool.and_xor_distrib_right]
  have e2 : (s ^^^ (c >>> j)) >>> 1 = (s >>> 1) ^^^ (c >>> (j + 1)) := by
    rw [BitVec.ushiftRight_xor_distrib, ← BitVec.shiftRight_add]
  simp only [crcBit, refBit, e1, e2]
  split
  · rw [BitVec.xor_assoc, BitVec.xor_assoc]; congr 1; exact BitVec.xor_comm _ _
  · rfl

def refBits (c : BitVec 32) : Nat → Nat → BitVec 32 → BitVec 32
  | 0, _, s => s
  | n + 1, j, s => refBits c n (j + 1) (refBit s c j)

theorem refBits_eq (c : BitVec 32) : ∀ (n j : Nat) (s : BitVec 32), crcBits n (s ^^^ (c >>> j)) = refBits c n j s ^^^ (c >>> (j + n))
  | 0, j, s => rfl
  | n + 1, j, s => by
    rw [crcBits, refBit_eq, refBits_eq c n (j + 1), refBits]
    congr 2
    omega

theorem refByte (s : BitVec 32) (b : UInt8) : refBits (BitVec.ofNat 32 b.toNat) 8 0 s = crcByte s b := by
  have := refBits_eq (BitVec.ofNat 32 b.toNat) 8 0 s
  have e0 : BitVec.ofNat 32 b.toNat >>> 0 = BitVec.ofNat 32 b.toNat := by simp
  have e8 : BitVec.ofNat 32 b.toNat >>> (0 + 8) = 0#32 := by
    apply BitVec.eq_of_toNat_eq
    have := b.toNat_lt
    simp [Nat.shiftRight_eq_div_pow]
    omega
  rw [e0, e8] at this
  simp only [crcByte, this, BitVec.xor_zero]

theorem vBin_shr_u8 {b : UInt8} {k : IntKind} {j : Nat} (hj : j ≤ 8) : vBin .shr (.int .u8 (b.toNat : Int)) (.int k (j : Int)) = some (.int .u8 ((b.toNat >>> j : Nat) : Int)) := by
  simp only [vBin]
  rw [if_neg (by omega), Int.toNat_natCast, Nat.shiftRight_eq_div_pow, show min j IntKind.u8.bits = j from Nat.min_eq_left hj,
    Int.fdiv_eq_ediv_of_nonneg _ (Int.le_of_lt (Int.pow_pos (by omega)))]
  simp

theorem u8s_u32 {b : UInt8} {j : Nat} : Value.int .u32 (IntKind.u32.wrap ((b.toNat >>> j : Nat) : Int)) = u32 (BitVec.ofNat 32 b.toNat >>> j) := by
  rw [u32, IntKind.wrap_u32]
  congr 1
  have := b.toNat_lt
  have h2 : b.toNat >>> j ≤ b.toNat := Nat.shiftRight_le _ _
  rw [BitVec.toNat_ushiftRight, BitVec.toNat_ofNat, Nat.mod_eq_of_lt (by omega : b.toNat < 2 ^ 32)]
  generalize b.toNat >>> j = y at *
  omega

theorem wrap_u64_nat {j : Nat} (hj : j < 18446744073709551616) : IntKind.u64.wrap (j : Int) = j := by
  rw [IntKind.wrap_u64]; omega

variable {prog : String → Option IFn}

theorem ref_round {e0 a e2 e3 e4 e9 e10 e11 e12 e13 e14 e15 e16 e39 e40 : AV} {G : List (Option Blk)} {k : List Kf} {Q : Out → St → Prop} {bs : List UInt8} (v : View ⟨G, []⟩ a 1 bs.length (bs.map byteAV)) {p : Nat} (hp : p < bs.length) (s : BitVec 32)
    (hq : WK prog k .normal ⟨[e0, a, e2, e3, e4, .v (u32 (crcByte s bs[p])), .v (.int .i64 (p : Nat)), .v (.int .i64 8), .dead, e9, e10, e11, e12, e13, e14, e15, e16, .v (.int .i64 8), .v (.bool false), .dead, .dead, .dead, .dead, .dead, .dead, .dead, .dead, .dead, .dead, .dead, .dead, .dead, .dead, .dead, .dead, .dead, .dead, .dead, .dead, e39, e40], ⟨G, []⟩⟩ Q)
    {e8 e17 e18 e19 e20 e21 e22 e23 e24 e25 e26 e27 e28 e29 e30 e31 e32 e33 e34 e35 e36 e37 e38 : AV} :
    WC prog (.loop [17, 18, 21, 22, 23, 24, 25, 26, 27, 28, 29, 30, 31, 32, 8, 33, 34, 35, 36, 37, 38, 19, 20] [] f_haberdash_haberdashref04_More_L0) (.block 2 :: k)
      ⟨[e0, a, e2, e3, e4, .v (u32 s), .v (.int .i64 (p : Nat)), .v (.int .i64 0), e8, e9, e10, e11, e12, e13, e14, e15, e16, e17, e18, e19, e20, e21, e22, e23, e24, e25, e26, e27, e28, e29, e30, e31, e32, e33, e34, e35, e36, e37, e38, e39, e40], ⟨G, []⟩⟩ Q := by
  have hx : (bs.map byteAV)[p]? = some (byteAV bs[p]) := by simp [hp]
  refine WC_loop (Inv := fun n st => ∃ (i : Nat) (t : BitVec 32), i ≤ 8 ∧ n = 8 - i ∧ refBits (BitVec.ofNat 32 bs[p].toNat) (8 - i) i t = crcByte s bs[p] ∧
    st = ⟨[e0, a, e2, e3, e4, .v (u32 t), .v (.int .i64 (p : Nat)), .v (.int .i64 (i : Nat)), .dead, e9, e10, e11, e12, e13, e14, e15, e16, .dead, .dead, .dead, .dead, .dead, .dead, .dead, .dead, .dead, .dead, .dead, .dead, .dead, .dead, .dead, .dead, .dead, .dead, .dead, .dead, .dead, .dead, e39, e40], ⟨G, []⟩⟩)
    8 ⟨_, clear_nil, 0, s, Nat.zero_le _, rfl, refByte _ _, ?_⟩ ?_
  · simp only [List.map_cons, List.map_nil, List.getD_cons_zero, List.getD_cons_succ, List.set_cons_zero, List.set_cons_succ, Option.map_some, Option.bind_some, ne_eq, reduceCtorEq, not_false_eq_true, implies_true, beq_self_eq_true, BEq.rfl, if_true, if_false, Bool.false_eq_true, not_true_eq_false, Option.some.injEq, reduceIte, Bool.not_true, Bool.not_false, beq_true, beq_false, Bool.true_and, Bool.and_true, Bool.false_and, Bool.and_false, List.foldl_cons, List.foldl_nil]; rfl
  rintro n st ⟨i, t, hi, rfl, ht, rfl⟩
  simp only [f_haberdash_haberdashref04_More_L0, WK_nil, WK_seq_normal, WK_seq_ret, WK_seq_exit, WK_block_normal, WK_block_ret, WK_block_exit, WC_skip, WC_ret, WC_exit, WC_ops, WC_seq, WC_block, WC_cond, WCond_bool, WO_nil, WO_cons, WG_false, WG_true, WP_prim, WR_some, St.guard, St.put, evalO, const_int, const_bool, const_string, const_slice, const_ptr, const_func, const_agg, const_u32, List.map_cons, List.map_nil, List.getD_cons_zero, List.getD_cons_succ, List.set_cons_zero, List.set_cons_succ, Option.map_some, Option.bind_some, ne_eq, reduceCtorEq, not_false_eq_true, implies_true, beq_self_eq_true, BEq.rfl, if_true, if_false, Bool.false_eq_true, not_true_eq_false, Option.some.injEq, reduceIte, Bool.not_true, Bool.not_false, beq_true, beq_false, Bool.true_and, Bool.and_true, Bool.false_and, Bool.and_false, px_id, px_pick, px_nilv, px_alloc, px_box, px_build, px_buildSlice, px_load_ptr, px_load_rop, px_store, px_nilCheck_ptr, px_nilCheck_rop, px_nilCheck_fn, px_bin, px_eq, px_eqBool, px_eqNil, px_un, px_convInt, px_strBytes, px_bytesStr, px_bytesBytes, px_strStr, px_makeFunc, px_makeSlice, px_sliceStr, px_slice_own, px_slice_ro, px_slice_nil, px_sliceArr, px_fieldAddr_ptr, px_fieldAddr_rop, px_field, px_indexAddr_own, px_indexAddr_ro, px_indexArr, px_indexStr, px_indexAgg, px_extract, px_append, px_copy, px_lenStr, px_lenSlice, px_lenArr, px_cap_own, px_cap_nil, px_min, px_max, lenOf_nil, lenOf_ro, lenOf_own, natOf_nat, vBin_xor_u32, vBin_and_u32, vUn_xor_u32, vBin_shr_u32, vBin_shr_u32_1, vBin_eql_u32, vBin_lss, vBin_leq, vBin_gtr, vBin_geq, vBin_eql, vBin_neq, c1, c2]
  by_cases hlt : i < 8
  · have hlt' : (i : Int) < 8 := by omega
    have ei : 8 - i = (8 - (i + 1)) + 1 := by omega
    rw [ei] at ht
    simp only [hlt', decide_true, WK_nil, WK_seq_normal, WK_seq_ret, WK_seq_exit, WK_block_normal, WK_block_ret, WK_block_exit, WC_skip, WC_ret, WC_exit, WC_ops, WC_seq, WC_block, WC_cond, WCond_bool, WO_nil, WO_cons, WG_false, WG_true, WP_prim, WR_some, St.guard, St.put, evalO, const_int, const_bool, const_string, const_slice, const_ptr, const_func, const_agg, const_u32, List.map_cons, List.map_nil, List.getD_cons_zero, List.getD_cons_succ, List.set_cons_zero, List.set_cons_succ, Option.map_some, Option.bind_some, ne_eq, reduceCtorEq, not_false_eq_true, implies_true, beq_self_eq_true, BEq.rfl, if_true, if_false, Bool.false_eq_true, not_true_eq_false, Option.some.injEq, reduceIte, Bool.not_true, Bool.not_false, beq_true, beq_false, Bool.true_and, Bool.and_true, Bool.false_and, Bool.and_false, px_id, px_pick, px_nilv, px_alloc, px_box, px_build, px_buildSlice, px_load_ptr, px_load_rop, px_store, px_nilCheck_ptr, px_nilCheck_rop, px_nilCheck_fn, px_bin, px_eq, px_eqBool, px_eqNil, px_un, px_convInt, px_strBytes, px_bytesStr, px_bytesBytes, px_strStr, px_makeFunc, px_makeSlice, px_sliceStr, px_slice_own, px_slice_ro, px_slice_nil, px_sliceArr, px_fieldAddr_ptr, px_fieldAddr_rop, px_field, px_indexAddr_own, px_indexAddr_ro, px_indexArr, px_indexStr, px_indexAgg, px_extract, px_append, px_copy, px_lenStr, px_lenSlice, px_lenArr, px_cap_own, px_cap_nil, px_min, px_max, lenOf_nil, lenOf_ro, lenOf_own, natOf_nat, vBin_xor_u32, vBin_and_u32, vUn_xor_u32, vBin_shr_u32, vBin_shr_u32_1, vBin_eql_u32, vBin_lss, vBin_leq, vBin_gtr, vBin_geq, vBin_eql, vBin_neq, c1, c2, v.index hp, v.load1 hx, byteAV, wrap_u64_nat (show i < 18446744073709551616 by omega), vBin_shr_u8 (show i ≤ 8 by omega), u8s_u32]
    by_cases hb : (t &&& 1#32 ^^^ BitVec.ofNat 32 bs[p].toNat >>> i &&& 1#32 == 1#32) = true
    · simp only [hb, WK_nil, WK_seq_normal, WK_seq_ret, WK_seq_exit, WK_block_normal, WK_block_ret, WK_block_exit, WC_skip, WC_ret, WC_exit, WC_ops, WC_seq, WC_block, WC_cond, WCond_bool, WO_nil, WO_cons, WG_false, WG_true, WP_prim, WR_some, St.guard, St.put, evalO, const_int, const_bool, const_string, const_slice, const_ptr, const_func, const_agg, const_u32, List.map_cons, List.map_nil, List.getD_cons_zero, List.getD_cons_succ, List.set_cons_zero, List.set_cons_succ, Option.map_some, Option.bind_some, ne_eq, reduceCtorEq, not_false_eq_true, implies_true, beq_self_eq_true, BEq.rfl, if_true, if_false, Bool.false_eq_true, not_true_eq_false, Option.some.injEq, reduceIte, Bool.not_true, Bool.not_false, beq_true, beq_false, Bool.true_and, Bool.and_true, Bool.false_and, Bool.and_false, px_id, px_pick, px_nilv, px_alloc, px_box, px_build, px_buildSlice, px_load_ptr, px_load_rop, px_store, px_nilCheck_ptr, px_nilCheck_rop, px_nilCheck_fn, px_bin, px_eq, px_eqBool, px_eqNil, px_un, px_convInt, px_strBytes, px_bytesStr, px_bytesBytes, px_strStr, px_makeFunc, px_makeSlice, px_sliceStr, px_slice_own, px_slice_ro, px_slice_nil, px_sliceArr, px_fieldAddr_ptr, px_fieldAddr_rop, px_field, px_indexAddr_own, px_indexAddr_ro, px_indexArr, px_indexStr, px_indexAgg, px_extract, px_append, px_copy, px_lenStr, px_lenSlice, px_lenArr, px_cap_own, px_cap_nil, px_min, px_max, lenOf_nil, lenOf_ro, lenOf_own, natOf_nat, vBin_xor_u32, vBin_and_u32, vUn_xor_u32, vBin_shr_u32, vBin_shr_u32_1, vBin_eql_u32, vBin_lss, vBin_leq, vBin_gtr, vBin_geq, vBin_eql, vBin_neq, c1, c2]
      rw [vBin_add_i64 (by omega) (by omega)]
      simp only [WK_nil, WK_seq_normal, WK_seq_ret, WK_seq_exit, WK_block_normal, WK_block_ret, WK_block_exit, WC_skip, WC_ret, WC_exit, WC_ops, WC_seq, WC_block, WC_cond, WCond_bool, WO_nil, WO_cons, WG_false, WG_true, WP_prim, WR_some, St.guard, St.put, evalO, const_int, const_bool, const_string, const_slice, const_ptr, const_func, const_agg, const_u32, List.map_cons, List.map_nil, List.getD_cons_zero, List.getD_cons_succ, List.set_cons_zero, List.set_cons_succ, Option.map_some, Option.bind_some, ne_eq, reduceCtorEq, not_false_eq_true, implies_true, beq_self_eq_true, BEq.rfl, if_true, if_false, Bool.false_eq_true, not_true_eq_false, Option.some.injEq, reduceIte, Bool.not_true, Bool.not_false, beq_true, beq_false, Bool.true_and, Bool.and_true, Bool.false_and, Bool.and_false, px_id, px_pick, px_nilv, px_alloc, px_box, px_build, px_buildSlice, px_load_ptr, px_load_rop, px_store, px_nilCheck_ptr, px_nilCheck_rop, px_nilCheck_fn, px_bin, px_eq, px_eqBool, px_eqNil, px_un, px_convInt, px_strBytes, px_bytesStr, px_bytesBytes, px_strStr, px_makeFunc, px_makeSlice, px_sliceStr, px_slice_own, px_slice_ro, px_slice_nil, px_sliceArr, px_fieldAddr_ptr, px_fieldAddr_rop, px_field, px_indexAddr_own, px_indexAddr_ro, px_indexArr, px_indexStr, px_indexAgg, px_extract, px_append, px_copy, px_lenStr, px_lenSlice, px_lenArr, px_cap_own, px_cap_nil, px_min, px_max, lenOf_nil, lenOf_ro, lenOf_own, natOf_nat, vBin_xor_u32, vBin_and_u32, vUn_xor_u32, vBin_shr_u32, vBin_shr_u32_1, vBin_eql_u32, vBin_lss, vBin_leq, vBin_gtr, vBin_geq, vBin_eql, vBin_neq, clear_nil, List.map_cons, List.map_nil, List.getD_cons_zero, List.getD_cons_succ, List.set_cons_zero, List.set_cons_succ, Option.map_some, Option.bind_some, ne_eq, reduceCtorEq, not_false_eq_true, implies_true, beq_self_eq_true, BEq.rfl, if_true, if_false, Bool.false_eq_true, not_true_eq_false, Option.some.injEq, reduceIte, Bool.not_true, Bool.not_false, beq_true, beq_false, Bool.true_and, Bool.and_true, Bool.false_and, Bool.and_false, List.foldl_cons, List.foldl_nil]
      refine ⟨_, 8 - (i + 1), rfl, by omega, i + 1, refBit t (BitVec.ofNat 32 bs[p].toNat) i, by omega, rfl, ht, ?_⟩
      simp only [refBit, hb, if_true]
      rfl
    · simp only [hb, WK_nil, WK_seq_normal, WK_seq_ret, WK_seq_exit, WK_block_normal, WK_block_ret, WK_block_exit, WC_skip, WC_ret, WC_exit, WC_ops, WC_seq, WC_block, WC_cond, WCond_bool, WO_nil, WO_cons, WG_false, WG_true, WP_prim, WR_some, St.guard, St.put, evalO, const_int, const_bool, const_string, const_slice, const_ptr, const_func, const_agg, const_u32, List.map_cons, List.map_nil, List.getD_cons_zero, List.getD_cons_succ, List.set_cons_zero, List.set_cons_succ, Option.map_some, Option.bind_some, ne_eq, reduceCtorEq, not_false_eq_true, implies_true, beq_self_eq_true, BEq.rfl, if_true, if_false, Bool.false_eq_true, not_true_eq_false, Option.some.injEq, reduceIte, Bool.not_true, Bool.not_false, beq_true, beq_false, Bool.true_and, Bool.and_true, Bool.false_and, Bool.and_false, px_id, px_pick, px_nilv, px_alloc, px_box, px_build, px_buildSlice, px_load_ptr, px_load_rop, px_store, px_nilCheck_ptr, px_nilCheck_rop, px_nilCheck_fn, px_bin, px_eq, px_eqBool, px_eqNil, px_un, px_convInt, px_strBytes, px_bytesStr, px_bytesBytes, px_strStr, px_makeFunc, px_makeSlice, px_sliceStr, px_slice_own, px_slice_ro, px_slice_nil, px_sliceArr, px_fieldAddr_ptr, px_fieldAddr_rop, px_field, px_indexAddr_own, px_indexAddr_ro, px_indexArr, px_indexStr, px_indexAgg, px_extract, px_append, px_copy, px_lenStr, px_lenSlice, px_lenArr, px_cap_own, px_cap_nil, px_min, px_max, lenOf_nil, lenOf_ro, lenOf_own, natOf_nat, vBin_xor_u32, vBin_and_u32, vUn_xor_u32, vBin_shr_u32, vBin_shr_u32_1, vBin_eql_u32, vBin_lss, vBin_leq, vBin_gtr, vBin_geq, vBin_eql, vBin_neq, c1, c2]
      rw [vBin_add_i64 (by omega) (by omega)]
      simp only [WK_nil, WK_seq_normal, WK_seq_ret, WK_seq_exit, WK_block_normal, WK_block_ret, WK_block_exit, WC_skip, WC_ret, WC_exit, WC_ops, WC_seq, WC_block, WC_cond, WCond_bool, WO_nil, WO_cons, WG_false, WG_true, WP_prim, WR_some, St.guard, St.put, evalO, const_int, const_bool, const_string, const_slice, const_ptr, const_func, const_agg, const_u32, List.map_cons, List.map_nil, List.getD_cons_zero, List.getD_cons_succ, List.set_cons_zero, List.set_cons_succ, Option.map_some, Option.bind_some, ne_eq, reduceCtorEq, not_false_eq_true, implies_true, beq_self_eq_true, BEq.rfl, if_true, if_false, Bool.false_eq_true, not_true_eq_false, Option.some.injEq, reduceIte, Bool.not_true, Bool.not_false, beq_true, beq_false, Bool.true_and, Bool.and_true, Bool.false_and, Bool.and_false, px_id, px_pick, px_nilv, px_alloc, px_box, px_build, px_buildSlice, px_load_ptr, px_load_rop, px_store, px_nilCheck_ptr, px_nilCheck_rop, px_nilCheck_fn, px_bin, px_eq, px_eqBool, px_eqNil, px_un, px_convInt, px_strBytes, px_bytesStr, px_bytesBytes, px_strStr, px_makeFunc, px_makeSlice, px_sliceStr, px_slice_own, px_slice_ro, px_slice_nil, px_sliceArr, px_fieldAddr_ptr, px_fieldAddr_rop, px_field, px_indexAddr_own, px_indexAddr_ro, px_indexArr, px_indexStr, px_indexAgg, px_extract, px_append, px_copy, px_lenStr, px_lenSlice, px_lenArr, px_cap_own, px_cap_nil, px_min, px_max, lenOf_nil, lenOf_ro, lenOf_own, natOf_nat, vBin_xor_u32, vBin_and_u32, vUn_xor_u32, vBin_shr_u32, vBin_shr_u32_1, vBin_eql_u32, vBin_lss, vBin_leq, vBin_gtr, vBin_geq, vBin_eql, vBin_neq, clear_nil, List.map_cons, List.map_nil, List.getD_cons_zero, List.getD_cons_succ, List.set_cons_zero, List.set_cons_succ, Option.map_some, Option.bind_some, ne_eq, reduceCtorEq, not_false_eq_true, implies_true, beq_self_eq_true, BEq.rfl, if_true, if_false, Bool.false_eq_true, not_true_eq_false, Option.some.injEq, reduceIte, Bool.not_true, Bool.not_false, beq_true, beq_false, Bool.true_and, Bool.and_true, Bool.false_and, Bool.and_false, List.foldl_cons, List.foldl_nil]
      refine ⟨_, 8 - (i + 1), rfl, by omega, i + 1, refBit t (BitVec.ofNat 32 bs[p].toNat) i, by omega, rfl, ht, ?_⟩
      simp only [refBit, hb]
      rfl
  · obtain rfl : i = 8 := by omega
    simp only [show ¬ (((8 : Nat) : Int) < 8) by omega, decide_false, WK_nil, WK_seq_normal, WK_seq_ret, WK_seq_exit, WK_block_normal, WK_block_ret, WK_block_exit, WC_skip, WC_ret, WC_exit, WC_ops, WC_seq, WC_block, WC_cond, WCond_bool, WO_nil, WO_cons, WG_false, WG_true, WP_prim, WR_some, St.guard, St.put, evalO, const_int, const_bool, const_string, const_slice, const_ptr, const_func, const_agg, const_u32, List.map_cons, List.map_nil, List.getD_cons_zero, List.getD_cons_succ, List.set_cons_zero, List.set_cons_succ, Option.map_some, Option.bind_some, ne_eq, reduceCtorEq, not_false_eq_true, implies_true, beq_self_eq_true, BEq.rfl, if_true, if_false, Bool.false_eq_true, not_true_eq_false, Option.some.injEq, reduceIte, Bool.not_true, Bool.not_false, beq_true, beq_false, Bool.true_and, Bool.and_true, Bool.false_and, Bool.and_false, px_id, px_pick, px_nilv, px_alloc, px_box, px_build, px_buildSlice, px_load_ptr, px_load_rop, px_store, px_nilCheck_ptr, px_nilCheck_rop, px_nilCheck_fn, px_bin, px_eq, px_eqBool, px_eqNil, px_un, px_convInt, px_strBytes, px_bytesStr, px_bytesBytes, px_strStr, px_makeFunc, px_makeSlice, px_sliceStr, px_slice_own, px_slice_ro, px_slice_nil, px_sliceArr, px_fieldAddr_ptr, px_fieldAddr_rop, px_field, px_indexAddr_own, px_indexAddr_ro, px_indexArr, px_indexStr, px_indexAgg, px_extract, px_append, px_copy, px_lenStr, px_lenSlice, px_lenArr, px_cap_own, px_cap_nil, px_min, px_max, lenOf_nil, lenOf_ro, lenOf_own, natOf_nat, vBin_xor_u32, vBin_and_u32, vUn_xor_u32, vBin_shr_u32, vBin_shr_u32_1, vBin_eql_u32, vBin_lss, vBin_leq, vBin_gtr, vBin_geq, vBin_eql, vBin_neq]
    simp only [Nat.sub_self, refBits] at ht
    rw [ht]
    exact hq

theorem RefMore_spec (hf : prog "haberdash/haberdashref04.More" = some f_haberdash_haberdashref04_More) {G a} {bs : List UInt8} (v : ∀ L, View ⟨G, L⟩ a 1 bs.length (bs.map byteAV)) (s : BitVec 32) (hb : bs.length < 2 ^ 62) :
    Ev prog (.call "haberdash/haberdashref04.More" [.v (u32 s), a] G) (.ret (.v (u32 (crcMore s bs))) G) := by
  refine call_of_fin hf ?_
  have v0 := v []
  simp only [f_haberdash_haberdashref04_More_B, enter, List.length_cons, List.length_nil, List.replicate, Nat.reduceAdd, Nat.reduceSub, List.cons_append, List.nil_append]
  simp only [WK_nil, WK_seq_normal, WK_seq_ret, WK_seq_exit, WK_block_normal, WK_block_ret, WK_block_exit, WC_skip, WC_ret, WC_exit, WC_ops, WC_seq, WC_block, WC_cond, WCond_bool, WO_nil, WO_cons, WG_false, WG_true, WP_prim, WR_some, St.guard, St.put, evalO, const_int, const_bool, const_string, const_slice, const_ptr, const_func, const_agg, const_u32, List.map_cons, List.map_nil, List.getD_cons_zero, List.getD_cons_succ, List.set_cons_zero, List.set_cons_succ, Option.map_some, Option.bind_some, ne_eq, reduceCtorEq, not_false_eq_true, implies_true, beq_self_eq_true, BEq.rfl, if_true, if_false, Bool.false_eq_true, not_true_eq_false, Option.some.injEq, reduceIte, Bool.not_true, Bool.not_false, beq_true, beq_false, Bool.true_and, Bool.and_true, Bool.false_and, Bool.and_false, px_id, px_pick, px_nilv, px_alloc, px_box, px_build, px_buildSlice, px_load_ptr, px_load_rop, px_store, px_nilCheck_ptr, px_nilCheck_rop, px_nilCheck_fn, px_bin, px_eq, px_eqBool, px_eqNil, px_un, px_convInt, px_strBytes, px_bytesStr, px_bytesBytes, px_strStr, px_makeFunc, px_makeSlice, px_sliceStr, px_slice_own, px_slice_ro, px_slice_nil, px_sliceArr, px_fieldAddr_ptr, px_fieldAddr_rop, px_field, px_indexAddr_own, px_indexAddr_ro, px_indexArr, px_indexStr, px_indexAgg, px_extract, px_append, px_copy, px_lenStr, px_lenSlice, px_lenArr, px_cap_own, px_cap_nil, px_min, px_max, lenOf_nil, lenOf_ro, lenOf_own, natOf_nat, vBin_xor_u32, vBin_and_u32, vUn_xor_u32, vBin_shr_u32, vBin_shr_u32_1, vBin_eql_u32, vBin_lss, vBin_leq, vBin_gtr, vBin_geq, vBin_eql, vBin_neq]
  refine WC_loop (Inv := fun n st => ∃ i : Nat, i ≤ bs.length ∧ n = bs.length - i ∧ st = ⟨[.v (u32 s), a, .dead, .dead, .v (Value.int IntKind.u32 0), .v (u32 ((bs.take i).foldl crcByte (~~~ s))), .v (.int .i64 (i : Nat)), .dead, .dead, .v (u32 s), .v (u32 (~~~ s)),
    .dead, .dead, .dead, .dead, .dead, .dead, .dead, .dead, .dead, .dead, .dead, .dead, .dead, .dead, .dead, .dead, .dead, .dead, .dead, .dead, .dead, .dead, .dead, .dead, .dead, .dead, .dead, .dead, .dead, .dead], ⟨G, []⟩⟩) bs.length ⟨_, clear_nil, 0, Nat.zero_le _, rfl, ?_⟩ ?_
  · simp only [List.map_cons, List.map_nil, List.getD_cons_zero, List.getD_cons_succ, List.set_cons_zero, List.set_cons_succ, Option.map_some, Option.bind_some, ne_eq, reduceCtorEq, not_false_eq_true, implies_true, beq_self_eq_true, BEq.rfl, if_true, if_false, Bool.false_eq_true, not_true_eq_false, Option.some.injEq, reduceIte, Bool.not_true, Bool.not_false, beq_true, beq_false, Bool.true_and, Bool.and_true, Bool.false_and, Bool.and_false, List.foldl_cons, List.foldl_nil, List.take_zero]; rfl
  rintro n st ⟨i, hi, rfl, rfl⟩
  simp only [f_haberdash_haberdashref04_More_L1, WK_nil, WK_seq_normal, WK_seq_ret, WK_seq_exit, WK_block_normal, WK_block_ret, WK_block_exit, WC_skip, WC_ret, WC_exit, WC_ops, WC_seq, WC_block, WC_cond, WCond_bool, WO_nil, WO_cons, WG_false, WG_true, WP_prim, WR_some, St.guard, St.put, evalO, const_int, const_bool, const_string, const_slice, const_ptr, const_func, const_agg, const_u32, List.map_cons, List.map_nil, List.getD_cons_zero, List.getD_cons_succ, List.set_cons_zero, List.set_cons_succ, Option.map_some, Option.bind_some, ne_eq, reduceCtorEq, not_false_eq_true, implies_true, beq_self_eq_true, BEq.rfl, if_true, if_false, Bool.false_eq_true, not_true_eq_false, Option.some.injEq, reduceIte, Bool.not_true, Bool.not_false, beq_true, beq_false, Bool.true_and, Bool.and_true, Bool.false_and, Bool.and_false, px_id, px_pick, px_nilv, px_alloc, px_box, px_build, px_buildSlice, px_load_ptr, px_load_rop, px_store, px_nilCheck_ptr, px_nilCheck_rop, px_nilCheck_fn, px_bin, px_eq, px_eqBool, px_eqNil, px_un, px_convInt, px_strBytes, px_bytesStr, px_bytesBytes, px_strStr, px_makeFunc, px_makeSlice, px_sliceStr, px_slice_own, px_slice_ro, px_slice_nil, px_sliceArr, px_fieldAddr_ptr, px_fieldAddr_rop, px_field, px_indexAddr_own, px_indexAddr_ro, px_indexArr, px_indexStr, px_indexAgg, px_extract, px_append, px_copy, px_lenStr, px_lenSlice, px_lenArr, px_cap_own, px_cap_nil, px_min, px_max, lenOf_nil, lenOf_ro, lenOf_own, natOf_nat, vBin_xor_u32, vBin_and_u32, vUn_xor_u32, vBin_shr_u32, vBin_shr_u32_1, vBin_eql_u32, vBin_lss, vBin_leq, vBin_gtr, vBin_geq, vBin_eql, vBin_neq, v0.lenSlice]
  by_cases hlt : i < bs.length
  · have hlt' : (i : Int) < (bs.length : Int) := by omega
    simp only [hlt', decide_true, WK_nil, WK_seq_normal, WK_seq_ret, WK_seq_exit, WK_block_normal, WK_block_ret, WK_block_exit, WC_skip, WC_ret, WC_exit, WC_ops, WC_seq, WC_block, WC_cond, WCond_bool, WO_nil, WO_cons, WG_false, WG_true, WP_prim, WR_some, St.guard, St.put, evalO, const_int, const_bool, const_string, const_slice, const_ptr, const_func, const_agg, const_u32, List.map_cons, List.map_nil, List.getD_cons_zero, List.getD_cons_succ, List.set_cons_zero, List.set_cons_succ, Option.map_some, Option.bind_some, ne_eq, reduceCtorEq, not_false_eq_true, implies_true, beq_self_eq_true, BEq.rfl, if_true, if_false, Bool.false_eq_true, not_true_eq_false, Option.some.injEq, reduceIte, Bool.not_true, Bool.not_false, beq_true, beq_false, Bool.true_and, Bool.and_true, Bool.false_and, Bool.and_false, px_id, px_pick, px_nilv, px_alloc, px_box, px_build, px_buildSlice, px_load_ptr, px_load_rop, px_store, px_nilCheck_ptr, px_nilCheck_rop, px_nilCheck_fn, px_bin, px_eq, px_eqBool, px_eqNil, px_un, px_convInt, px_strBytes, px_bytesStr, px_bytesBytes, px_strStr, px_makeFunc, px_makeSlice, px_sliceStr, px_slice_own, px_slice_ro, px_slice_nil, px_sliceArr, px_fieldAddr_ptr, px_fieldAddr_rop, px_field, px_indexAddr_own, px_indexAddr_ro, px_indexArr, px_indexStr, px_indexAgg, px_extract, px_append, px_copy, px_lenStr, px_lenSlice, px_lenArr, px_cap_own, px_cap_nil, px_min, px_max, lenOf_nil, lenOf_ro, lenOf_own, natOf_nat, vBin_xor_u32, vBin_and_u32, vUn_xor_u32, vBin_shr_u32, vBin_shr_u32_1, vBin_eql_u32, vBin_lss, vBin_leq, vBin_gtr, vBin_geq, vBin_eql, vBin_neq]
    refine ref_round v0 hlt _ ?_
    simp only [WK_nil, WK_seq_normal, WK_seq_ret, WK_seq_exit, WK_block_normal, WK_block_ret, WK_block_exit, WC_skip, WC_ret, WC_exit, WC_ops, WC_seq, WC_block, WC_cond, WCond_bool, WO_nil, WO_cons, WG_false, WG_true, WP_prim, WR_some, St.guard, St.put, evalO, const_int, const_bool, const_string, const_slice, const_ptr, const_func, const_agg, const_u32, List.map_cons, List.map_nil, List.getD_cons_zero, List.getD_cons_succ, List.set_cons_zero, List.set_cons_succ, Option.map_some, Option.bind_some, ne_eq, reduceCtorEq, not_false_eq_true, implies_true, beq_self_eq_true, BEq.rfl, if_true, if_false, Bool.false_eq_true, not_true_eq_false, Option.some.injEq, reduceIte, Bool.not_true, Bool.not_false, beq_true, beq_false, Bool.true_and, Bool.and_true, Bool.false_and, Bool.and_false, px_id, px_pick, px_nilv, px_alloc, px_box, px_build, px_buildSlice, px_load_ptr, px_load_rop, px_store, px_nilCheck_ptr, px_nilCheck_rop, px_nilCheck_fn, px_bin, px_eq, px_eqBool, px_eqNil, px_un, px_convInt, px_strBytes, px_bytesStr, px_bytesBytes, px_strStr, px_makeFunc, px_makeSlice, px_sliceStr, px_slice_own, px_slice_ro, px_slice_nil, px_sliceArr, px_fieldAddr_ptr, px_fieldAddr_rop, px_field, px_indexAddr_own, px_indexAddr_ro, px_indexArr, px_indexStr, px_indexAgg, px_extract, px_append, px_copy, px_lenStr, px_lenSlice, px_lenArr, px_cap_own, px_cap_nil, px_min, px_max, lenOf_nil, lenOf_ro, lenOf_own, natOf_nat, vBin_xor_u32, vBin_and_u32, vUn_xor_u32, vBin_shr_u32, vBin_shr_u32_1, vBin_eql_u32, vBin_lss, vBin_leq, vBin_gtr, vBin_geq, vBin_eql, vBin_neq]
    rw [vBin_add_i64 (by omega) (by omega)]
    simp only [WK_nil, WK_seq_normal, WK_seq_ret, WK_seq_exit, WK_block_normal, WK_block_ret, WK_block_exit, WC_skip, WC_ret, WC_exit, WC_ops, WC_seq, WC_block, WC_cond, WCond_bool, WO_nil, WO_cons, WG_false, WG_true, WP_prim, WR_some, St.guard, St.put, evalO, const_int, const_bool, const_string, const_slice, const_ptr, const_func, const_agg, const_u32, List.map_cons, List.map_nil, List.getD_cons_zero, List.getD_cons_succ, List.set_cons_zero, List.set_cons_succ, Option.map_some, Option.bind_some, ne_eq, reduceCtorEq, not_false_eq_true, implies_true, beq_self_eq_true, BEq.rfl, if_true, if_false, Bool.false_eq_true, not_true_eq_false, Option.some.injEq, reduceIte, Bool.not_true, Bool.not_false, beq_true, beq_false, Bool.true_and, Bool.and_true, Bool.false_and, Bool.and_false, px_id, px_pick, px_nilv, px_alloc, px_box, px_build, px_buildSlice, px_load_ptr, px_load_rop, px_store, px_nilCheck_ptr, px_nilCheck_rop, px_nilCheck_fn, px_bin, px_eq, px_eqBool, px_eqNil, px_un, px_convInt, px_strBytes, px_bytesStr, px_bytesBytes, px_strStr, px_makeFunc, px_makeSlice, px_sliceStr, px_slice_own, px_slice_ro, px_slice_nil, px_sliceArr, px_fieldAddr_ptr, px_fieldAddr_rop, px_field, px_indexAddr_own, px_indexAddr_ro, px_indexArr, px_indexStr, px_indexAgg, px_extract, px_append, px_copy, px_lenStr, px_lenSlice, px_lenArr, px_cap_own, px_cap_nil, px_min, px_max, lenOf_nil, lenOf_ro, lenOf_own, natOf_nat, vBin_xor_u32, vBin_and_u32, vUn_xor_u32, vBin_shr_u32, vBin_shr_u32_1, vBin_eql_u32, vBin_lss, vBin_leq, vBin_gtr, vBin_geq, vBin_eql, vBin_neq, clear_nil, List.map_cons, List.map_nil, List.getD_cons_zero, List.getD_cons_succ, List.set_cons_zero, List.set_cons_succ, Option.map_some, Option.bind_some, ne_eq, reduceCtorEq, not_false_eq_true, implies_true, beq_self_eq_true, BEq.rfl, if_true, if_false, Bool.false_eq_true, not_true_eq_false, Option.some.injEq, reduceIte, Bool.not_true, Bool.not_false, beq_true, beq_false, Bool.true_and, Bool.and_true, Bool.false_and, Bool.and_false, List.foldl_cons, List.foldl_nil]
    refine ⟨_, bs.length - (i + 1), rfl, by omega, i + 1, by omega, rfl, ?_⟩
    rw [List.take_add_one, List.getElem?_eq_getElem hlt, List.foldl_append]
    rfl
  · have hlt' : ¬ (i : Int) < (bs.length : Int) := by omega
    have : i = bs.length := by omega
    subst this
    simp only [hlt', decide_false, WK_nil, WK_seq_normal, WK_seq_ret, WK_seq_exit, WK_block_normal, WK_block_ret, WK_block_exit, WC_skip, WC_ret, WC_exit, WC_ops, WC_seq, WC_block, WC_cond, WCond_bool, WO_nil, WO_cons, WG_false, WG_true, WP_prim, WR_some, St.guard, St.put, evalO, const_int, const_bool, const_string, const_slice, const_ptr, const_func, const_agg, const_u32, List.map_cons, List.map_nil, List.getD_cons_zero, List.getD_cons_succ, List.set_cons_zero, List.set_cons_succ, Option.map_some, Option.bind_some, ne_eq, reduceCtorEq, not_false_eq_true, implies_true, beq_self_eq_true, BEq.rfl, if_true, if_false, Bool.false_eq_true, not_true_eq_false, Option.some.injEq, reduceIte, Bool.not_true, Bool.not_false, beq_true, beq_false, Bool.true_and, Bool.and_true, Bool.false_and, Bool.and_false, px_id, px_pick, px_nilv, px_alloc, px_box, px_build, px_buildSlice, px_load_ptr, px_load_rop, px_store, px_nilCheck_ptr, px_nilCheck_rop, px_nilCheck_fn, px_bin, px_eq, px_eqBool, px_eqNil, px_un, px_convInt, px_strBytes, px_bytesStr, px_bytesBytes, px_strStr, px_makeFunc, px_makeSlice, px_sliceStr, px_slice_own, px_slice_ro, px_slice_nil, px_sliceArr, px_fieldAddr_ptr, px_fieldAddr_rop, px_field, px_indexAddr_own, px_indexAddr_ro, px_indexArr, px_indexStr, px_indexAgg, px_extract, px_append, px_copy, px_lenStr, px_lenSlice, px_lenArr, px_cap_own, px_cap_nil, px_min, px_max, lenOf_nil, lenOf_ro, lenOf_own, natOf_nat, vBin_xor_u32, vBin_and_u32, vUn_xor_u32, vBin_shr_u32, vBin_shr_u32_1, vBin_eql_u32, vBin_lss, vBin_leq, vBin_gtr, vBin_geq, vBin_eql, vBin_neq, fin_tmp, leave_v, List.take_length]
    simp [crcMore]

end Go.AM

namespace Go.AM
variable {prog : String → Option IFn}

def aw : List UInt8 := [49, 50, 51, 52, 53, 54, 55, 56, 57]

theorem awake_spec (h1 : prog "haberdash/crc.More" = some f_haberdash_crc_More) (h2 : prog "haberdash/crc.Sum" = some f_haberdash_crc_Sum)
    (h3 : prog "haberdash/haberdashlaw05.awake" = some f_haberdash_haberdashlaw05_awake) {G : List (Option Blk)} :
    Ev prog (.call "haberdash/haberdashlaw05.awake" [] G) (.ret (.v (.bool true)) G) := by
  refine call_of_fin h3 ?_
  simp only [f_haberdash_haberdashlaw05_awake_B, enter, List.length_cons, List.length_nil, List.replicate, Nat.reduceAdd, Nat.reduceSub, List.cons_append, List.nil_append]
  have e1 : prim ⟨G, [none]⟩ (.buildSlice 0 false 1 9 [.int .u8 0] [(0, 1), (1, 1), (2, 1), (3, 1), (4, 1), (5, 1), (6, 1), (7, 1), (8, 1)])
      [.v (.int .u8 49), .v (.int .u8 50), .v (.int .u8 51), .v (.int .u8 52), .v (.int .u8 53), .v (.int .u8 54), .v (.int .u8 55), .v (.int .u8 56), .v (.int .u8 57)] =
      some (.own (.l 0) 9 0 9 1 (some 9), ⟨G, [some (newBlk (aw.map byteAV))]⟩) := rfl
  have e3 : prim ⟨G, [some (newBlk (aw.map byteAV))]⟩ .bytesBytes [.own (.l 0) 9 0 9 1 (some 9)] =
    some (.own (.l 0) 9 0 9 1 (some 9), ⟨G, [some (newBlk (aw.map byteAV))]⟩) := rfl
  simp only [WK_nil, WK_seq_normal, WK_seq_ret, WK_seq_exit, WK_block_normal, WK_block_ret, WK_block_exit, WC_skip, WC_ret, WC_exit, WC_ops, WC_seq, WC_block, WC_cond, WCond_bool, WO_nil, WO_cons, WG_false, WG_true, WP_prim, WR_some, St.guard, St.put, evalO, const_int, const_bool, const_string, const_slice, const_ptr, const_func, const_agg, const_u32, List.map_cons, List.map_nil, List.getD_cons_zero, List.getD_cons_succ, List.set_cons_zero, List.set_cons_succ, Option.map_some, Option.bind_some, ne_eq, reduceCtorEq, not_false_eq_true, implies_true, beq_self_eq_true, BEq.rfl, if_true, if_false, Bool.false_eq_true, not_true_eq_false, Option.some.injEq, reduceIte, Bool.not_true, Bool.not_false, beq_true, beq_false, Bool.true_and, Bool.and_true, Bool.false_and, Bool.and_false, px_id, e1, e3]
  have v : View ⟨G, [some (newBlk (aw.map byteAV))]⟩ (.own (.l 0) 9 0 9 1 (some 9)) 1 9 (aw.map byteAV) :=
    ⟨rfl, rfl, rfl, rfl, Nat.le_refl _, by omega⟩
  rw [WP_pure (x := u32 (crcMore 0#32 aw)) (Sum_spec h1 h2 (v.into rfl) (by decide)) rfl rfl]
  rw [show crcMore 0#32 aw = 0xcbf43926#32 by decide +kernel]
  simp only [WK_nil, WK_seq_normal, WK_seq_ret, WK_seq_exit, WK_block_normal, WK_block_ret, WK_block_exit, WC_skip, WC_ret, WC_exit, WC_ops, WC_seq, WC_block, WC_cond, WCond_bool, WO_nil, WO_cons, WG_false, WG_true, WP_prim, WR_some, St.guard, St.put, evalO, const_int, const_bool, const_string, const_slice, const_ptr, const_func, const_agg, const_u32, List.map_cons, List.map_nil, List.getD_cons_zero, List.getD_cons_succ, List.set_cons_zero, List.set_cons_succ, Option.map_some, Option.bind_some, ne_eq, reduceCtorEq, not_false_eq_true, implies_true, beq_self_eq_true, BEq.rfl, if_true, if_false, Bool.false_eq_true, not_true_eq_false, Option.some.injEq, reduceIte, Bool.not_true, Bool.not_false, beq_true, beq_false, Bool.true_and, Bool.and_true, Bool.false_and, Bool.and_false, px_id, px_pick, px_nilv, px_alloc, px_box, px_build, px_buildSlice, px_load_ptr, px_load_rop, px_store, px_nilCheck_ptr, px_nilCheck_rop, px_nilCheck_fn, px_bin, px_eq, px_eqBool, px_eqNil, px_un, px_convInt, px_strBytes, px_bytesStr, px_bytesBytes, px_strStr, px_makeFunc, px_makeSlice, px_sliceStr, px_slice_own, px_slice_ro, px_slice_nil, px_sliceArr, px_fieldAddr_ptr, px_fieldAddr_rop, px_field, px_indexAddr_own, px_indexAddr_ro, px_indexArr, px_indexStr, px_indexAgg, px_extract, px_append, px_copy, px_lenStr, px_lenSlice, px_lenArr, px_cap_own, px_cap_nil, px_min, px_max, lenOf_nil, lenOf_ro, lenOf_own, natOf_nat, vBin_xor_u32, vBin_and_u32, vUn_xor_u32, vBin_shr_u32, vBin_shr_u32_1, vBin_eql_u32, vBin_lss, vBin_leq, vBin_gtr, vBin_geq, vBin_eql, vBin_neq, show Value.int .u32 3421780262 = u32 0xcbf43926#32 from rfl, fin_tmp, leave_v]
  simp

theorem RefSum_spec (hf : prog "haberdash/haberdashref04.More" = some f_haberdash_haberdashref04_More) (hg : prog "haberdash/haberdashref04.Sum" = some f_haberdash_haberdashref04_Sum) {G a} {bs : List UInt8} (v : ∀ L, View ⟨G, L⟩ a 1 bs.length (bs.map byteAV)) (hb : bs.length < 2 ^ 62) :
    Ev prog (.call "haberdash/haberdashref04.Sum" [a] G) (.ret (.v (u32 (crcMore 0#32 bs))) G) := by
  refine call_of_fin hg ?_
  simp only [f_haberdash_haberdashref04_Sum_B, enter, List.length_cons, List.length_nil, List.replicate, Nat.reduceAdd, Nat.reduceSub, List.cons_append, List.nil_append]
  simp only [WK_nil, WK_seq_normal, WK_seq_ret, WK_seq_exit, WK_block_normal, WK_block_ret, WK_block_exit, WC_skip, WC_ret, WC_exit, WC_ops, WC_seq, WC_block, WC_cond, WCond_bool, WO_nil, WO_cons, WG_false, WG_true, WP_prim, WR_some, St.guard, St.put, evalO, const_int, const_bool, const_string, const_slice, const_ptr, const_func, const_agg, const_u32, List.map_cons, List.map_nil, List.getD_cons_zero, List.getD_cons_succ, List.set_cons_zero, List.set_cons_succ, Option.map_some, Option.bind_some, ne_eq, reduceCtorEq, not_false_eq_true, implies_true, beq_self_eq_true, BEq.rfl, if_true, if_false, Bool.false_eq_true, not_true_eq_false, Option.some.injEq, reduceIte, Bool.not_true, Bool.not_false, beq_true, beq_false, Bool.true_and, Bool.and_true, Bool.false_and, Bool.and_false, px_id, px_pick, px_nilv, px_alloc, px_box, px_build, px_buildSlice, px_load_ptr, px_load_rop, px_store, px_nilCheck_ptr, px_nilCheck_rop, px_nilCheck_fn, px_bin, px_eq, px_eqBool, px_eqNil, px_un, px_convInt, px_strBytes, px_bytesStr, px_bytesBytes, px_strStr, px_makeFunc, px_makeSlice, px_sliceStr, px_slice_own, px_slice_ro, px_slice_nil, px_sliceArr, px_fieldAddr_ptr, px_fieldAddr_rop, px_field, px_indexAddr_own, px_indexAddr_ro, px_indexArr, px_indexStr, px_indexAgg, px_extract, px_append, px_copy, px_lenStr, px_lenSlice, px_lenArr, px_cap_own, px_cap_nil, px_min, px_max, lenOf_nil, lenOf_ro, lenOf_own, natOf_nat, vBin_xor_u32, vBin_and_u32, vUn_xor_u32, vBin_shr_u32, vBin_shr_u32_1, vBin_eql_u32, vBin_lss, vBin_leq, vBin_gtr, vBin_geq, vBin_eql, vBin_neq, c0]
  have hd : AV.lf.lfs (bs.map byteAV) = true := by
    rw [lfs_iff]; intro x hx; obtain ⟨b, _, rfl⟩ := List.mem_map.1 hx; rfl
  have := RefMore_spec (prog := prog) hf ((v []).into hd) 0#32 hb
  rw [WP_pure (x := u32 (crcMore 0#32 bs)) (by simpa only [List.map_cons, List.map_nil, ren_v] using this) rfl rfl]
  simp only [WK_nil, WK_seq_normal, WK_seq_ret, WK_seq_exit, WK_block_normal, WK_block_ret, WK_block_exit, WC_skip, WC_ret, WC_exit, WC_ops, WC_seq, WC_block, WC_cond, WCond_bool, WO_nil, WO_cons, WG_false, WG_true, WP_prim, WR_some, St.guard, St.put, evalO, const_int, const_bool, const_string, const_slice, const_ptr, const_func, const_agg, const_u32, List.map_cons, List.map_nil, List.getD_cons_zero, List.getD_cons_succ, List.set_cons_zero, List.set_cons_succ, Option.map_some, Option.bind_some, ne_eq, reduceCtorEq, not_false_eq_true, implies_true, beq_self_eq_true, BEq.rfl, if_true, if_false, Bool.false_eq_true, not_true_eq_false, Option.some.injEq, reduceIte, Bool.not_true, Bool.not_false, beq_true, beq_false, Bool.true_and, Bool.and_true, Bool.false_and, Bool.and_false, px_id, px_pick, px_nilv, px_alloc, px_box, px_build, px_buildSlice, px_load_ptr, px_load_rop, px_store, px_nilCheck_ptr, px_nilCheck_rop, px_nilCheck_fn, px_bin, px_eq, px_eqBool, px_eqNil, px_un, px_convInt, px_strBytes, px_bytesStr, px_bytesBytes, px_strStr, px_makeFunc, px_makeSlice, px_sliceStr, px_slice_own, px_slice_ro, px_slice_nil, px_sliceArr, px_fieldAddr_ptr, px_fieldAddr_rop, px_field, px_indexAddr_own, px_indexAddr_ro, px_indexArr, px_indexStr, px_indexAgg, px_extract, px_append, px_copy, px_lenStr, px_lenSlice, px_lenArr, px_cap_own, px_cap_nil, px_min, px_max, lenOf_nil, lenOf_ro, lenOf_own, natOf_nat, vBin_xor_u32, vBin_and_u32, vUn_xor_u32, vBin_shr_u32, vBin_shr_u32_1, vBin_eql_u32, vBin_lss, vBin_leq, vBin_gtr, vBin_geq, vBin_eql, vBin_neq, fin_tmp, leave_v]
  simp

/-- The functions that the laws of the sums reach. -/
structure CrcProg (prog : String → Option IFn) : Prop where
  more : prog "haberdash/crc.More" = some f_haberdash_crc_More
  sum : prog "haberdash/crc.Sum" = some f_haberdash_crc_Sum
  rmore : prog "haberdash/haberdashref04.More" = some f_haberdash_haberdashref04_More
  rsum : prog "haberdash/haberdashref04.Sum" = some f_haberdash_haberdashref04_Sum
  awake : prog "haberdash/haberdashlaw05.awake" = some f_haberdash_haberdashlaw05_awake

theorem bytes_lfs {bs : List UInt8} : AV.lf.lfs (bs.map byteAV) = true := by
  rw [lfs_iff]; intro x hx; obtain ⟨b, _, rfl⟩ := List.mem_map.1 hx; rfl

theorem CrcAll_spec (H : CrcProg prog) (hp : prog "haberdash/haberdashlaw05.CrcAll" = some f_haberdash_haberdashlaw05_CrcAll) {G a} {bs : List UInt8} (s : BitVec 32) (v : ∀ L, View ⟨G, L⟩ a 1 bs.length (bs.map byteAV)) :
    Ev prog (.call "haberdash/haberdashlaw05.CrcAll" [.v (u32 s), a] G) (.ret (.v (.bool true)) G) := by
  refine call_of_fin hp ?_
  have v0 := v []
  simp only [f_haberdash_haberdashlaw05_CrcAll_B, enter, List.length_cons, List.length_nil, List.replicate, Nat.reduceAdd, Nat.reduceSub, List.cons_append, List.nil_append]
  simp only [WK_nil, WK_seq_normal, WK_seq_ret, WK_seq_exit, WK_block_normal, WK_block_ret, WK_block_exit, WC_skip, WC_ret, WC_exit, WC_ops, WC_seq, WC_block, WC_cond, WCond_bool, WO_nil, WO_cons, WG_false, WG_true, WP_prim, WR_some, St.guard, St.put, evalO, const_int, const_bool, const_string, const_slice, const_ptr, const_func, const_agg, const_u32, List.map_cons, List.map_nil, List.getD_cons_zero, List.getD_cons_succ, List.set_cons_zero, List.set_cons_succ, Option.map_some, Option.bind_some, ne_eq, reduceCtorEq, not_false_eq_true, implies_true, beq_self_eq_true, BEq.rfl, if_true, if_false, Bool.false_eq_true, not_true_eq_false, Option.some.injEq, reduceIte, Bool.not_true, Bool.not_false, beq_true, beq_false, Bool.true_and, Bool.and_true, Bool.false_and, Bool.and_false, px_id, px_pick, px_nilv, px_alloc, px_box, px_build, px_buildSlice, px_load_ptr, px_load_rop, px_store, px_nilCheck_ptr, px_nilCheck_rop, px_nilCheck_fn, px_bin, px_eq, px_eqBool, px_eqNil, px_un, px_convInt, px_strBytes, px_bytesStr, px_bytesBytes, px_strStr, px_makeFunc, px_makeSlice, px_sliceStr, px_slice_own, px_slice_ro, px_slice_nil, px_sliceArr, px_fieldAddr_ptr, px_fieldAddr_rop, px_field, px_indexAddr_own, px_indexAddr_ro, px_indexArr, px_indexStr, px_indexAgg, px_extract, px_append, px_copy, px_lenStr, px_lenSlice, px_lenArr, px_cap_own, px_cap_nil, px_min, px_max, lenOf_nil, lenOf_ro, lenOf_own, natOf_nat, vBin_xor_u32, vBin_and_u32, vUn_xor_u32, vBin_shr_u32, vBin_shr_u32_1, vBin_eql_u32, vBin_lss, vBin_leq, vBin_gtr, vBin_geq, vBin_eql, vBin_neq, v0.lenSlice]
  have aw (G) := awake_spec (G := G) H.more H.sum H.awake
  by_cases hl : (bs.length : Int) > 3000
  · simp only [hl, decide_true, WK_nil, WK_seq_normal, WK_seq_ret, WK_seq_exit, WK_block_normal, WK_block_ret, WK_block_exit, WC_skip, WC_ret, WC_exit, WC_ops, WC_seq, WC_block, WC_cond, WCond_bool, WO_nil, WO_cons, WG_false, WG_true, WP_prim, WR_some, St.guard, St.put, evalO, const_int, const_bool, const_string, const_slice, const_ptr, const_func, const_agg, const_u32, List.map_cons, List.map_nil, List.getD_cons_zero, List.getD_cons_succ, List.set_cons_zero, List.set_cons_succ, Option.map_some, Option.bind_some, ne_eq, reduceCtorEq, not_false_eq_true, implies_true, beq_self_eq_true, BEq.rfl, if_true, if_false, Bool.false_eq_true, not_true_eq_false, Option.some.injEq, reduceIte, Bool.not_true, Bool.not_false, beq_true, beq_false, Bool.true_and, Bool.and_true, Bool.false_and, Bool.and_false, px_id, px_pick, px_nilv, px_alloc, px_box, px_build, px_buildSlice, px_load_ptr, px_load_rop, px_store, px_nilCheck_ptr, px_nilCheck_rop, px_nilCheck_fn, px_bin, px_eq, px_eqBool, px_eqNil, px_un, px_convInt, px_strBytes, px_bytesStr, px_bytesBytes, px_strStr, px_makeFunc, px_makeSlice, px_sliceStr, px_slice_own, px_slice_ro, px_slice_nil, px_sliceArr, px_fieldAddr_ptr, px_fieldAddr_rop, px_field, px_indexAddr_own, px_indexAddr_ro, px_indexArr, px_indexStr, px_indexAgg, px_extract, px_append, px_copy, px_lenStr, px_lenSlice, px_lenArr, px_cap_own, px_cap_nil, px_min, px_max, lenOf_nil, lenOf_ro, lenOf_own, natOf_nat, vBin_xor_u32, vBin_and_u32, vUn_xor_u32, vBin_shr_u32, vBin_shr_u32_1, vBin_eql_u32, vBin_lss, vBin_leq, vBin_gtr, vBin_geq, vBin_eql, vBin_neq]
    rw [WP_pure (x := .bool true) (aw _) rfl rfl]
    simp only [WK_nil, WK_seq_normal, WK_seq_ret, WK_seq_exit, WK_block_normal, WK_block_ret, WK_block_exit, WC_skip, WC_ret, WC_exit, WC_ops, WC_seq, WC_block, WC_cond, WCond_bool, WO_nil, WO_cons, WG_false, WG_true, WP_prim, WR_some, St.guard, St.put, evalO, const_int, const_bool, const_string, const_slice, const_ptr, const_func, const_agg, const_u32, List.map_cons, List.map_nil, List.getD_cons_zero, List.getD_cons_succ, List.set_cons_zero, List.set_cons_succ, Option.map_some, Option.bind_some, ne_eq, reduceCtorEq, not_false_eq_true, implies_true, beq_self_eq_true, BEq.rfl, if_true, if_false, Bool.false_eq_true, not_true_eq_false, Option.some.injEq, reduceIte, Bool.not_true, Bool.not_false, beq_true, beq_false, Bool.true_and, Bool.and_true, Bool.false_and, Bool.and_false, px_id, px_pick, px_nilv, px_alloc, px_box, px_build, px_buildSlice, px_load_ptr, px_load_rop, px_store, px_nilCheck_ptr, px_nilCheck_rop, px_nilCheck_fn, px_bin, px_eq, px_eqBool, px_eqNil, px_un, px_convInt, px_strBytes, px_bytesStr, px_bytesBytes, px_strStr, px_makeFunc, px_makeSlice, px_sliceStr, px_slice_own, px_slice_ro, px_slice_nil, px_sliceArr, px_fieldAddr_ptr, px_fieldAddr_rop, px_field, px_indexAddr_own, px_indexAddr_ro, px_indexArr, px_indexStr, px_indexAgg, px_extract, px_append, px_copy, px_lenStr, px_lenSlice, px_lenArr, px_cap_own, px_cap_nil, px_min, px_max, lenOf_nil, lenOf_ro, lenOf_own, natOf_nat, vBin_xor_u32, vBin_and_u32, vUn_xor_u32, vBin_shr_u32, vBin_shr_u32_1, vBin_eql_u32, vBin_lss, vBin_leq, vBin_gtr, vBin_geq, vBin_eql, vBin_neq, fin_tmp, leave_v]
    simp
  · have hb : bs.length < 2 ^ 62 := by omega
    simp only [hl, decide_false, WK_nil, WK_seq_normal, WK_seq_ret, WK_seq_exit, WK_block_normal, WK_block_ret, WK_block_exit, WC_skip, WC_ret, WC_exit, WC_ops, WC_seq, WC_block, WC_cond, WCond_bool, WO_nil, WO_cons, WG_false, WG_true, WP_prim, WR_some, St.guard, St.put, evalO, const_int, const_bool, const_string, const_slice, const_ptr, const_func, const_agg, const_u32, List.map_cons, List.map_nil, List.getD_cons_zero, List.getD_cons_succ, List.set_cons_zero, List.set_cons_succ, Option.map_some, Option.bind_some, ne_eq, reduceCtorEq, not_false_eq_true, implies_true, beq_self_eq_true, BEq.rfl, if_true, if_false, Bool.false_eq_true, not_true_eq_false, Option.some.injEq, reduceIte, Bool.not_true, Bool.not_false, beq_true, beq_false, Bool.true_and, Bool.and_true, Bool.false_and, Bool.and_false, px_id, px_pick, px_nilv, px_alloc, px_box, px_build, px_buildSlice, px_load_ptr, px_load_rop, px_store, px_nilCheck_ptr, px_nilCheck_rop, px_nilCheck_fn, px_bin, px_eq, px_eqBool, px_eqNil, px_un, px_convInt, px_strBytes, px_bytesStr, px_bytesBytes, px_strStr, px_makeFunc, px_makeSlice, px_sliceStr, px_slice_own, px_slice_ro, px_slice_nil, px_sliceArr, px_fieldAddr_ptr, px_fieldAddr_rop, px_field, px_indexAddr_own, px_indexAddr_ro, px_indexArr, px_indexStr, px_indexAgg, px_extract, px_append, px_copy, px_lenStr, px_lenSlice, px_lenArr, px_cap_own, px_cap_nil, px_min, px_max, lenOf_nil, lenOf_ro, lenOf_own, natOf_nat, vBin_xor_u32, vBin_and_u32, vUn_xor_u32, vBin_shr_u32, vBin_shr_u32_1, vBin_eql_u32, vBin_lss, vBin_leq, vBin_gtr, vBin_geq, vBin_eql, vBin_neq]
    rw [WP_pure (x := .bool true) (aw _) rfl rfl]
    simp only [WK_nil, WK_seq_normal, WK_seq_ret, WK_seq_exit, WK_block_normal, WK_block_ret, WK_block_exit, WC_skip, WC_ret, WC_exit, WC_ops, WC_seq, WC_block, WC_cond, WCond_bool, WO_nil, WO_cons, WG_false, WG_true, WP_prim, WR_some, St.guard, St.put, evalO, const_int, const_bool, const_string, const_slice, const_ptr, const_func, const_agg, const_u32, List.map_cons, List.map_nil, List.getD_cons_zero, List.getD_cons_succ, List.set_cons_zero, List.set_cons_succ, Option.map_some, Option.bind_some, ne_eq, reduceCtorEq, not_false_eq_true, implies_true, beq_self_eq_true, BEq.rfl, if_true, if_false, Bool.false_eq_true, not_true_eq_false, Option.some.injEq, reduceIte, Bool.not_true, Bool.not_false, beq_true, beq_false, Bool.true_and, Bool.and_true, Bool.false_and, Bool.and_false, px_id, px_pick, px_nilv, px_alloc, px_box, px_build, px_buildSlice, px_load_ptr, px_load_rop, px_store, px_nilCheck_ptr, px_nilCheck_rop, px_nilCheck_fn, px_bin, px_eq, px_eqBool, px_eqNil, px_un, px_convInt, px_strBytes, px_bytesStr, px_bytesBytes, px_strStr, px_makeFunc, px_makeSlice, px_sliceStr, px_slice_own, px_slice_ro, px_slice_nil, px_sliceArr, px_fieldAddr_ptr, px_fieldAddr_rop, px_field, px_indexAddr_own, px_indexAddr_ro, px_indexArr, px_indexStr, px_indexAgg, px_extract, px_append, px_copy, px_lenStr, px_lenSlice, px_lenArr, px_cap_own, px_cap_nil, px_min, px_max, lenOf_nil, lenOf_ro, lenOf_own, natOf_nat, vBin_xor_u32, vBin_and_u32, vUn_xor_u32, vBin_shr_u32, vBin_shr_u32_1, vBin_eql_u32, vBin_lss, vBin_leq, vBin_gtr, vBin_geq, vBin_eql, vBin_neq]
    rw [WP_pure (x := u32 (crcMore 0#32 bs)) (Sum_spec H.more H.sum ((v []).into bytes_lfs) hb) rfl rfl]
    simp only [WK_nil, WK_seq_normal, WK_seq_ret, WK_seq_exit, WK_block_normal, WK_block_ret, WK_block_exit, WC_skip, WC_ret, WC_exit, WC_ops, WC_seq, WC_block, WC_cond, WCond_bool, WO_nil, WO_cons, WG_false, WG_true, WP_prim, WR_some, St.guard, St.put, evalO, const_int, const_bool, const_string, const_slice, const_ptr, const_func, const_agg, const_u32, List.map_cons, List.map_nil, List.getD_cons_zero, List.getD_cons_succ, List.set_cons_zero, List.set_cons_succ, Option.map_some, Option.bind_some, ne_eq, reduceCtorEq, not_false_eq_true, implies_true, beq_self_eq_true, BEq.rfl, if_true, if_false, Bool.false_eq_true, not_true_eq_false, Option.some.injEq, reduceIte, Bool.not_true, Bool.not_false, beq_true, beq_false, Bool.true_and, Bool.and_true, Bool.false_and, Bool.and_false, px_id, px_pick, px_nilv, px_alloc, px_box, px_build, px_buildSlice, px_load_ptr, px_load_rop, px_store, px_nilCheck_ptr, px_nilCheck_rop, px_nilCheck_fn, px_bin, px_eq, px_eqBool, px_eqNil, px_un, px_convInt, px_strBytes, px_bytesStr, px_bytesBytes, px_strStr, px_makeFunc, px_makeSlice, px_sliceStr, px_slice_own, px_slice_ro, px_slice_nil, px_sliceArr, px_fieldAddr_ptr, px_fieldAddr_rop, px_field, px_indexAddr_own, px_indexAddr_ro, px_indexArr, px_indexStr, px_indexAgg, px_extract, px_append, px_copy, px_lenStr, px_lenSlice, px_lenArr, px_cap_own, px_cap_nil, px_min, px_max, lenOf_nil, lenOf_ro, lenOf_own, natOf_nat, vBin_xor_u32, vBin_and_u32, vUn_xor_u32, vBin_shr_u32, vBin_shr_u32_1, vBin_eql_u32, vBin_lss, vBin_leq, vBin_gtr, vBin_geq, vBin_eql, vBin_neq]
    rw [WP_pure (x := u32 (crcMore 0#32 bs)) (RefSum_spec H.rmore H.rsum ((v []).into bytes_lfs) hb) rfl rfl]
    simp only [WK_nil, WK_seq_normal, WK_seq_ret, WK_seq_exit, WK_block_normal, WK_block_ret, WK_block_exit, WC_skip, WC_ret, WC_exit, WC_ops, WC_seq, WC_block, WC_cond, WCond_bool, WO_nil, WO_cons, WG_false, WG_true, WP_prim, WR_some, St.guard, St.put, evalO, const_int, const_bool, const_string, const_slice, const_ptr, const_func, const_agg, const_u32, List.map_cons, List.map_nil, List.getD_cons_zero, List.getD_cons_succ, List.set_cons_zero, List.set_cons_succ, Option.map_some, Option.bind_some, ne_eq, reduceCtorEq, not_false_eq_true, implies_true, beq_self_eq_true, BEq.rfl, if_true, if_false, Bool.false_eq_true, not_true_eq_false, Option.some.injEq, reduceIte, Bool.not_true, Bool.not_false, beq_true, beq_false, Bool.true_and, Bool.and_true, Bool.false_and, Bool.and_false, px_id, px_pick, px_nilv, px_alloc, px_box, px_build, px_buildSlice, px_load_ptr, px_load_rop, px_store, px_nilCheck_ptr, px_nilCheck_rop, px_nilCheck_fn, px_bin, px_eq, px_eqBool, px_eqNil, px_un, px_convInt, px_strBytes, px_bytesStr, px_bytesBytes, px_strStr, px_makeFunc, px_makeSlice, px_sliceStr, px_slice_own, px_slice_ro, px_slice_nil, px_sliceArr, px_fieldAddr_ptr, px_fieldAddr_rop, px_field, px_indexAddr_own, px_indexAddr_ro, px_indexArr, px_indexStr, px_indexAgg, px_extract, px_append, px_copy, px_lenStr, px_lenSlice, px_lenArr, px_cap_own, px_cap_nil, px_min, px_max, lenOf_nil, lenOf_ro, lenOf_own, natOf_nat, vBin_xor_u32, vBin_and_u32, vUn_xor_u32, vBin_shr_u32, vBin_shr_u32_1, vBin_eql_u32, vBin_lss, vBin_leq, vBin_gtr, vBin_geq, vBin_eql, vBin_neq]
    rw [WP_pure (x := u32 (crcMore s bs)) (More_spec H.more ((v []).into bytes_lfs) s hb) rfl rfl]
    simp only [WK_nil, WK_seq_normal, WK_seq_ret, WK_seq_exit, WK_block_normal, WK_block_ret, WK_block_exit, WC_skip, WC_ret, WC_exit, WC_ops, WC_seq, WC_block, WC_cond, WCond_bool, WO_nil, WO_cons, WG_false, WG_true, WP_prim, WR_some, St.guard, St.put, evalO, const_int, const_bool, const_string, const_slice, const_ptr, const_func, const_agg, const_u32, List.map_cons, List.map_nil, List.getD_cons_zero, List.getD_cons_succ, List.set_cons_zero, List.set_cons_succ, Option.map_some, Option.bind_some, ne_eq, reduceCtorEq, not_false_eq_true, implies_true, beq_self_eq_true, BEq.rfl, if_true, if_false, Bool.false_eq_true, not_true_eq_false, Option.some.injEq, reduceIte, Bool.not_true, Bool.not_false, beq_true, beq_false, Bool.true_and, Bool.and_true, Bool.false_and, Bool.and_false, px_id, px_pick, px_nilv, px_alloc, px_box, px_build, px_buildSlice, px_load_ptr, px_load_rop, px_store, px_nilCheck_ptr, px_nilCheck_rop, px_nilCheck_fn, px_bin, px_eq, px_eqBool, px_eqNil, px_un, px_convInt, px_strBytes, px_bytesStr, px_bytesBytes, px_strStr, px_makeFunc, px_makeSlice, px_sliceStr, px_slice_own, px_slice_ro, px_slice_nil, px_sliceArr, px_fieldAddr_ptr, px_fieldAddr_rop, px_field, px_indexAddr_own, px_indexAddr_ro, px_indexArr, px_indexStr, px_indexAgg, px_extract, px_append, px_copy, px_lenStr, px_lenSlice, px_lenArr, px_cap_own, px_cap_nil, px_min, px_max, lenOf_nil, lenOf_ro, lenOf_own, natOf_nat, vBin_xor_u32, vBin_and_u32, vUn_xor_u32, vBin_shr_u32, vBin_shr_u32_1, vBin_eql_u32, vBin_lss, vBin_leq, vBin_gtr, vBin_geq, vBin_eql, vBin_neq]
    rw [WP_pure (x := u32 (crcMore s bs)) (RefMore_spec H.rmore ((v []).into bytes_lfs) s hb) rfl rfl]
    simp only [WK_nil, WK_seq_normal, WK_seq_ret, WK_seq_exit, WK_block_normal, WK_block_ret, WK_block_exit, WC_skip, WC_ret, WC_exit, WC_ops, WC_seq, WC_block, WC_cond, WCond_bool, WO_nil, WO_cons, WG_false, WG_true, WP_prim, WR_some, St.guard, St.put, evalO, const_int, const_bool, const_string, const_slice, const_ptr, const_func, const_agg, const_u32, List.map_cons, List.map_nil, List.getD_cons_zero, List.getD_cons_succ, List.set_cons_zero, List.set_cons_succ, Option.map_some, Option.bind_some, ne_eq, reduceCtorEq, not_false_eq_true, implies_true, beq_self_eq_true, BEq.rfl, if_true, if_false, Bool.false_eq_true, not_true_eq_false, Option.some.injEq, reduceIte, Bool.not_true, Bool.not_false, beq_true, beq_false, Bool.true_and, Bool.and_true, Bool.false_and, Bool.and_false, px_id, px_pick, px_nilv, px_alloc, px_box, px_build, px_buildSlice, px_load_ptr, px_load_rop, px_store, px_nilCheck_ptr, px_nilCheck_rop, px_nilCheck_fn, px_bin, px_eq, px_eqBool, px_eqNil, px_un, px_convInt, px_strBytes, px_bytesStr, px_bytesBytes, px_strStr, px_makeFunc, px_makeSlice, px_sliceStr, px_slice_own, px_slice_ro, px_slice_nil, px_sliceArr, px_fieldAddr_ptr, px_fieldAddr_rop, px_field, px_indexAddr_own, px_indexAddr_ro, px_indexArr, px_indexStr, px_indexAgg, px_extract, px_append, px_copy, px_lenStr, px_lenSlice, px_lenArr, px_cap_own, px_cap_nil, px_min, px_max, lenOf_nil, lenOf_ro, lenOf_own, natOf_nat, vBin_xor_u32, vBin_and_u32, vUn_xor_u32, vBin_shr_u32, vBin_shr_u32_1, vBin_eql_u32, vBin_lss, vBin_leq, vBin_gtr, vBin_geq, vBin_eql, vBin_neq, fin_tmp, leave_v]
    simp

end Go.AM
