import Derived.Test.YtgblalimcndgnaaAMA
import Derived.Test.YtgblalimcndgnaaAMD
import Derived.Laws.Bits64
set_option linter.unusedVariables false
set_option linter.unusedSimpArgs false
/- Printed by wip/gen/Gen.lean: our texts of the functions. -/
namespace Go.AM

def f_law05_CrcAll_B : ICode :=
  (.seq
    (.ops [
      ⟨some 4, .id, [.c (.bool false)], none, [], [], false⟩])
    (.seq
      (.seq
        (.ops [
          ⟨some 5, .id, [.t 1], none, [], [], false⟩,
          ⟨some 6, .lenSlice, [.t 5], none, [], [], false⟩,
          ⟨some 7, .bin .gtr, [.t 6, .c (.int .i64 3000)], none, [], [], false⟩])
        (.cond (.t 7)
          (.seq
            (.ops [
              ⟨some 8, .call "haberdash/haberdashlaw05.awake" [], [], none, [], [], false⟩,
              ⟨some 4, .id, [.t 8], none, [], [], false⟩])
            .ret)
          .skip))
      (.seq
        (.ops [
          ⟨some 9, .call "haberdash/haberdashlaw05.awake" [], [], none, [], [], false⟩,
          ⟨some 10, .id, [.t 9], none, [], [], false⟩,
          ⟨some 11, .id, [.t 1], (some (10, true)), [], [], false⟩,
          ⟨some 12, .call "haberdash/crc.Sum" [], [.t 11], (some (10, true)), [], [], false⟩,
          ⟨some 13, .id, [.t 1], (some (10, true)), [], [], false⟩,
          ⟨some 14, .call "haberdash/haberdashref04.Sum" [], [.t 13], (some (10, true)), [], [], false⟩,
          ⟨some 15, .bin .eql, [.t 12, .t 14], (some (10, true)), [], [], false⟩,
          ⟨some 16, .pick, [.t 10, .t 15, .c (.bool false)], none, [], [], false⟩,
          ⟨some 17, .id, [.t 16], none, [], [], false⟩,
          ⟨some 18, .id, [.t 0], (some (17, true)), [], [], false⟩,
          ⟨some 19, .id, [.t 1], (some (17, true)), [], [], false⟩,
          ⟨some 20, .call "haberdash/crc.More" [], [.t 18, .t 19], (some (17, true)), [], [], false⟩,
          ⟨some 21, .id, [.t 0], (some (17, true)), [], [], false⟩,
          ⟨some 22, .id, [.t 1], (some (17, true)), [], [], false⟩,
          ⟨some 23, .call "haberdash/haberdashref04.More" [], [.t 21, .t 22], (some (17, true)), [], [], false⟩,
          ⟨some 24, .bin .eql, [.t 20, .t 23], (some (17, true)), [], [], false⟩,
          ⟨some 25, .pick, [.t 17, .t 24, .c (.bool false)], none, [], [], false⟩,
          ⟨some 4, .id, [.t 25], none, [], [], false⟩])
        .ret)))
def f_law05_CrcAll : IFn := ⟨26, 0, [.tmp 4], f_law05_CrcAll_B⟩
def f_law05_CrcPieces_L0 : ICode :=
  (.seq
    (.seq
      (.ops [
        ⟨some 19, .id, [.t 7], none, [], [], false⟩,
        ⟨some 20, .id, [.t 1], none, [], [], false⟩,
        ⟨some 21, .lenSlice, [.t 20], none, [], [], false⟩,
        ⟨some 22, .bin .lss, [.t 19, .t 21], none, [], [], false⟩])
      (.cond (.t 22)
        .skip
        (.exit 0)))
    (.seq
      (.block 1
        (.seq
          (.ops [
            ⟨some 25, .id, [.t 6], none, [], [], false⟩,
            ⟨some 26, .id, [.t 1], none, [], [], false⟩,
            ⟨some 27, .id, [.t 7], none, [], [], false⟩,
            ⟨some 28, .indexAddr 1, [.t 26, .t 27], none, [], [], false⟩,
            ⟨some 29, .load 1 false, [.t 28], none, [], [], false⟩,
            ⟨some 30, .convInt .u64, [.t 29], none, [], [], false⟩,
            ⟨some 31, .id, [.t 0], none, [], [], false⟩,
            ⟨some 32, .lenSlice, [.t 31], none, [], [], false⟩,
            ⟨some 33, .id, [.t 6], none, [], [], false⟩,
            ⟨some 34, .bin .sub, [.t 32, .t 33], none, [], [], false⟩,
            ⟨some 35, .bin .add, [.t 34, .c (.int .i64 1)], none, [], [], false⟩,
            ⟨some 36, .convInt .u64, [.t 35], none, [], [], false⟩,
            ⟨some 37, .bin .rem, [.t 30, .t 36], none, [], [], false⟩,
            ⟨some 38, .convInt .i64, [.t 37], none, [], [], false⟩,
            ⟨some 39, .bin .add, [.t 25, .t 38], none, [], [], false⟩,
            ⟨some 8, .id, [.t 39], none, [], [], false⟩])
          (.ops [
            ⟨some 40, .id, [.t 5], none, [], [], false⟩,
            ⟨some 41, .id, [.t 0], none, [], [], false⟩,
            ⟨some 42, .id, [.t 6], none, [], [], false⟩,
            ⟨some 43, .id, [.t 8], none, [], [], false⟩,
            ⟨some 44, .slice 1 true true false, [.t 41, .t 42, .t 43], none, [], [], false⟩,
            ⟨some 45, .call "haberdash/crc.More" [], [.t 40, .t 44], none, [], [], false⟩,
            ⟨some 46, .id, [.t 8], none, [], [], false⟩,
            ⟨some 5, .id, [.t 45], none, [], [], false⟩,
            ⟨some 6, .id, [.t 46], none, [], [], false⟩])))
      (.ops [
        ⟨some 23, .id, [.t 7], none, [], [], false⟩,
        ⟨some 24, .bin .add, [.t 23, .c (.int .i64 1)], none, [], [], false⟩,
        ⟨some 7, .id, [.t 24], none, [], [], false⟩])))
def f_law05_CrcPieces_H0 (t0 t1 t5 t6 t7 : AV) : List AV := [t0, t1, .dead, .dead, .dead, t5, t6, t7, .dead, .dead, .dead, .dead, .dead, .dead, .dead, .dead, .dead, .dead, .dead, .dead, .dead, .dead, .dead, .dead, .dead, .dead, .dead, .dead, .dead, .dead, .dead, .dead, .dead, .dead, .dead, .dead, .dead, .dead, .dead, .dead, .dead, .dead, .dead, .dead, .dead, .dead, .dead, .dead, .dead, .dead, .dead, .dead, .dead, .dead, .dead, .dead, .dead, .dead]
def f_law05_CrcPieces_B : ICode :=
  (.seq
    (.ops [
      ⟨some 4, .id, [.c (.bool false)], none, [], [], false⟩])
    (.seq
      (.seq
        (.ops [
          ⟨some 9, .id, [.t 0], none, [], [], false⟩,
          ⟨some 10, .lenSlice, [.t 9], none, [], [], false⟩,
          ⟨some 11, .bin .gtr, [.t 10, .c (.int .i64 2000)], none, [], [], false⟩,
          ⟨some 12, .id, [.t 11], none, [], [], false⟩,
          ⟨some 13, .id, [.t 1], (some (12, false)), [], [], false⟩,
          ⟨some 14, .lenSlice, [.t 13], (some (12, false)), [], [], false⟩,
          ⟨some 15, .bin .gtr, [.t 14, .c (.int .i64 40)], (some (12, false)), [], [], false⟩,
          ⟨some 16, .pick, [.t 12, .c (.bool true), .t 15], none, [], [], false⟩])
        (.cond (.t 16)
          (.seq
            (.ops [
              ⟨some 17, .call "haberdash/haberdashlaw05.awake" [], [], none, [], [], false⟩,
              ⟨some 4, .id, [.t 17], none, [], [], false⟩])
            .ret)
          .skip))
      (.seq
        (.ops [
          ⟨some 18, .call "haberdash/crc.Sum" [], [.c (.slice none 0 0)], none, [], [], false⟩,
          ⟨some 5, .id, [.t 18], none, [], [], false⟩,
          ⟨some 6, .id, [.c (.int .i64 0)], none, [], [], false⟩])
        (.seq
          (.seq
            (.ops [
              ⟨some 7, .id, [.c (.int .i64 0)], none, [], [], false⟩])
            (.block 0
              (.loop [2, 3, 4, 8, 9, 10, 11, 12, 13, 14, 15, 16, 17, 18, 19, 20, 21, 22, 23, 24, 25, 26, 27, 28, 29, 30, 31, 32, 33, 34, 35, 36, 37, 38, 39, 40, 41, 42, 43, 44, 45, 46, 47, 48, 49, 50, 51, 52, 53, 54, 55, 56, 57] [] f_law05_CrcPieces_L0)))
          (.seq
            (.ops [
              ⟨some 47, .call "haberdash/haberdashlaw05.awake" [], [], none, [], [], false⟩,
              ⟨some 48, .id, [.t 47], none, [], [], false⟩,
              ⟨some 49, .id, [.t 5], (some (48, true)), [], [], false⟩,
              ⟨some 50, .id, [.t 0], (some (48, true)), [], [], false⟩,
              ⟨some 51, .id, [.t 6], (some (48, true)), [], [], false⟩,
              ⟨some 52, .slice 1 true false false, [.t 50, .t 51], (some (48, true)), [], [], false⟩,
              ⟨some 53, .call "haberdash/crc.More" [], [.t 49, .t 52], (some (48, true)), [], [], false⟩,
              ⟨some 54, .id, [.t 0], (some (48, true)), [], [], false⟩,
              ⟨some 55, .call "haberdash/crc.Sum" [], [.t 54], (some (48, true)), [], [], false⟩,
              ⟨some 56, .bin .eql, [.t 53, .t 55], (some (48, true)), [], [], false⟩,
              ⟨some 57, .pick, [.t 48, .t 56, .c (.bool false)], none, [], [], false⟩,
              ⟨some 4, .id, [.t 57], none, [], [], false⟩])
            .ret)))))
def f_law05_CrcPieces : IFn := ⟨58, 0, [.tmp 4], f_law05_CrcPieces_B⟩
def f_law05_CrcTurned_L0 : ICode :=
  (.seq
    (.seq
      (.ops [
        ⟨some 29, .id, [.t 8], none, [], [], false⟩,
        ⟨some 30, .bin .lss, [.t 29, .c (.int .i64 32)], none, [], [], false⟩])
      (.cond (.t 30)
        .skip
        (.exit 0)))
    (.seq
      (.block 1
        (.seq
          (.ops [
            ⟨some 33, .id, [.t 2], none, [], [], false⟩,
            ⟨some 34, .id, [.t 8], none, [], [], false⟩,
            ⟨some 35, .convInt .u64, [.t 34], none, [], [], false⟩,
            ⟨some 36, .bin .shr, [.t 33, .t 35], none, [], [], false⟩,
            ⟨some 37, .bin .and, [.t 36, .c (.int .u32 1)], none, [], [], false⟩,
            ⟨some 38, .bin .eql, [.t 37, .c (.int .u32 1)], none, [], [], false⟩])
          (.cond (.t 38)
            (.ops [
              ⟨some 39, .id, [.t 7], none, [], [], false⟩,
              ⟨some 40, .id, [.t 1], none, [], [], false⟩,
              ⟨some 41, .id, [.t 8], none, [], [], false⟩,
              ⟨some 42, .bin .add, [.t 40, .t 41], none, [], [], false⟩,
              ⟨some 43, .bin .quo, [.t 42, .c (.int .i64 8)], none, [], [], false⟩,
              ⟨some 44, .indexAddr 1, [.t 39, .t 43], none, [], [], false⟩,
              ⟨some 45, .load 1 false, [.t 44], none, [], [], false⟩,
              ⟨some 46, .id, [.t 1], none, [], [], false⟩,
              ⟨some 47, .id, [.t 8], none, [], [], false⟩,
              ⟨some 48, .bin .add, [.t 46, .t 47], none, [], [], false⟩,
              ⟨some 49, .bin .rem, [.t 48, .c (.int .i64 8)], none, [], [], false⟩,
              ⟨some 50, .convInt .u64, [.t 49], none, [], [], false⟩,
              ⟨some 51, .bin .shl, [.c (.int .u8 1), .t 50], none, [], [], false⟩,
              ⟨some 52, .bin .xor, [.t 45, .t 51], none, [], [], false⟩,
              ⟨some 53, .indexAddr 1, [.t 39, .t 43], none, [], [], false⟩,
              ⟨none, .store 1 false, [.t 53, .t 52], none, [], [], false⟩])
            .skip)))
      (.ops [
        ⟨some 31, .id, [.t 8], none, [], [], false⟩,
        ⟨some 32, .bin .add, [.t 31, .c (.int .i64 1)], none, [], [], false⟩,
        ⟨some 8, .id, [.t 32], none, [], [], false⟩])))
def f_law05_CrcTurned_H0 (t0 t1 t2 t7 t8 : AV) : List AV := [t0, t1, t2, .dead, .dead, .dead, .dead, t7, t8, .dead, .dead, .dead, .dead, .dead, .dead, .dead, .dead, .dead, .dead, .dead, .dead, .dead, .dead, .dead, .dead, .dead, .dead, .dead, .dead, .dead, .dead, .dead, .dead, .dead, .dead, .dead, .dead, .dead, .dead, .dead, .dead, .dead, .dead, .dead, .dead, .dead, .dead, .dead, .dead, .dead, .dead, .dead, .dead, .dead, .dead, .dead, .dead, .dead, .dead, .dead, .dead, .dead, .dead, .dead, .dead]
def f_law05_CrcTurned_B : ICode :=
  (.seq
    (.ops [
      ⟨some 6, .id, [.c (.bool false)], none, [], [], false⟩])
    (.seq
      (.seq
        (.ops [
          ⟨some 9, .id, [.t 0], none, [], [], false⟩,
          ⟨some 10, .lenSlice, [.t 9], none, [], [], false⟩,
          ⟨some 11, .bin .lss, [.t 10, .c (.int .i64 5)], none, [], [], false⟩,
          ⟨some 12, .id, [.t 11], none, [], [], false⟩,
          ⟨some 13, .id, [.t 0], (some (12, false)), [], [], false⟩,
          ⟨some 14, .lenSlice, [.t 13], (some (12, false)), [], [], false⟩,
          ⟨some 15, .bin .gtr, [.t 14, .c (.int .i64 1000)], (some (12, false)), [], [], false⟩,
          ⟨some 16, .pick, [.t 12, .c (.bool true), .t 15], none, [], [], false⟩])
        (.cond (.t 16)
          (.seq
            (.ops [
              ⟨some 17, .call "haberdash/haberdashlaw05.awake" [], [], none, [], [], false⟩,
              ⟨some 6, .id, [.t 17], none, [], [], false⟩])
            .ret)
          .skip))
      (.seq
        (.ops [
          ⟨some 18, .id, [.t 1], none, [], [], false⟩,
          ⟨some 19, .convInt .u64, [.t 18], none, [], [], false⟩,
          ⟨some 20, .id, [.t 0], none, [], [], false⟩,
          ⟨some 21, .lenSlice, [.t 20], none, [], [], false⟩,
          ⟨some 22, .bin .mul, [.c (.int .i64 8), .t 21], none, [], [], false⟩,
          ⟨some 23, .bin .sub, [.t 22, .c (.int .i64 31)], none, [], [], false⟩,
          ⟨some 24, .convInt .u64, [.t 23], none, [], [], false⟩,
          ⟨some 25, .bin .rem, [.t 19, .t 24], none, [], [], false⟩,
          ⟨some 26, .convInt .i64, [.t 25], none, [], [], false⟩,
          ⟨some 1, .id, [.t 26], none, [], [], false⟩])
        (.seq
          (.ops [
            ⟨some 27, .id, [.t 0], none, [], [], false⟩,
            ⟨some 28, .append 0 false 1 1, [.c (.slice none 0 0), .t 27], none, [], [], false⟩,
            ⟨some 7, .id, [.t 28], none, [], [], false⟩])
          (.seq
            (.seq
              (.ops [
                ⟨some 8, .id, [.c (.int .i64 0)], none, [], [], false⟩])
              (.block 0
                (.loop [3, 4, 5, 6, 9, 10, 11, 12, 13, 14, 15, 16, 17, 18, 19, 20, 21, 22, 23, 24, 25, 26, 27, 28, 29, 30, 31, 32, 33, 34, 35, 36, 37, 38, 39, 40, 41, 42, 43, 44, 45, 46, 47, 48, 49, 50, 51, 52, 53, 54, 55, 56, 57, 58, 59, 60, 61, 62, 63, 64] [] f_law05_CrcTurned_L0)))
            (.seq
              (.ops [
                ⟨some 54, .call "haberdash/haberdashlaw05.awake" [], [], none, [], [], false⟩,
                ⟨some 55, .id, [.t 54], none, [], [], false⟩,
                ⟨some 56, .id, [.t 0], (some (55, true)), [], [], false⟩,
                ⟨some 57, .call "haberdash/crc.Sum" [], [.t 56], (some (55, true)), [], [], false⟩,
                ⟨some 58, .id, [.t 7], (some (55, true)), [], [], false⟩,
                ⟨some 59, .call "haberdash/crc.Sum" [], [.t 58], (some (55, true)), [], [], false⟩,
                ⟨some 60, .bin .eql, [.t 57, .t 59], (some (55, true)), [], [], false⟩,
                ⟨some 61, .id, [.t 2], (some (55, true)), [], [], false⟩,
                ⟨some 62, .bin .eql, [.t 61, .c (.int .u32 0)], (some (55, true)), [], [], false⟩,
                ⟨some 63, .eqBool false, [.t 60, .t 62], (some (55, true)), [], [], false⟩,
                ⟨some 64, .pick, [.t 55, .t 63, .c (.bool false)], none, [], [], false⟩,
                ⟨some 6, .id, [.t 64], none, [], [], false⟩])
              .ret))))))
def f_law05_CrcTurned : IFn := ⟨65, 1, [.tmp 6], f_law05_CrcTurned_B⟩
def f_law05_CrcThree_L0 : ICode :=
  (.seq
    (.seq
      (.ops [
        ⟨some 19, .id, [.t 9], none, [], [], false⟩,
        ⟨some 20, .id, [.t 7], none, [], [], false⟩,
        ⟨some 21, .bin .lss, [.t 19, .t 20], none, [], [], false⟩])
      (.cond (.t 21)
        .skip
        (.exit 0)))
    (.seq
      (.block 1
        (.draw [
          ⟨some 24, .id, [.t 8], none, [], [], false⟩,
          ⟨some 25, .id, [.t 9], none, [], [], false⟩,
          ⟨some 26, .id, [.t 0], none, [], [], false⟩,
          ⟨some 27, .id, [.t 9], none, [], [], false⟩,
          ⟨some 28, .indexAddr 1, [.t 26, .t 27], none, [], [], false⟩,
          ⟨some 29, .load 1 false, [.t 28], none, [], [], false⟩,
          ⟨some 30, .id, [.t 1], none, [], [], false⟩,
          ⟨some 31, .id, [.t 9], none, [], [], false⟩,
          ⟨some 32, .indexAddr 1, [.t 30, .t 31], none, [], [], false⟩,
          ⟨some 33, .load 1 false, [.t 32], none, [], [], false⟩,
          ⟨some 34, .bin .xor, [.t 29, .t 33], none, [], [], false⟩,
          ⟨some 35, .id, [.t 2], none, [], [], false⟩,
          ⟨some 36, .id, [.t 9], none, [], [], false⟩,
          ⟨some 37, .indexAddr 1, [.t 35, .t 36], none, [], [], false⟩,
          ⟨some 38, .load 1 false, [.t 37], none, [], [], false⟩,
          ⟨some 39, .bin .xor, [.t 34, .t 38], none, [], [], false⟩,
          ⟨some 40, .indexAddr 1, [.t 24, .t 25], none, [], [], false⟩,
          ⟨none, .store 1 false, [.t 40, .t 39], none, [], [0], false⟩]))
      (.ops [
        ⟨some 22, .id, [.t 9], none, [], [], false⟩,
        ⟨some 23, .bin .add, [.t 22, .c (.int .i64 1)], none, [], [], false⟩,
        ⟨some 9, .id, [.t 23], none, [], [], false⟩])))
def f_law05_CrcThree_H0 (t0 t1 t2 t7 t8 t9 : AV) : List AV := [t0, t1, t2, .dead, .dead, .dead, .dead, t7, t8, t9, .dead, .dead, .dead, .dead, .dead, .dead, .dead, .dead, .dead, .dead, .dead, .dead, .dead, .dead, .dead, .dead, .dead, .dead, .dead, .dead, .dead, .dead, .dead, .dead, .dead, .dead, .dead, .dead, .dead, .dead, .dead, .dead, .dead, .dead, .dead, .dead, .dead, .dead, .dead, .dead, .dead, .dead, .dead, .dead, .dead, .dead, .dead, .dead, .dead, .dead, .dead]
def f_law05_CrcThree_B : ICode :=
  (.seq
    (.ops [
      ⟨some 6, .id, [.c (.bool false)], none, [], [], false⟩])
    (.seq
      (.ops [
        ⟨some 10, .id, [.t 0], none, [], [], false⟩,
        ⟨some 11, .lenSlice, [.t 10], none, [], [], false⟩,
        ⟨some 12, .id, [.t 1], none, [], [], false⟩,
        ⟨some 13, .lenSlice, [.t 12], none, [], [], false⟩,
        ⟨some 14, .id, [.t 2], none, [], [], false⟩,
        ⟨some 15, .lenSlice, [.t 14], none, [], [], false⟩,
        ⟨some 16, .min, [.t 11, .t 13, .t 15, .c (.int .i64 500)], none, [], [], false⟩,
        ⟨some 7, .id, [.t 16], none, [], [], false⟩])
      (.seq
        (.ops [
          ⟨some 17, .id, [.t 7], none, [], [], false⟩,
          ⟨some 18, .makeSlice 0 1 1 [(.int .u8 0)], [.t 17, .t 17], none, [], [], false⟩,
          ⟨some 8, .id, [.t 18], none, [], [], false⟩])
        (.seq
          (.seq
            (.ops [
              ⟨some 9, .id, [.c (.int .i64 0)], none, [], [], false⟩])
            (.block 0
              (.loop [3, 4, 5, 6, 10, 11, 12, 13, 14, 15, 16, 17, 18, 19, 20, 21, 22, 23, 24, 25, 26, 27, 28, 29, 30, 31, 32, 33, 34, 35, 36, 37, 38, 39, 40, 41, 42, 43, 44, 45, 46, 47, 48, 49, 50, 51, 52, 53, 54, 55, 56, 57, 58, 59, 60] [] f_law05_CrcThree_L0)))
          (.seq
            (.draw [
              ⟨some 41, .call "haberdash/haberdashlaw05.awake" [], [], none, [], [], false⟩,
              ⟨some 42, .id, [.t 41], none, [], [], false⟩,
              ⟨some 43, .id, [.t 8], (some (42, true)), [], [], false⟩,
              ⟨some 44, .call "haberdash/crc.Sum" [], [.t 43], (some (42, true)), [], [], false⟩,
              ⟨some 45, .id, [.t 0], (some (42, true)), [], [], false⟩,
              ⟨some 46, .id, [.t 7], (some (42, true)), [], [], false⟩,
              ⟨some 47, .slice 1 false true false, [.t 45, .t 46], (some (42, true)), [], [], false⟩,
              ⟨some 48, .call "haberdash/crc.Sum" [], [.t 47], (some (42, true)), [], [], false⟩,
              ⟨some 49, .id, [.t 1], (some (42, true)), [], [], false⟩,
              ⟨some 50, .id, [.t 7], (some (42, true)), [], [], false⟩,
              ⟨some 51, .slice 1 false true false, [.t 49, .t 50], (some (42, true)), [], [], false⟩,
              ⟨some 52, .call "haberdash/crc.Sum" [], [.t 51], (some (42, true)), [], [], false⟩,
              ⟨some 53, .bin .xor, [.t 48, .t 52], (some (42, true)), [], [], false⟩,
              ⟨some 54, .id, [.t 2], (some (42, true)), [], [], false⟩,
              ⟨some 55, .id, [.t 7], (some (42, true)), [], [], false⟩,
              ⟨some 56, .slice 1 false true false, [.t 54, .t 55], (some (42, true)), [], [], false⟩,
              ⟨some 57, .call "haberdash/crc.Sum" [], [.t 56], (some (42, true)), [], [], false⟩,
              ⟨some 58, .bin .xor, [.t 53, .t 57], (some (42, true)), [], [], false⟩,
              ⟨some 59, .bin .eql, [.t 44, .t 58], (some (42, true)), [], [], false⟩,
              ⟨some 60, .pick, [.t 42, .t 59, .c (.bool false)], none, [], [], false⟩,
              ⟨some 6, .id, [.t 60], none, [], [], false⟩])
            .ret)))))
def f_law05_CrcThree : IFn := ⟨61, 1, [.tmp 6], f_law05_CrcThree_B⟩
def f_law05_CrcEnds_B : ICode :=
  (.seq
    (.ops [
      ⟨some 2, .id, [.c (.bool false)], none, [], [], false⟩])
    (.seq
      (.seq
        (.ops [
          ⟨some 5, .id, [.t 0], none, [], [], false⟩,
          ⟨some 6, .lenSlice, [.t 5], none, [], [], false⟩,
          ⟨some 7, .bin .gtr, [.t 6, .c (.int .i64 1000)], none, [], [], false⟩])
        (.cond (.t 7)
          (.seq
            (.ops [
              ⟨some 8, .call "haberdash/haberdashlaw05.awake" [], [], none, [], [], false⟩,
              ⟨some 2, .id, [.t 8], none, [], [], false⟩])
            .ret)
          .skip))
      (.seq
        (.ops [
          ⟨some 9, .id, [.t 0], none, [], [], false⟩,
          ⟨some 10, .call "haberdash/crc.Sum" [], [.t 9], none, [], [], false⟩,
          ⟨some 3, .id, [.t 10], none, [], [], false⟩])
        (.seq
          (.ops [
            ⟨some 11, .id, [.t 0], none, [], [], false⟩,
            ⟨some 12, .append 0 false 1 1, [.c (.slice none 0 0), .t 11], none, [], [], false⟩,
            ⟨some 13, .id, [.t 3], none, [], [], false⟩,
            ⟨some 14, .convInt .u8, [.t 13], none, [], [], false⟩,
            ⟨some 15, .id, [.t 3], none, [], [], false⟩,
            ⟨some 16, .bin .shr, [.t 15, .c (.int .u64 8)], none, [], [], false⟩,
            ⟨some 17, .convInt .u8, [.t 16], none, [], [], false⟩,
            ⟨some 18, .id, [.t 3], none, [], [], false⟩,
            ⟨some 19, .bin .shr, [.t 18, .c (.int .u64 16)], none, [], [], false⟩,
            ⟨some 20, .convInt .u8, [.t 19], none, [], [], false⟩,
            ⟨some 21, .id, [.t 3], none, [], [], false⟩,
            ⟨some 22, .bin .shr, [.t 21, .c (.int .u64 24)], none, [], [], false⟩,
            ⟨some 23, .convInt .u8, [.t 22], none, [], [], false⟩,
            ⟨some 24, .buildSlice 1 false 1 4 [(.int .u8 0)] [(0, 1), (1, 1), (2, 1), (3, 1)], [.t 14, .t 17, .t 20, .t 23], none, [], [], false⟩,
            ⟨some 25, .append 2 false 1 1, [.t 12, .t 24], none, [], [], false⟩,
            ⟨some 4, .id, [.t 25], none, [], [], false⟩])
          (.seq
            (.ops [
              ⟨some 26, .call "haberdash/haberdashlaw05.awake" [], [], none, [], [], false⟩,
              ⟨some 27, .id, [.t 26], none, [], [], false⟩,
              ⟨some 28, .id, [.t 4], (some (27, true)), [], [], false⟩,
              ⟨some 29, .call "haberdash/crc.Sum" [], [.t 28], (some (27, true)), [], [], false⟩,
              ⟨some 30, .buildSlice 3 false 1 4 [(.int .u8 0)] [(0, 1), (1, 1), (2, 1), (3, 1)], [.c (.int .u8 0), .c (.int .u8 0), .c (.int .u8 0), .c (.int .u8 0)], (some (27, true)), [], [], false⟩,
              ⟨some 31, .call "haberdash/crc.Sum" [], [.t 30], (some (27, true)), [], [], false⟩,
              ⟨some 32, .bin .eql, [.t 29, .t 31], (some (27, true)), [], [], false⟩,
              ⟨some 33, .pick, [.t 27, .t 32, .c (.bool false)], none, [], [], false⟩,
              ⟨some 34, .id, [.t 33], none, [], [], false⟩,
              ⟨some 35, .call "haberdash/crc.Sum" [], [.c (.slice none 0 0)], (some (34, true)), [], [], false⟩,
              ⟨some 36, .bin .eql, [.t 35, .c (.int .u32 0)], (some (34, true)), [], [], false⟩,
              ⟨some 37, .pick, [.t 34, .t 36, .c (.bool false)], none, [], [], false⟩,
              ⟨some 2, .id, [.t 37], none, [], [], false⟩])
            .ret)))))
def f_law05_CrcEnds : IFn := ⟨38, 4, [.tmp 2], f_law05_CrcEnds_B⟩
def f_law05_awake_B : ICode :=
  (.seq
    (.ops [
      ⟨some 0, .id, [.c (.bool false)], none, [], [], false⟩])
    (.seq
      (.ops [
        ⟨some 1, .buildSlice 0 false 1 9 [(.int .u8 0)] [(0, 1), (1, 1), (2, 1), (3, 1), (4, 1), (5, 1), (6, 1), (7, 1), (8, 1)], [.c (.int .u8 49), .c (.int .u8 50), .c (.int .u8 51), .c (.int .u8 52), .c (.int .u8 53), .c (.int .u8 54), .c (.int .u8 55), .c (.int .u8 56), .c (.int .u8 57)], none, [], [], false⟩,
        ⟨some 2, .bytesBytes, [.t 1], none, [], [], false⟩,
        ⟨some 3, .call "haberdash/crc.Sum" [], [.t 2], none, [], [], false⟩,
        ⟨some 4, .bin .eql, [.t 3, .c (.int .u32 3421780262)], none, [], [], false⟩,
        ⟨some 0, .id, [.t 4], none, [], [], false⟩])
      .ret))
def f_law05_awake : IFn := ⟨5, 1, [.tmp 0], f_law05_awake_B⟩
def f_crc_Sum_B : ICode :=
  (.seq
    (.ops [
      ⟨some 2, .id, [.c (.int .u32 0)], none, [], [], false⟩])
    (.seq
      (.ops [
        ⟨some 3, .id, [.t 0], none, [], [], false⟩,
        ⟨some 4, .call "haberdash/crc.More" [], [.c (.int .u32 0), .t 3], none, [], [], false⟩,
        ⟨some 2, .id, [.t 4], none, [], [], false⟩])
      .ret))
def f_crc_Sum : IFn := ⟨5, 0, [.tmp 2], f_crc_Sum_B⟩
def f_ref04_Sum_B : ICode :=
  (.seq
    (.ops [
      ⟨some 2, .id, [.c (.int .u32 0)], none, [], [], false⟩])
    (.seq
      (.ops [
        ⟨some 3, .id, [.t 0], none, [], [], false⟩,
        ⟨some 4, .call "haberdash/haberdashref04.More" [], [.c (.int .u32 0), .t 3], none, [], [], false⟩,
        ⟨some 2, .id, [.t 4], none, [], [], false⟩])
      .ret))
def f_ref04_Sum : IFn := ⟨5, 0, [.tmp 2], f_ref04_Sum_B⟩
def f_crc_More_L0 : ICode :=
  (.seq
    (.ops [
      ⟨some 22, .bin .lss, [.t 21, .c (.int .i64 8)], none, [], [], false⟩])
    (.seq
      (.cond (.t 22)
        .skip
        (.exit 2))
      (.seq
        (.block 3
          (.seq
            (.ops [
              ⟨some 23, .id, [.t 5], none, [], [], false⟩,
              ⟨some 24, .bin .and, [.t 23, .c (.int .u32 1)], none, [], [], false⟩,
              ⟨some 8, .id, [.t 24], none, [], [], false⟩])
            (.seq
              (.ops [
                ⟨some 25, .id, [.t 5], none, [], [], false⟩,
                ⟨some 26, .bin .shr, [.t 25, .c (.int .u64 1)], none, [], [], false⟩,
                ⟨some 5, .id, [.t 26], none, [], [], false⟩])
              (.seq
                (.ops [
                  ⟨some 27, .id, [.t 8], none, [], [], false⟩,
                  ⟨some 28, .bin .eql, [.t 27, .c (.int .u32 1)], none, [], [], false⟩])
                (.cond (.t 28)
                  (.ops [
                    ⟨some 29, .id, [.t 5], none, [], [], false⟩,
                    ⟨some 30, .bin .xor, [.t 29, .c (.int .u32 3988292384)], none, [], [], false⟩,
                    ⟨some 5, .id, [.t 30], none, [], [], false⟩])
                  .skip)))))
        (.ops [
          ⟨some 31, .bin .add, [.t 21, .c (.int .i64 1)], none, [], [], false⟩,
          ⟨some 21, .id, [.t 31], none, [], [], false⟩]))))
def f_crc_More_H0 (t5 t11 t12 t13 t21 : AV) : List AV := [.dead, .dead, .dead, .dead, .dead, t5, .dead, .dead, .dead, .dead, .dead, t11, t12, t13, .dead, .dead, .dead, .dead, .dead, .dead, .dead, t21, .dead, .dead, .dead, .dead, .dead, .dead, .dead, .dead, .dead, .dead, .dead, .dead, .dead]
def f_crc_More_L1 : ICode :=
  (.seq
    (.ops [
      ⟨some 14, .bin .lss, [.t 13, .t 12], none, [], [], false⟩])
    (.seq
      (.cond (.t 14)
        .skip
        (.exit 0))
      (.seq
        (.block 1
          (.seq
            (.ops [
              ⟨some 15, .indexAddr 1, [.t 11, .t 13], none, [], [], false⟩,
              ⟨some 16, .load 1 false, [.t 15], none, [], [], false⟩,
              ⟨some 7, .id, [.t 16], none, [], [], false⟩])
            (.seq
              (.ops [
                ⟨some 17, .id, [.t 5], none, [], [], false⟩,
                ⟨some 18, .id, [.t 7], none, [], [], false⟩,
                ⟨some 19, .convInt .u32, [.t 18], none, [], [], false⟩,
                ⟨some 20, .bin .xor, [.t 17, .t 19], none, [], [], false⟩,
                ⟨some 5, .id, [.t 20], none, [], [], false⟩])
              (.seq
                (.ops [
                  ⟨some 21, .id, [.c (.int .i64 0)], none, [], [], false⟩])
                (.block 2
                  (.loop [0, 1, 2, 3, 4, 6, 7, 8, 9, 10, 14, 15, 16, 17, 18, 19, 20, 22, 23, 24, 25, 26, 27, 28, 29, 30, 31, 32, 33, 34] [] f_crc_More_L0))))))
        (.ops [
          ⟨some 32, .bin .add, [.t 13, .c (.int .i64 1)], none, [], [], false⟩,
          ⟨some 13, .id, [.t 32], none, [], [], false⟩]))))
def f_crc_More_H1 (t5 t11 t12 t13 : AV) : List AV := [.dead, .dead, .dead, .dead, .dead, t5, .dead, .dead, .dead, .dead, .dead, t11, t12, t13, .dead, .dead, .dead, .dead, .dead, .dead, .dead, .dead, .dead, .dead, .dead, .dead, .dead, .dead, .dead, .dead, .dead, .dead, .dead, .dead, .dead]
def f_crc_More_B : ICode :=
  (.seq
    (.ops [
      ⟨some 4, .id, [.c (.int .u32 0)], none, [], [], false⟩])
    (.seq
      (.ops [
        ⟨some 9, .id, [.t 0], none, [], [], false⟩,
        ⟨some 10, .un .xor, [.t 9], none, [], [], false⟩,
        ⟨some 5, .id, [.t 10], none, [], [], false⟩])
      (.seq
        (.seq
          (.ops [
            ⟨some 11, .id, [.t 1], none, [], [], false⟩,
            ⟨some 12, .lenSlice, [.t 11], none, [], [], false⟩,
            ⟨some 13, .id, [.c (.int .i64 0)], none, [], [], false⟩])
          (.block 0
            (.loop [0, 1, 2, 3, 4, 6, 7, 8, 9, 10, 14, 15, 16, 17, 18, 19, 20, 21, 22, 23, 24, 25, 26, 27, 28, 29, 30, 31, 32, 33, 34] [] f_crc_More_L1)))
        (.seq
          (.ops [
            ⟨some 33, .id, [.t 5], none, [], [], false⟩,
            ⟨some 34, .un .xor, [.t 33], none, [], [], false⟩,
            ⟨some 4, .id, [.t 34], none, [], [], false⟩])
          .ret))))
def f_crc_More : IFn := ⟨35, 0, [.tmp 4], f_crc_More_B⟩
def f_ref04_More_L0 : ICode :=
  (.seq
    (.seq
      (.ops [
        ⟨some 17, .id, [.t 7], none, [], [], false⟩,
        ⟨some 18, .bin .lss, [.t 17, .c (.int .i64 8)], none, [], [], false⟩])
      (.cond (.t 18)
        .skip
        (.exit 2)))
    (.seq
      (.block 3
        (.seq
          (.ops [
            ⟨some 21, .id, [.t 5], none, [], [], false⟩,
            ⟨some 22, .bin .and, [.t 21, .c (.int .u32 1)], none, [], [], false⟩,
            ⟨some 23, .id, [.t 1], none, [], [], false⟩,
            ⟨some 24, .id, [.t 6], none, [], [], false⟩,
            ⟨some 25, .indexAddr 1, [.t 23, .t 24], none, [], [], false⟩,
            ⟨some 26, .load 1 false, [.t 25], none, [], [], false⟩,
            ⟨some 27, .id, [.t 7], none, [], [], false⟩,
            ⟨some 28, .convInt .u64, [.t 27], none, [], [], false⟩,
            ⟨some 29, .bin .shr, [.t 26, .t 28], none, [], [], false⟩,
            ⟨some 30, .convInt .u32, [.t 29], none, [], [], false⟩,
            ⟨some 31, .bin .and, [.t 30, .c (.int .u32 1)], none, [], [], false⟩,
            ⟨some 32, .bin .xor, [.t 22, .t 31], none, [], [], false⟩,
            ⟨some 8, .id, [.t 32], none, [], [], false⟩])
          (.seq
            (.ops [
              ⟨some 33, .id, [.t 5], none, [], [], false⟩,
              ⟨some 34, .bin .shr, [.t 33, .c (.int .u64 1)], none, [], [], false⟩,
              ⟨some 5, .id, [.t 34], none, [], [], false⟩])
            (.seq
              (.ops [
                ⟨some 35, .id, [.t 8], none, [], [], false⟩,
                ⟨some 36, .bin .eql, [.t 35, .c (.int .u32 1)], none, [], [], false⟩])
              (.cond (.t 36)
                (.ops [
                  ⟨some 37, .id, [.t 5], none, [], [], false⟩,
                  ⟨some 38, .bin .xor, [.t 37, .c (.int .u32 3988292384)], none, [], [], false⟩,
                  ⟨some 5, .id, [.t 38], none, [], [], false⟩])
                .skip)))))
      (.ops [
        ⟨some 19, .id, [.t 7], none, [], [], false⟩,
        ⟨some 20, .bin .add, [.t 19, .c (.int .i64 1)], none, [], [], false⟩,
        ⟨some 7, .id, [.t 20], none, [], [], false⟩])))
def f_ref04_More_H0 (t1 t5 t6 t7 : AV) : List AV := [.dead, t1, .dead, .dead, .dead, t5, t6, t7, .dead, .dead, .dead, .dead, .dead, .dead, .dead, .dead, .dead, .dead, .dead, .dead, .dead, .dead, .dead, .dead, .dead, .dead, .dead, .dead, .dead, .dead, .dead, .dead, .dead, .dead, .dead, .dead, .dead, .dead, .dead, .dead, .dead]
def f_ref04_More_L1 : ICode :=
  (.seq
    (.seq
      (.ops [
        ⟨some 11, .id, [.t 6], none, [], [], false⟩,
        ⟨some 12, .id, [.t 1], none, [], [], false⟩,
        ⟨some 13, .lenSlice, [.t 12], none, [], [], false⟩,
        ⟨some 14, .bin .lss, [.t 11, .t 13], none, [], [], false⟩])
      (.cond (.t 14)
        .skip
        (.exit 0)))
    (.seq
      (.block 1
        (.seq
          (.ops [
            ⟨some 7, .id, [.c (.int .i64 0)], none, [], [], false⟩])
          (.block 2
            (.loop [0, 2, 3, 4, 8, 9, 10, 11, 12, 13, 14, 15, 16, 17, 18, 19, 20, 21, 22, 23, 24, 25, 26, 27, 28, 29, 30, 31, 32, 33, 34, 35, 36, 37, 38, 39, 40] [] f_ref04_More_L0))))
      (.ops [
        ⟨some 15, .id, [.t 6], none, [], [], false⟩,
        ⟨some 16, .bin .add, [.t 15, .c (.int .i64 1)], none, [], [], false⟩,
        ⟨some 6, .id, [.t 16], none, [], [], false⟩])))
def f_ref04_More_H1 (t1 t5 t6 : AV) : List AV := [.dead, t1, .dead, .dead, .dead, t5, t6, .dead, .dead, .dead, .dead, .dead, .dead, .dead, .dead, .dead, .dead, .dead, .dead, .dead, .dead, .dead, .dead, .dead, .dead, .dead, .dead, .dead, .dead, .dead, .dead, .dead, .dead, .dead, .dead, .dead, .dead, .dead, .dead, .dead, .dead]
def f_ref04_More_B : ICode :=
  (.seq
    (.ops [
      ⟨some 4, .id, [.c (.int .u32 0)], none, [], [], false⟩])
    (.seq
      (.ops [
        ⟨some 9, .id, [.t 0], none, [], [], false⟩,
        ⟨some 10, .un .xor, [.t 9], none, [], [], false⟩,
        ⟨some 5, .id, [.t 10], none, [], [], false⟩])
      (.seq
        (.seq
          (.ops [
            ⟨some 6, .id, [.c (.int .i64 0)], none, [], [], false⟩])
          (.block 0
            (.loop [0, 2, 3, 4, 7, 8, 9, 10, 11, 12, 13, 14, 15, 16, 17, 18, 19, 20, 21, 22, 23, 24, 25, 26, 27, 28, 29, 30, 31, 32, 33, 34, 35, 36, 37, 38, 39, 40] [] f_ref04_More_L1)))
        (.seq
          (.ops [
            ⟨some 39, .id, [.t 5], none, [], [], false⟩,
            ⟨some 40, .un .xor, [.t 39], none, [], [], false⟩,
            ⟨some 4, .id, [.t 40], none, [], [], false⟩])
          .ret))))
def f_ref04_More : IFn := ⟨41, 0, [.tmp 4], f_ref04_More_B⟩

end Go.AM

namespace Go.AM

def crcBit (s : BitVec 32) : BitVec 32 := if (s &&& 1#32) == 1#32 then (s >>> 1) ^^^ 0xedb88320#32 else s >>> 1
def crcBits : Nat → BitVec 32 → BitVec 32
  | 0, s => s
  | n + 1, s => crcBits n (crcBit s)
def crcByte (s : BitVec 32) (c : UInt8) : BitVec 32 := crcBits 8 (s ^^^ BitVec.ofNat 32 c.toNat)
def crcMore (s : BitVec 32) (bs : List UInt8) : BitVec 32 := ~~~ (bs.foldl crcByte (~~~ s))

theorem crcBits_succ : ∀ (n : Nat) (s : BitVec 32), crcBits (n + 1) s = crcBit (crcBits n s)
  | 0, s => rfl
  | n + 1, s => crcBits_succ n (crcBit s)

theorem c1 : Value.int .u32 1 = u32 1#32 := rfl
theorem c2 : Value.int .u32 3988292384 = u32 0xedb88320#32 := rfl
theorem c0 : Value.int .u32 0 = u32 0#32 := rfl

variable {prog : String → Option IFn}

theorem ren_v {ρ x} : (AV.v x).ren ρ = .v x := rfl

theorem u8_u32 {b : UInt8} : Value.int .u32 (IntKind.u32.wrap (b.toNat : Int)) = u32 (BitVec.ofNat 32 b.toNat) := by
  rw [u32, IntKind.wrap_u32, BitVec.toNat_ofNat]; congr 1

theorem foldl_take_succ {α β : Type} {f : β → α → β} {b : β} {l : List α} {i : Nat} (h : i < l.length) : (l.take (i + 1)).foldl f b = f ((l.take i).foldl f b) l[i] := by
  rw [List.take_add_one, List.getElem?_eq_getElem h, List.foldl_append]; rfl

theorem More_spec (hf : prog "haberdash/crc.More" = some f_crc_More) {G a} {bs : List UInt8} (v : ∀ L, View ⟨G, L⟩ a 1 bs.length (bs.map byteAV)) (s : BitVec 32) (hb : bs.length < 2 ^ 62) :
    Ev prog (.call "haberdash/crc.More" [.v (u32 s), a] G) (.ret (.v (u32 (crcMore s bs))) G) := by
  refine call_of_fin hf ?_
  have v0 := v []
  simp only [f_crc_More_B, enter, List.length_cons, List.length_nil, List.replicate, Nat.reduceAdd, Nat.reduceSub, List.cons_append, List.nil_append]
  simp (disch := first | (simp only [ne_eq, reduceCtorEq, not_false_eq_true, implies_true]; done) | omega) only [WS, St.guard, St.put, evalO, reduceCtorEq, reduceIte, Nat.reduceAdd, v0.lenSlice]
  refine WC_count (fun i => ⟨f_crc_More_H1 (.v (u32 ((bs.take i).foldl crcByte (~~~ s)))) a (.v (.int .i64 bs.length)) (.v (.int .i64 (i : Nat))), ⟨G, []⟩⟩) bs.length ?_ (fun i hi => ?_) ?_
  · simp only [clear_nil, List.foldl_cons, List.foldl_nil, Option.some.injEq, List.map_cons, List.map_nil, List.getD_cons_zero, List.getD_cons_succ, List.set_cons_zero, List.set_cons_succ, Option.map_some, Option.bind_some, ne_eq, reduceCtorEq, not_false_eq_true, implies_true, beq_self_eq_true, BEq.rfl, if_true, if_false, Bool.false_eq_true, not_true_eq_false, Option.some.injEq, reduceIte, Bool.not_true, Bool.not_false, beq_true, beq_false, Bool.true_and, Bool.and_true, Bool.false_and, Bool.and_false, true_and, List.getElem?_cons_zero, List.getElem?_cons_succ, List.length_cons, List.length_nil, Nat.reduceAdd]; rfl
  · have hlt' : (i : Int) < (bs.length : Int) := by omega
    have hx : (bs.map byteAV)[i]? = some (byteAV bs[i]) := by simp [hi]
    simp (disch := first | (simp only [ne_eq, reduceCtorEq, not_false_eq_true, implies_true]; done) | omega) only [f_crc_More_L1, f_crc_More_H1, WS, St.guard, St.put, evalO, reduceCtorEq, reduceIte, Nat.reduceAdd, hlt', decide_true, v0.index hi, v0.load1 hx, byteAV, u8_u32, foldl_take_succ hi]
    generalize (bs.take i).foldl crcByte (~~~ s) = t0 at *
    refine WC_count (fun j => ⟨f_crc_More_H0 (.v (u32 (crcBits j (t0 ^^^ BitVec.ofNat 32 bs[i].toNat)))) a (.v (.int .i64 bs.length)) (.v (.int .i64 (i : Nat))) (.v (.int .i64 (j : Nat))), ⟨G, []⟩⟩) 8 ?_ (fun j hj => ?_) ?_
    · simp only [clear_nil, List.foldl_cons, List.foldl_nil, Option.some.injEq, List.map_cons, List.map_nil, List.getD_cons_zero, List.getD_cons_succ, List.set_cons_zero, List.set_cons_succ, Option.map_some, Option.bind_some, ne_eq, reduceCtorEq, not_false_eq_true, implies_true, beq_self_eq_true, BEq.rfl, if_true, if_false, Bool.false_eq_true, not_true_eq_false, Option.some.injEq, reduceIte, Bool.not_true, Bool.not_false, beq_true, beq_false, Bool.true_and, Bool.and_true, Bool.false_and, Bool.and_false, true_and, List.getElem?_cons_zero, List.getElem?_cons_succ, List.length_cons, List.length_nil, Nat.reduceAdd]; rfl
    · have hlt' : (j : Int) < 8 := by omega
      simp (disch := first | (simp only [ne_eq, reduceCtorEq, not_false_eq_true, implies_true]; done) | omega) only [f_crc_More_L0, f_crc_More_H0, WS, St.guard, St.put, evalO, reduceCtorEq, reduceIte, Nat.reduceAdd, hlt', decide_true, c1, c2]
      rw [crcBits_succ]
      generalize crcBits j (t0 ^^^ BitVec.ofNat 32 bs[i].toNat) = t
      by_cases hb : (t &&& 1#32 == 1#32) = true <;> simp (disch := first | (simp only [ne_eq, reduceCtorEq, not_false_eq_true, implies_true]; done) | omega) only [crcBit, hb, WS, St.guard, St.put, evalO, reduceCtorEq, reduceIte, Nat.reduceAdd, c1, c2, vBin_add_i64, clear_nil, List.foldl_cons, List.foldl_nil, Option.some.injEq, Bool.false_eq_true] <;> rfl
    · simp (disch := first | (simp only [ne_eq, reduceCtorEq, not_false_eq_true, implies_true]; done) | omega) only [f_crc_More_L0, f_crc_More_H0, WS, St.guard, St.put, evalO, reduceCtorEq, reduceIte, Nat.reduceAdd, show ¬ (((8 : Nat) : Int) < 8) by omega, decide_false, vBin_add_i64, clear_nil, List.foldl_cons, List.foldl_nil, Option.some.injEq]
      rfl
  · simp (disch := first | (simp only [ne_eq, reduceCtorEq, not_false_eq_true, implies_true]; done) | omega) only [f_crc_More_L1, f_crc_More_H1, WS, St.guard, St.put, evalO, reduceCtorEq, reduceIte, Nat.reduceAdd, show ¬ ((bs.length : Int) < bs.length) by omega, decide_false, fin_tmp, leave_v, List.take_length]
    simp [crcMore]

theorem Sum_spec (hf : prog "haberdash/crc.More" = some f_crc_More) (hg : prog "haberdash/crc.Sum" = some f_crc_Sum) {G a} {bs : List UInt8} (v : ∀ L, View ⟨G, L⟩ a 1 bs.length (bs.map byteAV)) (hb : bs.length < 2 ^ 62) :
    Ev prog (.call "haberdash/crc.Sum" [a] G) (.ret (.v (u32 (crcMore 0#32 bs))) G) := by
  refine call_of_fin hg ?_
  simp only [f_crc_Sum_B, enter, List.length_cons, List.length_nil, List.replicate, Nat.reduceAdd, Nat.reduceSub, List.cons_append, List.nil_append]
  simp only [WS, St.guard, St.put, evalO, reduceCtorEq, reduceIte, Nat.reduceAdd, c0]
  have := More_spec (prog := prog) hf ((v []).into bytes_lfs) 0#32 hb
  rw [WP_pure (x := u32 (crcMore 0#32 bs)) (by simpa only [List.map_cons, List.map_nil, ren_v] using this) rfl rfl]
  simp only [WS, St.guard, St.put, evalO, reduceCtorEq, reduceIte, Nat.reduceAdd, fin_tmp, leave_v]
  simp
end Go.AM

namespace Go.AM

def refBit (s c : BitVec 32) (j : Nat) : BitVec 32 := if ((s &&& 1#32) ^^^ ((c >>> j) &&& 1#32)) == 1#32 then (s >>> 1) ^^^ 0xedb88320#32 else s >>> 1

theorem refBit_eq (s c : BitVec 32) (j : Nat) : crcBit (s ^^^ (c >>> j)) = refBit s c j ^^^ (c >>> (j + 1)) := by
  have e1 : (s ^^^ (c >>> j)) &&& 1#32 = (s &&& 1#32) ^^^ ((c >>> j) &&& 1#32) := by
    ext i hi; simp [Bool.and_xor_distrib_right]
  have e2 : (s ^^^ (c >>> j)) >>> 1 = (s >>> 1) ^^^ (c >>> (j + 1)) := by
    rw [BitVec.ushiftRight_xor_distrib, ← BitVec.shiftRight_add]
  simp only [crcBit, refBit, e1, e2]
  split
  · rw [BitVec.xor_assoc, BitVec.xor_assoc]; congr 1; exact BitVec.xor_comm _ _
  · rfl

def refBits (c : BitVec 32) : Nat → Nat → BitVec 32 → BitVec 32
  | 0, _, s => s
  | n + 1, j, s => refBits c n (j + 1) (refBit s c j)

theorem refBits_eq (c : BitVec 32) : ∀ (n j : Nat) (s : BitVec 32), crcBits n (s ^^^ (c >>> j)) = refBits c n j s ^^^ (c >>> (j + n))
  | 0, j, s => rfl
  | n + 1, j, s => by
    rw [crcBits, refBit_eq, refBits_eq c n (j + 1), refBits]
    congr 2
    omega

theorem refByte (s : BitVec 32) (b : UInt8) : refBits (BitVec.ofNat 32 b.toNat) 8 0 s = crcByte s b := by
  have := refBits_eq (BitVec.ofNat 32 b.toNat) 8 0 s
  have e0 : BitVec.ofNat 32 b.toNat >>> 0 = BitVec.ofNat 32 b.toNat := by simp
  have e8 : BitVec.ofNat 32 b.toNat >>> (0 + 8) = 0#32 := by
    apply BitVec.eq_of_toNat_eq
    have := b.toNat_lt
    simp [Nat.shiftRight_eq_div_pow]
    omega
  rw [e0, e8] at this
  simp only [crcByte, this, BitVec.xor_zero]

theorem vBin_shr_u8 {b : UInt8} {k : IntKind} {j : Nat} (hj : j ≤ 8) : vBin .shr (.int .u8 (b.toNat : Int)) (.int k (j : Int)) = some (.int .u8 ((b.toNat >>> j : Nat) : Int)) := by
  simp only [vBin]
  rw [if_neg (by omega), Int.toNat_natCast, Nat.shiftRight_eq_div_pow, show min j IntKind.u8.bits = j from Nat.min_eq_left hj,
    Int.fdiv_eq_ediv_of_nonneg _ (Int.le_of_lt (Int.pow_pos (by omega)))]
  simp

theorem u8s_u32 {b : UInt8} {j : Nat} : Value.int .u32 (IntKind.u32.wrap ((b.toNat >>> j : Nat) : Int)) = u32 (BitVec.ofNat 32 b.toNat >>> j) := by
  rw [u32, IntKind.wrap_u32]
  congr 1
  have := b.toNat_lt
  have h2 : b.toNat >>> j ≤ b.toNat := Nat.shiftRight_le _ _
  rw [BitVec.toNat_ushiftRight, BitVec.toNat_ofNat, Nat.mod_eq_of_lt (by omega : b.toNat < 2 ^ 32)]
  generalize b.toNat >>> j = y at *
  omega

theorem refBits_succ (c : BitVec 32) : ∀ (n j : Nat) (s : BitVec 32), refBits c (n + 1) j s = refBit (refBits c n j s) c (j + n)
  | 0, j, s => rfl
  | n + 1, j, s => by rw [refBits, refBits_succ c n, refBits]; congr 1; omega

theorem wrap_u64_nat {j : Nat} (hj : j < 18446744073709551616) : IntKind.u64.wrap (j : Int) = j := by
  rw [IntKind.wrap_u64]; omega

variable {prog : String → Option IFn}

theorem RefMore_spec (hf : prog "haberdash/haberdashref04.More" = some f_ref04_More) {G a} {bs : List UInt8} (v : ∀ L, View ⟨G, L⟩ a 1 bs.length (bs.map byteAV)) (s : BitVec 32) (hb : bs.length < 2 ^ 62) :
    Ev prog (.call "haberdash/haberdashref04.More" [.v (u32 s), a] G) (.ret (.v (u32 (crcMore s bs))) G) := by
  refine call_of_fin hf ?_
  have v0 := v []
  simp only [f_ref04_More_B, enter, List.length_cons, List.length_nil, List.replicate, Nat.reduceAdd, Nat.reduceSub, List.cons_append, List.nil_append]
  simp only [WS, St.guard, St.put, evalO, reduceCtorEq, reduceIte, Nat.reduceAdd]
  refine WC_count (fun i => ⟨f_ref04_More_H1 a (.v (u32 ((bs.take i).foldl crcByte (~~~ s)))) (.v (.int .i64 (i : Nat))), ⟨G, []⟩⟩) bs.length ?_ (fun i hi => ?_) ?_
  · simp only [clear_nil, List.foldl_cons, List.foldl_nil, Option.some.injEq, List.map_cons, List.map_nil, List.getD_cons_zero, List.getD_cons_succ, List.set_cons_zero, List.set_cons_succ, Option.map_some, Option.bind_some, ne_eq, reduceCtorEq, not_false_eq_true, implies_true, beq_self_eq_true, BEq.rfl, if_true, if_false, Bool.false_eq_true, not_true_eq_false, Option.some.injEq, reduceIte, Bool.not_true, Bool.not_false, beq_true, beq_false, Bool.true_and, Bool.and_true, Bool.false_and, Bool.and_false, true_and, List.getElem?_cons_zero, List.getElem?_cons_succ, List.length_cons, List.length_nil, Nat.reduceAdd]; rfl
  · have hlt' : (i : Int) < (bs.length : Int) := by omega
    have hx : (bs.map byteAV)[i]? = some (byteAV bs[i]) := by simp [hi]
    simp (disch := first | (simp only [ne_eq, reduceCtorEq, not_false_eq_true, implies_true]; done) | omega) only [f_ref04_More_L1, f_ref04_More_H1, WS, St.guard, St.put, evalO, reduceCtorEq, reduceIte, Nat.reduceAdd, hlt', decide_true, v0.lenSlice, foldl_take_succ hi]
    generalize (bs.take i).foldl crcByte (~~~ s) = t0 at *
    refine WC_count (fun j => ⟨f_ref04_More_H0 a (.v (u32 (refBits (BitVec.ofNat 32 bs[i].toNat) j 0 t0))) (.v (.int .i64 (i : Nat))) (.v (.int .i64 (j : Nat))), ⟨G, []⟩⟩) 8 ?_ (fun j hj => ?_) ?_
    · simp only [clear_nil, List.foldl_cons, List.foldl_nil, Option.some.injEq, List.map_cons, List.map_nil, List.getD_cons_zero, List.getD_cons_succ, List.set_cons_zero, List.set_cons_succ, Option.map_some, Option.bind_some, ne_eq, reduceCtorEq, not_false_eq_true, implies_true, beq_self_eq_true, BEq.rfl, if_true, if_false, Bool.false_eq_true, not_true_eq_false, Option.some.injEq, reduceIte, Bool.not_true, Bool.not_false, beq_true, beq_false, Bool.true_and, Bool.and_true, Bool.false_and, Bool.and_false, true_and, List.getElem?_cons_zero, List.getElem?_cons_succ, List.length_cons, List.length_nil, Nat.reduceAdd]; rfl
    · have hlt' : (j : Int) < 8 := by omega
      simp (disch := first | (simp only [ne_eq, reduceCtorEq, not_false_eq_true, implies_true]; done) | omega) only [f_ref04_More_L0, f_ref04_More_H0, WS, St.guard, St.put, evalO, reduceCtorEq, reduceIte, Nat.reduceAdd, hlt', decide_true, c1, c2, v0.index hi, v0.load1 hx, byteAV, wrap_u64_nat, vBin_shr_u8, u8s_u32]
      rw [refBits_succ, Nat.zero_add]
      generalize refBits (BitVec.ofNat 32 bs[i].toNat) j 0 t0 = t
      by_cases hb : (t &&& 1#32 ^^^ BitVec.ofNat 32 bs[i].toNat >>> j &&& 1#32 == 1#32) = true <;> simp (disch := first | (simp only [ne_eq, reduceCtorEq, not_false_eq_true, implies_true]; done) | omega) only [refBit, hb, WS, St.guard, St.put, evalO, reduceCtorEq, reduceIte, Nat.reduceAdd, c1, c2, vBin_add_i64, clear_nil, List.foldl_cons, List.foldl_nil, Option.some.injEq, Bool.false_eq_true] <;> rfl
    · simp (disch := first | (simp only [ne_eq, reduceCtorEq, not_false_eq_true, implies_true]; done) | omega) only [f_ref04_More_L0, f_ref04_More_H0, WS, St.guard, St.put, evalO, reduceCtorEq, reduceIte, Nat.reduceAdd, show ¬ (((8 : Nat) : Int) < 8) by omega, decide_false, vBin_add_i64, clear_nil, List.foldl_cons, List.foldl_nil, Option.some.injEq, refByte]
      rfl
  · simp (disch := first | (simp only [ne_eq, reduceCtorEq, not_false_eq_true, implies_true]; done) | omega) only [f_ref04_More_L1, f_ref04_More_H1, WS, St.guard, St.put, evalO, reduceCtorEq, reduceIte, Nat.reduceAdd, v0.lenSlice, show ¬ ((bs.length : Int) < bs.length) by omega, decide_false, fin_tmp, leave_v, List.take_length]
    simp [crcMore]

theorem RefSum_spec (hf : prog "haberdash/haberdashref04.More" = some f_ref04_More) (hg : prog "haberdash/haberdashref04.Sum" = some f_ref04_Sum) {G a} {bs : List UInt8} (v : ∀ L, View ⟨G, L⟩ a 1 bs.length (bs.map byteAV)) (hb : bs.length < 2 ^ 62) :
    Ev prog (.call "haberdash/haberdashref04.Sum" [a] G) (.ret (.v (u32 (crcMore 0#32 bs))) G) := by
  refine call_of_fin hg ?_
  simp only [f_ref04_Sum_B, enter, List.length_cons, List.length_nil, List.replicate, Nat.reduceAdd, Nat.reduceSub, List.cons_append, List.nil_append]
  simp only [WS, St.guard, St.put, evalO, reduceCtorEq, reduceIte, Nat.reduceAdd, c0]
  have := RefMore_spec (prog := prog) hf ((v []).into bytes_lfs) 0#32 hb
  rw [WP_pure (x := u32 (crcMore 0#32 bs)) (by simpa only [List.map_cons, List.map_nil, ren_v] using this) rfl rfl]
  simp only [WS, St.guard, St.put, evalO, reduceCtorEq, reduceIte, Nat.reduceAdd, fin_tmp, leave_v]
  simp

end Go.AM

/- What sums are: linear, and turned by turned bits. Plain Lean. -/
namespace Go.AM

theorem xor4 (a b c d : BitVec 32) : (a ^^^ b) ^^^ (c ^^^ d) = (a ^^^ c) ^^^ (b ^^^ d) := by
  rw [BitVec.xor_assoc, ← BitVec.xor_assoc b, BitVec.xor_comm b c, BitVec.xor_assoc, BitVec.xor_assoc]

theorem low_eq (s : BitVec 32) : (s &&& 1#32 == 1#32) = s.getLsbD 0 := by
  rw [Bool.eq_iff_iff, beq_iff_eq]
  constructor
  · intro h
    have := congrArg (fun x => BitVec.getLsbD x 0) h
    simpa using this
  · intro h
    ext i hi
    rw [BitVec.getElem_and]
    by_cases h0 : i = 0
    · subst h0
      have : s[0] = true := by rw [← BitVec.getLsbD_eq_getElem]; exact h
      simp [this]
    · simp [BitVec.getElem_one, h0]

theorem crcBit_def (s : BitVec 32) : crcBit s = (s >>> 1) ^^^ (if s.getLsbD 0 then 0xedb88320#32 else 0#32) := by
  unfold crcBit
  rw [low_eq]
  cases s.getLsbD 0 <;> simp

theorem crcBit_xor (s t : BitVec 32) : crcBit (s ^^^ t) = crcBit s ^^^ crcBit t := by
  rw [crcBit_def, crcBit_def, crcBit_def, BitVec.ushiftRight_xor_distrib, BitVec.getLsbD_xor, xor4 (s >>> 1)]
  congr 1
  cases s.getLsbD 0 <;> cases t.getLsbD 0 <;> simp

theorem crcBits_xor : ∀ (n : Nat) (s t : BitVec 32), crcBits n (s ^^^ t) = crcBits n s ^^^ crcBits n t
  | 0, _, _ => rfl
  | n + 1, s, t => by rw [crcBits, crcBits, crcBits, crcBit_xor, crcBits_xor n]

theorem crcBit_zero : crcBit 0#32 = 0#32 := by decide
theorem crcBits_zero : ∀ n, crcBits n 0#32 = 0#32
  | 0 => rfl
  | n + 1 => by rw [crcBits, crcBit_zero, crcBits_zero n]
theorem crcBits_add : ∀ (m n : Nat) (s : BitVec 32), crcBits (m + n) s = crcBits n (crcBits m s)
  | 0, n, s => by simp [crcBits]
  | m + 1, n, s => by rw [show m + 1 + n = (m + n) + 1 by omega, crcBits, crcBits, crcBits_add m n]

theorem crcBit_top (s : BitVec 32) : (crcBit s).getLsbD 31 = s.getLsbD 0 := by
  rw [crcBit_def, BitVec.getLsbD_xor, BitVec.getLsbD_ushiftRight]
  have : s.getLsbD (1 + 31) = false := BitVec.getLsbD_of_ge _ _ (by omega)
  rw [this]
  cases s.getLsbD 0 <;> simp

theorem crcBit_inj {s : BitVec 32} (h : crcBit s = 0#32) : s = 0#32 := by
  have h0 : s.getLsbD 0 = false := by rw [← crcBit_top, h]; simp
  rw [crcBit_def, h0] at h
  simp only [Bool.false_eq_true, if_false, BitVec.xor_zero] at h
  ext i hi
  rw [← BitVec.getLsbD_eq_getElem]
  cases i with
  | zero => rw [h0]; simp
  | succ i =>
    have := congrArg (fun x => BitVec.getLsbD x i) h
    simp only [BitVec.getLsbD_ushiftRight, BitVec.getLsbD_zero] at this
    have e : s.getLsbD (i + 1) = false := by rw [Nat.add_comm i 1]; exact this
    rw [e]; simp

theorem crcBits_inj : ∀ {n : Nat} {s : BitVec 32}, crcBits n s = 0#32 → s = 0#32
  | 0, s, h => h
  | n + 1, s, h => crcBit_inj (crcBits_inj h)

/-! ### Bit by bit -/
def bitW (b : Bool) : BitVec 32 := if b then 1#32 else 0#32
def feed (δ : Nat → Bool) (s : BitVec 32) : Nat → BitVec 32
  | 0 => s
  | n + 1 => crcBit (feed δ s n ^^^ bitW (δ n))

theorem bitW_xor (a b : Bool) : bitW (a ^^ b) = bitW a ^^^ bitW b := by cases a <;> cases b <;> decide

theorem feed_xor (δ ε : Nat → Bool) (s t : BitVec 32) : ∀ n, feed (fun k => δ k ^^ ε k) (s ^^^ t) n = feed δ s n ^^^ feed ε t n
  | 0 => rfl
  | n + 1 => by rw [feed, feed, feed, feed_xor δ ε s t n, bitW_xor, xor4, crcBit_xor]

/-- The bits of a number from a place on. -/
theorem feed_word (w s : BitVec 32) (δ : Nat → Bool) (at' : Nat) : ∀ n, (∀ j, j < n → δ (at' + j) = w.getLsbD j) → feed δ s at' = s →
    feed δ s (at' + n) = crcBits n (s ^^^ w) ^^^ (w >>> n)
  | 0, _, h0 => by rw [Nat.add_zero, h0, crcBits]; simp [BitVec.xor_assoc]
  | n + 1, h, h0 => by
    rw [show at' + (n + 1) = (at' + n) + 1 by omega, feed, feed_word w s δ at' n (fun j hj => h j (by omega)) h0, h n (by omega), crcBits_succ, crcBit_xor, crcBit_xor]
    rw [BitVec.xor_assoc]
    congr 1
    rw [← crcBit_xor, crcBit_def]
    have e1 : (w >>> n ^^^ bitW (w.getLsbD n)).getLsbD 0 = false := by
      rw [BitVec.getLsbD_xor, BitVec.getLsbD_ushiftRight, Nat.add_zero]
      unfold bitW
      cases w.getLsbD n <;> simp
    rw [e1]
    simp only [Bool.false_eq_true, if_false, BitVec.xor_zero]
    rw [BitVec.ushiftRight_xor_distrib, ← BitVec.shiftRight_add]
    have e2 : bitW (w.getLsbD n) >>> 1 = 0#32 := by unfold bitW; cases w.getLsbD n <;> decide
    rw [e2]; simp

theorem feed_congr {δ ε : Nat → Bool} {s : BitVec 32} : ∀ {n}, (∀ k, k < n → δ k = ε k) → feed δ s n = feed ε s n
  | 0, _ => rfl
  | n + 1, h => by rw [feed, feed, feed_congr fun k hk => h k (by omega), h n (by omega)]

theorem feed_none {δ : Nat → Bool} {s : BitVec 32} (m : Nat) : ∀ {n}, (∀ k, k < n → δ (m + k) = false) → feed δ s (m + n) = crcBits n (feed δ s m)
  | 0, _ => rfl
  | n + 1, h => by
    rw [show m + (n + 1) = (m + n) + 1 by omega, feed, feed_none m fun k hk => h k (by omega), h n (by omega), crcBits_succ]
    congr 1
    simp [bitW]

theorem feed_zero {δ : Nat → Bool} {n : Nat} (h : ∀ k, k < n → δ k = false) : feed δ 0#32 n = 0#32 := by
  have := feed_none (δ := δ) (s := 0#32) 0 (n := n) fun k hk => by rw [Nat.zero_add]; exact h k hk
  rw [Nat.zero_add] at this
  rw [this, feed, crcBits_zero]

/-- Bits turned within 32 neighbouring ones. -/
theorem feed_burst {δ : Nat → Bool} {at' n : Nat} {w : BitVec 32} (hn : at' + 32 ≤ n) (h : ∀ k, k < n → δ k = (decide (at' ≤ k) && decide (k < at' + 32) && w.getLsbD (k - at'))) :
    feed δ 0#32 n = 0#32 ↔ w = 0#32 := by
  have h0 : feed δ 0#32 at' = 0#32 := feed_zero fun k hk => by
    rw [h k (by omega)]
    simp only [Bool.and_eq_false_iff, decide_eq_false_iff_not]
    exact .inl (.inl (by omega))
  have h1 := feed_word w 0#32 δ at' 32 (fun j hj => by
    rw [h _ (by omega), show at' + j - at' = j by omega]
    simp only [show at' ≤ at' + j by omega, show at' + j < at' + 32 by omega, decide_true, Bool.true_and]) h0
  have h2 : w >>> 32 = 0#32 := by
    apply BitVec.eq_of_toNat_eq
    have := w.isLt
    simp [Nat.shiftRight_eq_div_pow]
    exact this
  rw [h2] at h1
  simp only [BitVec.zero_xor, BitVec.xor_zero] at h1
  have h3 := feed_none (δ := δ) (s := 0#32) (at' + 32) (n := n - (at' + 32)) fun k hk => by
    rw [h _ (by omega)]
    simp only [Bool.and_eq_false_iff, decide_eq_false_iff_not]
    exact .inl (.inr (by omega))
  rw [show at' + 32 + (n - (at' + 32)) = n by omega, h1] at h3
  rw [h3]
  constructor
  · intro h; exact crcBits_inj (crcBits_inj h)
  · rintro rfl; rw [crcBits_zero, crcBits_zero]

/-! ### Bytes -/
def bitAt (bs : List UInt8) (k : Nat) : Bool := (bs.getD (k / 8) 0).toNat.testBit (k % 8)

theorem byte_word (b : UInt8) (j : Nat) : (BitVec.ofNat 32 b.toNat).getLsbD j = (decide (j < 8) && b.toNat.testBit j) := by
  rw [BitVec.getLsbD_ofNat]
  have := b.toNat_lt
  by_cases h : j < 8
  · simp [h, show j < 32 by omega]
  · simp only [h, decide_false, Bool.false_and, Bool.and_eq_false_iff]
    right
    exact Nat.testBit_lt_two_pow (Nat.lt_of_lt_of_le this (Nat.pow_le_pow_right (by omega) (by omega)))

theorem feed_shift (δ : Nat → Bool) (s : BitVec 32) (m : Nat) : ∀ n, feed δ s (m + n) = feed (fun k => δ (m + k)) (feed δ s m) n
  | 0 => rfl
  | n + 1 => by rw [show m + (n + 1) = (m + n) + 1 by omega, feed, feed_shift δ s m n, feed]

theorem feed_byte (s : BitVec 32) (b : UInt8) (δ : Nat → Bool) (h : ∀ j, j < 8 → δ j = b.toNat.testBit j) : feed δ s 8 = crcByte s b := by
  have := feed_word (BitVec.ofNat 32 b.toNat) s δ 0 8 (fun j hj => by rw [Nat.zero_add, h j hj, byte_word]; simp [hj]) rfl
  rw [Nat.zero_add] at this
  rw [this, crcByte]
  have e8 : BitVec.ofNat 32 b.toNat >>> 8 = 0#32 := by
    apply BitVec.eq_of_toNat_eq
    have := b.toNat_lt
    simp [Nat.shiftRight_eq_div_pow]
    omega
  rw [e8]; simp

theorem fold_feed : ∀ (bs : List UInt8) (s : BitVec 32), bs.foldl crcByte s = feed (bitAt bs) s (8 * bs.length)
  | [], s => rfl
  | b :: bs, s => by
    rw [List.foldl_cons, fold_feed bs, List.length_cons, show 8 * (bs.length + 1) = 8 + 8 * bs.length by omega, feed_shift]
    rw [feed_byte s b _ fun j hj => by unfold bitAt; rw [Nat.div_eq_of_lt hj, Nat.mod_eq_of_lt hj]; rfl]
    refine feed_congr fun k hk => ?_
    unfold bitAt
    rw [show (8 + k) / 8 = k / 8 + 1 by omega, show (8 + k) % 8 = k % 8 by omega]
    rfl

theorem crcMore_append (s : BitVec 32) (a b : List UInt8) : crcMore (crcMore s a) b = crcMore s (a ++ b) := by
  simp only [crcMore, BitVec.not_not, List.foldl_append]

/-- Of rows of as many bytes: what the one and the other have together. -/
theorem crc_diff {a b : List UInt8} (hl : a.length = b.length) : crcMore 0#32 a = crcMore 0#32 b ↔ feed (fun k => bitAt a k ^^ bitAt b k) 0#32 (8 * a.length) = 0#32 := by
  have h := feed_xor (bitAt a) (bitAt b) (~~~ 0#32) (~~~ 0#32) (8 * a.length)
  rw [BitVec.xor_self] at h
  rw [h]
  simp only [crcMore, fold_feed, ← hl]
  generalize feed (bitAt a) _ _ = x
  generalize feed (bitAt b) _ _ = y
  constructor
  · intro h
    have : x = y := by
      have := congrArg (~~~ ·) h
      simpa using this
    rw [this, BitVec.xor_self]
  · intro h
    have : x = y := by
      have := congrArg (· ^^^ y) h
      simpa [BitVec.xor_assoc] using this
    rw [this]

theorem crc_burst {a b : List UInt8} {at' : Nat} {w : BitVec 32} (hl : a.length = b.length) (hn : at' + 32 ≤ 8 * a.length)
    (h : ∀ k, k < 8 * a.length → (bitAt a k ^^ bitAt b k) = (decide (at' ≤ k) && decide (k < at' + 32) && w.getLsbD (k - at'))) : crcMore 0#32 a = crcMore 0#32 b ↔ w = 0#32 := by
  rw [crc_diff hl]
  exact feed_burst hn h

end Go.AM

namespace Go.AM
variable {prog : String → Option IFn}

def aw : List UInt8 := [49, 50, 51, 52, 53, 54, 55, 56, 57]

theorem awake_spec (h1 : prog "haberdash/crc.More" = some f_crc_More) (h2 : prog "haberdash/crc.Sum" = some f_crc_Sum)
    (h3 : prog "haberdash/haberdashlaw05.awake" = some f_law05_awake) {G : List (Option Blk)} :
    Ev prog (.call "haberdash/haberdashlaw05.awake" [] G) (.ret (.v (.bool true)) G) := by
  refine call_of_fin h3 ?_
  simp only [f_law05_awake_B, enter, List.length_cons, List.length_nil, List.replicate, Nat.reduceAdd, Nat.reduceSub, List.cons_append, List.nil_append]
  have e1 : prim ⟨G, [none]⟩ (.buildSlice 0 false 1 9 [.int .u8 0] [(0, 1), (1, 1), (2, 1), (3, 1), (4, 1), (5, 1), (6, 1), (7, 1), (8, 1)])
      [.v (.int .u8 49), .v (.int .u8 50), .v (.int .u8 51), .v (.int .u8 52), .v (.int .u8 53), .v (.int .u8 54), .v (.int .u8 55), .v (.int .u8 56), .v (.int .u8 57)] =
      some (.own (.l 0) 9 0 9 1 (some 9), ⟨G, [some (newBlk (aw.map byteAV))]⟩) := rfl
  have e3 : prim ⟨G, [some (newBlk (aw.map byteAV))]⟩ .bytesBytes [.own (.l 0) 9 0 9 1 (some 9)] =
    some (.own (.l 0) 9 0 9 1 (some 9), ⟨G, [some (newBlk (aw.map byteAV))]⟩) := rfl
  simp only [WK_nil, WK_seq_normal, WK_seq_ret, WK_seq_exit, WK_block_normal, WK_block_ret, WK_block_exit, WC_skip, WC_ret, WC_exit, WC_ops, WC_seq, WC_block, WC_cond, WCond_bool, WO_nil, WO_cons, WG_false, WG_true, WP_prim, WR_some, St.guard, St.put, evalO, const_int, const_bool, const_string, const_slice, const_ptr, const_func, const_agg, const_u32, List.map_cons, List.map_nil, List.getD_cons_zero, List.getD_cons_succ, List.set_cons_zero, List.set_cons_succ, Option.map_some, Option.bind_some, ne_eq, reduceCtorEq, not_false_eq_true, implies_true, beq_self_eq_true, BEq.rfl, if_true, if_false, Bool.false_eq_true, not_true_eq_false, Option.some.injEq, reduceIte, Bool.not_true, Bool.not_false, beq_true, beq_false, Bool.true_and, Bool.and_true, Bool.false_and, Bool.and_false, true_and, List.getElem?_cons_zero, List.getElem?_cons_succ, List.length_cons, List.length_nil, Nat.reduceAdd, px_id, e1, e3]
  have v : View ⟨G, [some (newBlk (aw.map byteAV))]⟩ (.own (.l 0) 9 0 9 1 (some 9)) 1 9 (aw.map byteAV) :=
    ⟨rfl, rfl, rfl, rfl, Nat.le_refl _, by omega⟩
  rw [WP_pure (x := u32 (crcMore 0#32 aw)) (Sum_spec h1 h2 (v.into rfl) (by decide)) rfl rfl]
  rw [show crcMore 0#32 aw = 0xcbf43926#32 by decide +kernel]
  simp only [WS, St.guard, St.put, evalO, reduceCtorEq, reduceIte, Nat.reduceAdd, show Value.int .u32 3421780262 = u32 0xcbf43926#32 from rfl, fin_tmp, leave_v]
  simp

/-- The functions that the laws of the sums reach. -/
structure CrcFns (prog : String → Option IFn) : Prop where
  more : prog "haberdash/crc.More" = some f_crc_More
  sum : prog "haberdash/crc.Sum" = some f_crc_Sum
  rmore : prog "haberdash/haberdashref04.More" = some f_ref04_More
  rsum : prog "haberdash/haberdashref04.Sum" = some f_ref04_Sum
  awake : prog "haberdash/haberdashlaw05.awake" = some f_law05_awake

theorem CrcAll_spec (H : CrcFns prog) (hp : prog "haberdash/haberdashlaw05.CrcAll" = some f_law05_CrcAll) {G a} {bs : List UInt8} (s : BitVec 32) (v : ∀ L, View ⟨G, L⟩ a 1 bs.length (bs.map byteAV)) :
    Ev prog (.call "haberdash/haberdashlaw05.CrcAll" [.v (u32 s), a] G) (.ret (.v (.bool true)) G) := by
  refine call_of_fin hp ?_
  have v0 := v []
  simp only [f_law05_CrcAll_B, enter, List.length_cons, List.length_nil, List.replicate, Nat.reduceAdd, Nat.reduceSub, List.cons_append, List.nil_append]
  simp only [WS, St.guard, St.put, evalO, reduceCtorEq, reduceIte, Nat.reduceAdd, v0.lenSlice]
  have aw (G) := awake_spec (G := G) H.more H.sum H.awake
  by_cases hl : (bs.length : Int) > 3000
  · simp only [hl, decide_true, WS, St.guard, St.put, evalO, reduceCtorEq, reduceIte, Nat.reduceAdd]
    rw [WP_pure (x := .bool true) (aw _) rfl rfl]
    simp only [WS, St.guard, St.put, evalO, reduceCtorEq, reduceIte, Nat.reduceAdd, fin_tmp, leave_v]
    simp
  · have hb : bs.length < 2 ^ 62 := by omega
    simp only [hl, decide_false, WS, St.guard, St.put, evalO, reduceCtorEq, reduceIte, Nat.reduceAdd]
    rw [WP_pure (x := .bool true) (aw _) rfl rfl]
    simp only [WS, St.guard, St.put, evalO, reduceCtorEq, reduceIte, Nat.reduceAdd]
    rw [WP_pure (x := u32 (crcMore 0#32 bs)) (Sum_spec H.more H.sum ((v []).into bytes_lfs) hb) rfl rfl]
    simp only [WS, St.guard, St.put, evalO, reduceCtorEq, reduceIte, Nat.reduceAdd]
    rw [WP_pure (x := u32 (crcMore 0#32 bs)) (RefSum_spec H.rmore H.rsum ((v []).into bytes_lfs) hb) rfl rfl]
    simp only [WS, St.guard, St.put, evalO, reduceCtorEq, reduceIte, Nat.reduceAdd]
    rw [WP_pure (x := u32 (crcMore s bs)) (More_spec H.more ((v []).into bytes_lfs) s hb) rfl rfl]
    simp only [WS, St.guard, St.put, evalO, reduceCtorEq, reduceIte, Nat.reduceAdd]
    rw [WP_pure (x := u32 (crcMore s bs)) (RefMore_spec H.rmore ((v []).into bytes_lfs) s hb) rfl rfl]
    simp only [WS, St.guard, St.put, evalO, reduceCtorEq, reduceIte, Nat.reduceAdd, fin_tmp, leave_v]
    simp

end Go.AM
