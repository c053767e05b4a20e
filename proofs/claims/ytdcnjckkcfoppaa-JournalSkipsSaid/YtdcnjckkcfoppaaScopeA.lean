import Derived.Test.YtdcnjckkcfoppaaAMA
import Derived.Test.YtdcnjckkcfoppaaAMD
import Derived.Test.YtdcnjckkcfoppaaHelp
set_option linter.unusedVariables false
set_option linter.unusedSimpArgs false
namespace Go.AM
def f_play_Sku_B : ICode :=
  (.seq
    (.ops [
      ⟨some 2, .id, [.c (.string ⟨#[]⟩)], none, [], [], false⟩])
    (.seq
      (.ops [
        ⟨some 3, .id, [.t 0], none, [], [], false⟩,
        ⟨some 4, .call "haberdash/haberdashplay.Mod" [], [.t 3, .c (.int .i64 8)], none, [], [], false⟩,
        ⟨some 5, .convInt .u8, [.t 4], none, [], [], false⟩,
        ⟨some 6, .bin .add, [.c (.int .u8 97), .t 5], none, [], [], false⟩,
        ⟨some 7, .buildSlice 0 false 1 1 [(.int .u8 0)] [(0, 1)], [.t 6], none, [], [], false⟩,
        ⟨some 8, .bytesStr, [.t 7], none, [], [], false⟩,
        ⟨some 2, .id, [.t 8], none, [], [], false⟩])
      .ret))
def f_play_Sku : IFn := ⟨9, 1, [.tmp 2], f_play_Sku_B⟩
def f_play_Category_B : ICode :=
  (.seq
    (.ops [
      ⟨some 2, .id, [.c (.string ⟨#[]⟩)], none, [], [], false⟩])
    (.seq
      (.ops [
        ⟨some 3, .id, [.t 0], none, [], [], false⟩,
        ⟨some 4, .call "haberdash/haberdashplay.Mod" [], [.t 3, .c (.int .i64 3)], none, [], [], false⟩,
        ⟨some 5, .convInt .u8, [.t 4], none, [], [], false⟩,
        ⟨some 6, .bin .add, [.c (.int .u8 120), .t 5], none, [], [], false⟩,
        ⟨some 7, .buildSlice 0 false 1 1 [(.int .u8 0)] [(0, 1)], [.t 6], none, [], [], false⟩,
        ⟨some 8, .bytesStr, [.t 7], none, [], [], false⟩,
        ⟨some 2, .id, [.t 8], none, [], [], false⟩])
      .ret))
def f_play_Category : IFn := ⟨9, 1, [.tmp 2], f_play_Category_B⟩
def f_play_Mod_B : ICode :=
  (.seq
    (.ops [
      ⟨some 4, .id, [.c (.int .i64 0)], none, [], [], false⟩])
    (.seq
      (.ops [
        ⟨some 5, .id, [.t 0], none, [], [], false⟩,
        ⟨some 6, .convInt .u64, [.t 5], none, [], [], false⟩,
        ⟨some 7, .id, [.t 1], none, [], [], false⟩,
        ⟨some 8, .convInt .u64, [.t 7], none, [], [], false⟩,
        ⟨some 9, .bin .rem, [.t 6, .t 8], none, [], [], false⟩,
        ⟨some 10, .convInt .i64, [.t 9], none, [], [], false⟩,
        ⟨some 4, .id, [.t 10], none, [], [], false⟩])
      .ret))
def f_play_Mod : IFn := ⟨11, 0, [.tmp 4], f_play_Mod_B⟩
def f_play_Items_L0 : ICode :=
  (.seq
    (.seq
      (.ops [
        ⟨some 6, .id, [.t 4], none, [], [], false⟩,
        ⟨some 7, .bin .lss, [.t 6, .c (.int .i64 8)], none, [], [], false⟩])
      (.cond (.t 7)
        .skip
        (.exit 0)))
    (.seq
      (.block 1
        (.seq
          (.ops [
            ⟨some 10, .id, [.t 4], none, [], [], false⟩,
            ⟨some 11, .call "haberdash/haberdashplay.Sku" [], [.t 10], none, [], [], false⟩,
            ⟨some 12, .id, [.t 4], none, [], [], false⟩,
            ⟨some 13, .call "haberdash/haberdashplay.Category" [], [.t 12], none, [], [], false⟩,
            ⟨some 14, .id, [.t 4], none, [], [], false⟩,
            ⟨some 15, .bin .mul, [.c (.int .i64 37), .t 14], none, [], [], false⟩,
            ⟨some 16, .bin .add, [.c (.int .i64 100), .t 15], none, [], [], false⟩,
            ⟨some 17, .build [(.string ⟨#[]⟩), (.string ⟨#[]⟩), (.int .i64 0), (.bool false)] [(0, 1), (1, 1), (2, 1)], [.t 11, .t 13, .t 16], none, [], [], false⟩,
            ⟨some 5, .alloc 1 [(.string ⟨#[]⟩), (.string ⟨#[]⟩), (.int .i64 0), (.bool false)] [], [], none, [], [], false⟩,
            ⟨none, .store 4 false, [.t 5, .t 17], none, [], [], false⟩])
          (.seq
            (.seq
              (.ops [
                ⟨some 18, .id, [.t 4], none, [], [], false⟩,
                ⟨some 19, .id, [.t 0], none, [], [], false⟩,
                ⟨some 20, .lenSlice, [.t 19], none, [], [], false⟩,
                ⟨some 21, .bin .lss, [.t 18, .t 20], none, [], [], false⟩])
              (.cond (.t 21)
                (.draw [
                  ⟨some 22, .id, [.t 0], none, [], [], false⟩,
                  ⟨some 23, .id, [.t 4], none, [], [], false⟩,
                  ⟨some 24, .indexAddr 4, [.t 22, .t 23], none, [], [], false⟩,
                  ⟨some 25, .fieldAddr 1, [.t 24], none, [], [], false⟩,
                  ⟨some 26, .load 1 false, [.t 25], none, [], [], false⟩,
                  ⟨some 27, .call "haberdash/haberdashplay.pick" [], [.t 26], none, [], [], false⟩,
                  ⟨some 28, .call "haberdash/haberdashplay.Category" [], [.t 27], none, [], [], false⟩,
                  ⟨some 29, .id, [.t 0], none, [], [], false⟩,
                  ⟨some 30, .id, [.t 4], none, [], [], false⟩,
                  ⟨some 31, .indexAddr 4, [.t 29, .t 30], none, [], [], false⟩,
                  ⟨some 32, .fieldAddr 2, [.t 31], none, [], [], false⟩,
                  ⟨some 33, .load 1 false, [.t 32], none, [], [], false⟩,
                  ⟨some 34, .call "haberdash/haberdashplay.Mod64" [], [.t 33, .c (.int .i64 4000)], none, [], [], false⟩,
                  ⟨some 35, .id, [.t 0], none, [], [], false⟩,
                  ⟨some 36, .id, [.t 4], none, [], [], false⟩,
                  ⟨some 37, .indexAddr 4, [.t 35, .t 36], none, [], [], false⟩,
                  ⟨some 38, .fieldAddr 3, [.t 37], none, [], [], false⟩,
                  ⟨some 39, .load 1 false, [.t 38], none, [], [], false⟩,
                  ⟨some 40, .id, [.t 39], none, [], [], false⟩,
                  ⟨some 41, .id, [.t 4], (some (40, true)), [], [], false⟩,
                  ⟨some 42, .bin .eql, [.t 41, .c (.int .i64 7)], (some (40, true)), [], [], false⟩,
                  ⟨some 43, .pick, [.t 40, .t 42, .c (.bool false)], none, [], [], false⟩,
                  ⟨some 44, .fieldAddr 1, [.t 5], none, [], [], false⟩,
                  ⟨none, .store 1 false, [.t 44, .t 28], none, [], [1], false⟩,
                  ⟨some 45, .fieldAddr 2, [.t 5], none, [], [], false⟩,
                  ⟨none, .store 1 false, [.t 45, .t 34], none, [], [1], false⟩,
                  ⟨some 46, .fieldAddr 3, [.t 5], none, [], [], false⟩,
                  ⟨none, .store 1 false, [.t 46, .t 43], none, [], [1], false⟩])
                .skip))
            (.ops [
              ⟨some 47, .id, [.t 3], none, [], [], false⟩,
              ⟨some 48, .load 4 true, [.t 5], none, [], [], false⟩,
              ⟨some 49, .buildSlice 2 false 4 1 [(.string ⟨#[]⟩), (.string ⟨#[]⟩), (.int .i64 0), (.bool false)] [(0, 4)], [.t 48], none, [], [], false⟩,
              ⟨some 50, .append 3 false 4 48, [.t 47, .t 49], none, [], [], false⟩,
              ⟨some 3, .id, [.t 50], none, [], [], false⟩]))))
      (.ops [
        ⟨some 8, .id, [.t 4], none, [], [], false⟩,
        ⟨some 9, .bin .add, [.t 8, .c (.int .i64 1)], none, [], [], false⟩,
        ⟨some 4, .id, [.t 9], none, [], [], false⟩])))
def f_play_Items_B : ICode :=
  (.seq
    (.ops [
      ⟨some 2, .id, [.c (.slice none 0 0)], none, [], [], false⟩])
    (.seq
      (.ops [
        ⟨some 3, .nilv 0 4, [.c (.slice none 0 0)], none, [], [], false⟩])
      (.seq
        (.seq
          (.ops [
            ⟨some 4, .id, [.c (.int .i64 0)], none, [], [], false⟩])
          (.block 0
            (.loop [1, 2, 5, 6, 7, 8, 9, 10, 11, 12, 13, 14, 15, 16, 17, 18, 19, 20, 21, 22, 23, 24, 25, 26, 27, 28, 29, 30, 31, 32, 33, 34, 35, 36, 37, 38, 39, 40, 41, 42, 43, 44, 45, 46, 47, 48, 49, 50, 51] [1, 2, 3] f_play_Items_L0)))
        (.seq
          (.ops [
            ⟨some 51, .id, [.t 3], none, [], [], false⟩,
            ⟨some 2, .id, [.t 51], none, [], [], false⟩])
          .ret))))
def f_play_Items : IFn := ⟨52, 4, [.tmp 2], f_play_Items_B⟩
def f_play_pick_L0 : ICode :=
  (.seq
    (.seq
      (.ops [
        ⟨some 7, .id, [.t 4], none, [], [], false⟩,
        ⟨some 8, .id, [.t 0], none, [], [], false⟩,
        ⟨some 9, .lenStr, [.t 8], none, [], [], false⟩,
        ⟨some 10, .bin .lss, [.t 7, .t 9], none, [], [], false⟩,
        ⟨some 11, .id, [.t 10], none, [], [], false⟩,
        ⟨some 12, .id, [.t 4], (some (11, true)), [], [], false⟩,
        ⟨some 13, .bin .lss, [.t 12, .c (.int .i64 8)], (some (11, true)), [], [], false⟩,
        ⟨some 14, .pick, [.t 11, .t 13, .c (.bool false)], none, [], [], false⟩])
      (.cond (.t 14)
        .skip
        (.exit 0)))
    (.seq
      (.block 1
        (.ops [
          ⟨some 17, .id, [.t 3], none, [], [], false⟩,
          ⟨some 18, .bin .mul, [.c (.int .i64 7), .t 17], none, [], [], false⟩,
          ⟨some 19, .id, [.t 0], none, [], [], false⟩,
          ⟨some 20, .id, [.t 4], none, [], [], false⟩,
          ⟨some 21, .indexStr, [.t 19, .t 20], none, [], [], false⟩,
          ⟨some 22, .convInt .i64, [.t 21], none, [], [], false⟩,
          ⟨some 23, .bin .add, [.t 18, .t 22], none, [], [], false⟩,
          ⟨some 3, .id, [.t 23], none, [], [], false⟩]))
      (.ops [
        ⟨some 15, .id, [.t 4], none, [], [], false⟩,
        ⟨some 16, .bin .add, [.t 15, .c (.int .i64 1)], none, [], [], false⟩,
        ⟨some 4, .id, [.t 16], none, [], [], false⟩])))
def f_play_pick_B : ICode :=
  (.seq
    (.ops [
      ⟨some 2, .id, [.c (.int .i64 0)], none, [], [], false⟩])
    (.seq
      (.ops [
        ⟨some 5, .id, [.t 0], none, [], [], false⟩,
        ⟨some 6, .lenStr, [.t 5], none, [], [], false⟩,
        ⟨some 3, .id, [.t 6], none, [], [], false⟩])
      (.seq
        (.seq
          (.ops [
            ⟨some 4, .id, [.c (.int .i64 0)], none, [], [], false⟩])
          (.block 0
            (.loop [1, 2, 5, 6, 7, 8, 9, 10, 11, 12, 13, 14, 15, 16, 17, 18, 19, 20, 21, 22, 23, 24] [] f_play_pick_L0)))
        (.seq
          (.ops [
            ⟨some 24, .id, [.t 3], none, [], [], false⟩,
            ⟨some 2, .id, [.t 24], none, [], [], false⟩])
          .ret))))
def f_play_pick : IFn := ⟨25, 0, [.tmp 2], f_play_pick_B⟩
def f_play_Mod64_B : ICode :=
  (.seq
    (.ops [
      ⟨some 4, .id, [.c (.int .i64 0)], none, [], [], false⟩])
    (.seq
      (.ops [
        ⟨some 5, .id, [.t 0], none, [], [], false⟩,
        ⟨some 6, .convInt .u64, [.t 5], none, [], [], false⟩,
        ⟨some 7, .id, [.t 1], none, [], [], false⟩,
        ⟨some 8, .convInt .u64, [.t 7], none, [], [], false⟩,
        ⟨some 9, .bin .rem, [.t 6, .t 8], none, [], [], false⟩,
        ⟨some 10, .convInt .i64, [.t 9], none, [], [], false⟩,
        ⟨some 4, .id, [.t 10], none, [], [], false⟩])
      .ret))
def f_play_Mod64 : IFn := ⟨11, 0, [.tmp 4], f_play_Mod64_B⟩
def f_goods_Rise_L0 : ICode :=
  (.seq
    (.ops [
      ⟨some 7, .bin .lss, [.t 6, .t 5], none, [], [], false⟩])
    (.seq
      (.cond (.t 7)
        .skip
        (.exit 0))
      (.seq
        (.block 1
          (.seq
            (.ops [
              ⟨some 8, .id, [.t 6], none, [], [], false⟩,
              ⟨some 3, .id, [.t 8], none, [], [], false⟩])
            (.seq
              (.draw [
                ⟨some 9, .id, [.t 3], none, [], [], false⟩,
                ⟨some 10, .bin .gtr, [.t 9, .c (.int .i64 0)], none, [], [], false⟩,
                ⟨some 11, .id, [.t 10], none, [], [], false⟩,
                ⟨some 12, .id, [.t 0], (some (11, true)), [], [], false⟩,
                ⟨some 13, .id, [.t 3], (some (11, true)), [], [], false⟩,
                ⟨some 14, .bin .sub, [.t 13, .c (.int .i64 1)], (some (11, true)), [], [], false⟩,
                ⟨some 15, .indexAddr 1, [.t 12, .t 14], (some (11, true)), [], [], false⟩,
                ⟨some 16, .load 1 false, [.t 15], (some (11, true)), [], [], false⟩,
                ⟨some 17, .id, [.t 0], (some (11, true)), [], [], false⟩,
                ⟨some 18, .id, [.t 3], (some (11, true)), [], [], false⟩,
                ⟨some 19, .indexAddr 1, [.t 17, .t 18], (some (11, true)), [], [], false⟩,
                ⟨some 20, .load 1 false, [.t 19], (some (11, true)), [], [], false⟩,
                ⟨some 21, .bin .geq, [.t 16, .t 20], (some (11, true)), [], [], false⟩,
                ⟨some 22, .pick, [.t 11, .t 21, .c (.bool false)], none, [], [], false⟩])
              (.cond (.t 22)
                (.seq
                  (.ops [
                    ⟨some 2, .id, [.c (.bool false)], none, [], [], false⟩])
                  .ret)
                .skip))))
        (.ops [
          ⟨some 23, .bin .add, [.t 6, .c (.int .i64 1)], none, [], [], false⟩,
          ⟨some 6, .id, [.t 23], none, [], [], false⟩]))))
def f_goods_Rise_B : ICode :=
  (.seq
    (.ops [
      ⟨some 2, .id, [.c (.bool false)], none, [], [], false⟩])
    (.seq
      (.seq
        (.ops [
          ⟨some 4, .id, [.t 0], none, [], [], false⟩,
          ⟨some 5, .lenSlice, [.t 4], none, [], [], false⟩,
          ⟨some 6, .id, [.c (.int .i64 0)], none, [], [], false⟩])
        (.block 0
          (.loop [1, 2, 3, 4, 7, 8, 9, 10, 11, 12, 13, 14, 15, 16, 17, 18, 19, 20, 21, 22, 23] [] f_goods_Rise_L0)))
      (.seq
        (.ops [
          ⟨some 2, .id, [.c (.bool true)], none, [], [], false⟩])
        .ret)))
def f_goods_Rise : IFn := ⟨24, 0, [.tmp 2], f_goods_Rise_B⟩
def f_ref10_Name_L0 : ICode :=
  (.seq
    (.seq
      (.ops [
        ⟨some 5, .id, [.t 3], none, [], [], false⟩,
        ⟨some 6, .id, [.t 0], none, [], [], false⟩,
        ⟨some 7, .lenStr, [.t 6], none, [], [], false⟩,
        ⟨some 8, .bin .lss, [.t 5, .t 7], none, [], [], false⟩])
      (.cond (.t 8)
        .skip
        (.exit 0)))
    (.seq
      (.block 1
        (.seq
          (.ops [
            ⟨some 11, .id, [.t 0], none, [], [], false⟩,
            ⟨some 12, .id, [.t 3], none, [], [], false⟩,
            ⟨some 13, .indexStr, [.t 11, .t 12], none, [], [], false⟩,
            ⟨some 4, .id, [.t 13], none, [], [], false⟩])
          (.seq
            (.ops [
              ⟨some 14, .id, [.t 4], none, [], [], false⟩,
              ⟨some 15, .bin .geq, [.t 14, .c (.int .u8 97)], none, [], [], false⟩,
              ⟨some 16, .id, [.t 15], none, [], [], false⟩,
              ⟨some 17, .id, [.t 4], (some (16, true)), [], [], false⟩,
              ⟨some 18, .bin .leq, [.t 17, .c (.int .u8 122)], (some (16, true)), [], [], false⟩,
              ⟨some 19, .pick, [.t 16, .t 18, .c (.bool false)], none, [], [], false⟩,
              ⟨some 20, .id, [.t 19], none, [], [], false⟩,
              ⟨some 21, .id, [.t 4], (some (20, false)), [], [], false⟩,
              ⟨some 22, .bin .geq, [.t 21, .c (.int .u8 48)], (some (20, false)), [], [], false⟩,
              ⟨some 23, .id, [.t 22], (some (20, false)), [], [], false⟩,
              ⟨some 24, .id, [.t 4], (some (23, true)), [], [], false⟩,
              ⟨some 25, .bin .leq, [.t 24, .c (.int .u8 57)], (some (23, true)), [], [], false⟩,
              ⟨some 26, .pick, [.t 23, .t 25, .c (.bool false)], (some (20, false)), [], [], false⟩,
              ⟨some 27, .pick, [.t 20, .c (.bool true), .t 26], none, [], [], false⟩,
              ⟨some 28, .id, [.t 27], none, [], [], false⟩,
              ⟨some 29, .id, [.t 4], (some (28, false)), [], [], false⟩,
              ⟨some 30, .bin .eql, [.t 29, .c (.int .u8 45)], (some (28, false)), [], [], false⟩,
              ⟨some 31, .pick, [.t 28, .c (.bool true), .t 30], none, [], [], false⟩,
              ⟨some 32, .un .not, [.t 31], none, [], [], false⟩])
            (.cond (.t 32)
              (.seq
                (.ops [
                  ⟨some 2, .id, [.c (.bool false)], none, [], [], false⟩])
                .ret)
              .skip))))
      (.ops [
        ⟨some 9, .id, [.t 3], none, [], [], false⟩,
        ⟨some 10, .bin .add, [.t 9, .c (.int .i64 1)], none, [], [], false⟩,
        ⟨some 3, .id, [.t 10], none, [], [], false⟩])))
def f_ref10_Name_B : ICode :=
  (.seq
    (.ops [
      ⟨some 2, .id, [.c (.bool false)], none, [], [], false⟩])
    (.seq
      (.seq
        (.ops [
          ⟨some 3, .id, [.c (.int .i64 0)], none, [], [], false⟩])
        (.block 0
          (.loop [1, 2, 4, 5, 6, 7, 8, 9, 10, 11, 12, 13, 14, 15, 16, 17, 18, 19, 20, 21, 22, 23, 24, 25, 26, 27, 28, 29, 30, 31, 32, 33, 34, 35, 36, 37, 38, 39, 40] [] f_ref10_Name_L0)))
      (.seq
        (.ops [
          ⟨some 33, .id, [.t 0], none, [], [], false⟩,
          ⟨some 34, .lenStr, [.t 33], none, [], [], false⟩,
          ⟨some 35, .bin .geq, [.t 34, .c (.int .i64 1)], none, [], [], false⟩,
          ⟨some 36, .id, [.t 35], none, [], [], false⟩,
          ⟨some 37, .id, [.t 0], (some (36, true)), [], [], false⟩,
          ⟨some 38, .lenStr, [.t 37], (some (36, true)), [], [], false⟩,
          ⟨some 39, .bin .leq, [.t 38, .c (.int .i64 12)], (some (36, true)), [], [], false⟩,
          ⟨some 40, .pick, [.t 36, .t 39, .c (.bool false)], none, [], [], false⟩,
          ⟨some 2, .id, [.t 40], none, [], [], false⟩])
        .ret)))
def f_ref10_Name : IFn := ⟨41, 0, [.tmp 2], f_ref10_Name_B⟩
def f_goods_Name_L0 : ICode :=
  (.seq
    (.ops [
      ⟨some 16, .bin .lss, [.t 15, .t 14], none, [], [], false⟩])
    (.seq
      (.cond (.t 16)
        .skip
        (.exit 0))
      (.seq
        (.block 1
          (.seq
            (.ops [
              ⟨some 17, .id, [.t 15], none, [], [], false⟩,
              ⟨some 3, .id, [.t 17], none, [], [], false⟩])
            (.seq
              (.ops [
                ⟨some 18, .id, [.t 0], none, [], [], false⟩,
                ⟨some 19, .id, [.t 3], none, [], [], false⟩,
                ⟨some 20, .indexStr, [.t 18, .t 19], none, [], [], false⟩,
                ⟨some 4, .id, [.t 20], none, [], [], false⟩])
              (.seq
                (.ops [
                  ⟨some 21, .id, [.t 4], none, [], [], false⟩,
                  ⟨some 22, .bin .neq, [.t 21, .c (.int .u8 45)], none, [], [], false⟩,
                  ⟨some 23, .id, [.t 22], none, [], [], false⟩,
                  ⟨some 24, .id, [.t 4], (some (23, true)), [], [], false⟩,
                  ⟨some 25, .bin .lss, [.t 24, .c (.int .u8 48)], (some (23, true)), [], [], false⟩,
                  ⟨some 26, .id, [.t 25], (some (23, true)), [], [], false⟩,
                  ⟨some 27, .id, [.t 4], (some (26, false)), [], [], false⟩,
                  ⟨some 28, .bin .gtr, [.t 27, .c (.int .u8 57)], (some (26, false)), [], [], false⟩,
                  ⟨some 29, .pick, [.t 26, .c (.bool true), .t 28], (some (23, true)), [], [], false⟩,
                  ⟨some 30, .pick, [.t 23, .t 29, .c (.bool false)], none, [], [], false⟩,
                  ⟨some 31, .id, [.t 30], none, [], [], false⟩,
                  ⟨some 32, .id, [.t 4], (some (31, true)), [], [], false⟩,
                  ⟨some 33, .bin .lss, [.t 32, .c (.int .u8 97)], (some (31, true)), [], [], false⟩,
                  ⟨some 34, .id, [.t 33], (some (31, true)), [], [], false⟩,
                  ⟨some 35, .id, [.t 4], (some (34, false)), [], [], false⟩,
                  ⟨some 36, .bin .gtr, [.t 35, .c (.int .u8 122)], (some (34, false)), [], [], false⟩,
                  ⟨some 37, .pick, [.t 34, .c (.bool true), .t 36], (some (31, true)), [], [], false⟩,
                  ⟨some 38, .pick, [.t 31, .t 37, .c (.bool false)], none, [], [], false⟩])
                (.cond (.t 38)
                  (.seq
                    (.ops [
                      ⟨some 2, .id, [.c (.bool false)], none, [], [], false⟩])
                    .ret)
                  .skip)))))
        (.ops [
          ⟨some 39, .bin .add, [.t 15, .c (.int .i64 1)], none, [], [], false⟩,
          ⟨some 15, .id, [.t 39], none, [], [], false⟩]))))
def f_goods_Name_B : ICode :=
  (.seq
    (.ops [
      ⟨some 2, .id, [.c (.bool false)], none, [], [], false⟩])
    (.seq
      (.seq
        (.ops [
          ⟨some 5, .id, [.t 0], none, [], [], false⟩,
          ⟨some 6, .lenStr, [.t 5], none, [], [], false⟩,
          ⟨some 7, .bin .lss, [.t 6, .c (.int .i64 1)], none, [], [], false⟩,
          ⟨some 8, .id, [.t 7], none, [], [], false⟩,
          ⟨some 9, .id, [.t 0], (some (8, false)), [], [], false⟩,
          ⟨some 10, .lenStr, [.t 9], (some (8, false)), [], [], false⟩,
          ⟨some 11, .bin .gtr, [.t 10, .c (.int .i64 12)], (some (8, false)), [], [], false⟩,
          ⟨some 12, .pick, [.t 8, .c (.bool true), .t 11], none, [], [], false⟩])
        (.cond (.t 12)
          (.seq
            (.ops [
              ⟨some 2, .id, [.c (.bool false)], none, [], [], false⟩])
            .ret)
          .skip))
      (.seq
        (.seq
          (.ops [
            ⟨some 13, .id, [.t 0], none, [], [], false⟩,
            ⟨some 14, .lenStr, [.t 13], none, [], [], false⟩,
            ⟨some 15, .id, [.c (.int .i64 0)], none, [], [], false⟩])
          (.block 0
            (.loop [1, 2, 3, 4, 5, 6, 7, 8, 9, 10, 11, 12, 13, 16, 17, 18, 19, 20, 21, 22, 23, 24, 25, 26, 27, 28, 29, 30, 31, 32, 33, 34, 35, 36, 37, 38, 39] [] f_goods_Name_L0)))
        (.seq
          (.ops [
            ⟨some 2, .id, [.c (.bool true)], none, [], [], false⟩])
          .ret))))
def f_goods_Name : IFn := ⟨40, 0, [.tmp 2], f_goods_Name_B⟩
end Go.AM
namespace Go.AM
variable {prog : String → Option IFn}
abbrev Txt := List UInt8
theorem less_total : ∀ (a b : Txt), (!(Op.bytesLess a b)) = (Op.bytesLess b a || b == a)
  | [], [] => rfl
  | [], _ :: _ => rfl
  | _ :: _, [] => rfl
  | a :: x, b :: y => by
    have ih := less_total x y
    simp only [Op.bytesLess]
    by_cases h1 : a < b
    · have h2 : ¬ b < a := fun h => by have := UInt8.lt_iff_toNat_lt.1 h; have := UInt8.lt_iff_toNat_lt.1 h1; omega
      have h3 : b ≠ a := fun h => by rw [h] at h1; exact absurd (UInt8.lt_iff_toNat_lt.1 h1) (by omega)
      simp [h1, h2, h3]
    · by_cases h2 : b < a
      · have h3 : a ≠ b := fun h => by rw [h] at h2; exact absurd (UInt8.lt_iff_toNat_lt.1 h2) (by omega)
        simp [h1, h2, h3]
      · have h3 : a = b := UInt8.toNat_inj.1 (by
          have a1 : ¬ a.toNat < b.toNat := fun h => h1 (UInt8.lt_iff_toNat_lt.2 h)
          have a2 : ¬ b.toNat < a.toNat := fun h => h2 (UInt8.lt_iff_toNat_lt.2 h)
          omega)
        subst h3
        simpa [h1] using ih
end Go.AM
