import Derived.Test.YtdcnjckkcfoppaaAMA
import Derived.Test.YtdcnjckkcfoppaaScopeA
import Derived.Test.YtdcnjckkcfoppaaScopeB
import Derived.Test.YtdcnjckkcfoppaaAME
set_option linter.unusedVariables false
set_option linter.unusedSimpArgs false
namespace Go.AM
def f_law10_awake_B : ICode :=
  (.seq
    (.ops [
      ⟨some 0, .id, [.c (.bool false)], none, [], [], false⟩])
    (.seq
      (.ops [
        ⟨some 2, .build [(.string ⟨#[]⟩), (.string ⟨#[]⟩), (.int .i64 0), (.bool false)] [(0, 1), (1, 1), (2, 1)], [.c (.string ⟨#[97]⟩), .c (.string ⟨#[120]⟩), .c (.int .i64 5)], none, [], [], false⟩,
        ⟨some 3, .build [(.string ⟨#[]⟩), (.string ⟨#[]⟩), (.int .i64 0), (.bool false)] [(0, 1), (1, 1)], [.c (.string ⟨#[98]⟩), .c (.string ⟨#[120]⟩)], none, [], [], false⟩,
        ⟨some 4, .buildSlice 0 false 4 2 [(.string ⟨#[]⟩), (.string ⟨#[]⟩), (.int .i64 0), (.bool false)] [(0, 4), (4, 4)], [.t 2, .t 3], none, [], [], false⟩,
        ⟨some 1, .id, [.t 4], none, [], [], false⟩])
      (.seq
        (.ops [
          ⟨some 5, .call "haberdash/goods.Name" [], [.c (.string ⟨#[97, 45, 49]⟩)], none, [], [], false⟩,
          ⟨some 6, .id, [.t 5], none, [], [], false⟩,
          ⟨some 7, .call "haberdash/goods.Name" [], [.c (.string ⟨#[65]⟩)], (some (6, true)), [], [], false⟩,
          ⟨some 8, .un .not, [.t 7], (some (6, true)), [], [], false⟩,
          ⟨some 9, .pick, [.t 6, .t 8, .c (.bool false)], none, [], [], false⟩,
          ⟨some 10, .id, [.t 9], none, [], [], false⟩,
          ⟨some 11, .id, [.t 1], (some (10, true)), [], [], false⟩,
          ⟨some 12, .call "haberdash/goods.Right" [], [.t 11], (some (10, true)), [], [], false⟩,
          ⟨some 13, .pick, [.t 10, .t 12, .c (.bool false)], none, [], [], false⟩,
          ⟨some 14, .id, [.t 13], none, [], [], false⟩,
          ⟨some 15, .id, [.t 1], (some (14, true)), [], [], false⟩,
          ⟨some 16, .call "haberdash/goods.Find" [], [.t 15, .c (.string ⟨#[98]⟩)], (some (14, true)), [], [], false⟩,
          ⟨some 17, .bin .eql, [.t 16, .c (.int .i64 1)], (some (14, true)), [], [], false⟩,
          ⟨some 18, .pick, [.t 14, .t 17, .c (.bool false)], none, [], [], false⟩,
          ⟨some 19, .id, [.t 18], none, [], [], false⟩,
          ⟨some 20, .id, [.t 1], (some (19, true)), [], [], false⟩,
          ⟨some 21, .call "haberdash/goods.Find" [], [.t 20, .c (.string ⟨#[99]⟩)], (some (19, true)), [], [], false⟩,
          ⟨some 22, .bin .eql, [.t 21, .c (.int .i64 (-1))], (some (19, true)), [], [], false⟩,
          ⟨some 23, .pick, [.t 19, .t 22, .c (.bool false)], none, [], [], false⟩,
          ⟨some 0, .id, [.t 23], none, [], [], false⟩])
        .ret)))
def f_law10_awake : IFn := ⟨24, 1, [.tmp 0], f_law10_awake_B⟩
def f_help_Own_api_Item__L0 : ICode :=
  (.seq
    (.seq
      (.ops [
        ⟨some 22, .id, [.t 7], none, [], [], false⟩,
        ⟨some 23, .id, [.t 6], none, [], [], false⟩,
        ⟨some 24, .lenSlice, [.t 23], none, [], [], false⟩,
        ⟨some 25, .bin .lss, [.t 22, .t 24], none, [], [], false⟩])
      (.cond (.t 25)
        .skip
        (.exit 0)))
    (.seq
      (.block 1
        (.ops [
          ⟨some 28, .id, [.t 6], none, [], [], false⟩,
          ⟨some 29, .id, [.t 7], none, [], [], false⟩,
          ⟨some 30, .load 4 true, [.t 3], none, [], [], false⟩,
          ⟨some 31, .indexAddr 4, [.t 28, .t 29], none, [], [], false⟩,
          ⟨none, .store 4 false, [.t 31, .t 30], none, [], [], false⟩]))
      (.ops [
        ⟨some 26, .id, [.t 7], none, [], [], false⟩,
        ⟨some 27, .bin .add, [.t 26, .c (.int .i64 1)], none, [], [], false⟩,
        ⟨some 7, .id, [.t 27], none, [], [], false⟩])))
def f_help_Own_api_Item__B : ICode :=
  (.seq
    (.ops [
      ⟨some 3, .box 0, [.t 1], none, [], [], false⟩,
      ⟨some 4, .id, [.c (.slice none 0 0)], none, [], [], false⟩])
    (.seq
      (.ops [
        ⟨some 8, .id, [.t 0], none, [], [], false⟩,
        ⟨some 9, .lenSlice, [.t 8], none, [], [], false⟩,
        ⟨some 10, .bin .add, [.t 9, .c (.int .i64 3)], none, [], [], false⟩,
        ⟨some 11, .makeSlice 1 4 48 [(.string ⟨#[]⟩), (.string ⟨#[]⟩), (.int .i64 0), (.bool false)], [.c (.int .i64 0), .t 10], none, [], [], false⟩,
        ⟨some 5, .id, [.t 11], none, [], [], false⟩])
      (.seq
        (.ops [
          ⟨some 12, .id, [.t 5], none, [], [], false⟩,
          ⟨some 13, .id, [.t 0], none, [], [], false⟩,
          ⟨some 14, .append 2 false 4 48, [.t 12, .t 13], none, [], [], false⟩,
          ⟨some 5, .id, [.t 14], none, [], [], false⟩])
        (.seq
          (.ops [
            ⟨some 15, .id, [.t 5], none, [], [], false⟩,
            ⟨some 16, .id, [.t 0], none, [], [], false⟩,
            ⟨some 17, .lenSlice, [.t 16], none, [], [], false⟩,
            ⟨some 18, .bin .add, [.t 17, .c (.int .i64 3)], none, [], [], false⟩,
            ⟨some 19, .slice 4 false true false, [.t 15, .t 18], none, [], [], false⟩,
            ⟨some 6, .id, [.t 19], none, [], [], false⟩])
          (.seq
            (.seq
              (.ops [
                ⟨some 20, .id, [.t 0], none, [], [], false⟩,
                ⟨some 21, .lenSlice, [.t 20], none, [], [], false⟩,
                ⟨some 7, .id, [.t 21], none, [], [], false⟩])
              (.block 0
                (.loop [0, 1, 2, 4, 8, 9, 10, 11, 12, 13, 14, 15, 16, 17, 18, 19, 20, 21, 22, 23, 24, 25, 26, 27, 28, 29, 30, 31, 32] [] f_help_Own_api_Item__L0)))
            (.seq
              (.ops [
                ⟨some 32, .id, [.t 5], none, [], [], false⟩,
                ⟨some 4, .id, [.t 32], none, [], [], false⟩])
              .ret))))))
def f_help_Own_api_Item_ : IFn := ⟨33, 3, [.tmp 4], f_help_Own_api_Item__B⟩
def f_goods_Right_L0 : ICode :=
  (.seq
    (.ops [
      ⟨some 12, .bin .lss, [.t 11, .t 10], none, [], [], false⟩])
    (.seq
      (.cond (.t 12)
        .skip
        (.exit 0))
      (.seq
        (.block 1
          (.seq
            (.ops [
              ⟨some 13, .indexAddr 4, [.t 9, .t 11], none, [], [], false⟩,
              ⟨some 14, .load 4 true, [.t 13], none, [], [], false⟩,
              ⟨some 5, .alloc 1 [(.string ⟨#[]⟩), (.string ⟨#[]⟩), (.int .i64 0), (.bool false)] [], [], none, [], [], false⟩,
              ⟨none, .store 4 false, [.t 5, .t 14], none, [], [], false⟩])
            (.seq
              (.seq
                (.ops [
                  ⟨some 15, .fieldAddr 0, [.t 5], none, [], [], false⟩,
                  ⟨some 16, .load 1 false, [.t 15], none, [], [], false⟩,
                  ⟨some 17, .call "haberdash/goods.Name" [], [.t 16], none, [], [], false⟩,
                  ⟨some 18, .un .not, [.t 17], none, [], [], false⟩,
                  ⟨some 19, .id, [.t 18], none, [], [], false⟩,
                  ⟨some 20, .fieldAddr 1, [.t 5], (some (19, false)), [], [], false⟩,
                  ⟨some 21, .load 1 false, [.t 20], (some (19, false)), [], [], false⟩,
                  ⟨some 22, .call "haberdash/goods.Name" [], [.t 21], (some (19, false)), [], [], false⟩,
                  ⟨some 23, .un .not, [.t 22], (some (19, false)), [], [], false⟩,
                  ⟨some 24, .pick, [.t 19, .c (.bool true), .t 23], none, [], [], false⟩,
                  ⟨some 25, .id, [.t 24], none, [], [], false⟩,
                  ⟨some 26, .fieldAddr 2, [.t 5], (some (25, false)), [], [], false⟩,
                  ⟨some 27, .load 1 false, [.t 26], (some (25, false)), [], [], false⟩,
                  ⟨some 28, .bin .lss, [.t 27, .c (.int .i64 0)], (some (25, false)), [], [], false⟩,
                  ⟨some 29, .pick, [.t 25, .c (.bool true), .t 28], none, [], [], false⟩,
                  ⟨some 30, .id, [.t 29], none, [], [], false⟩,
                  ⟨some 31, .fieldAddr 2, [.t 5], (some (30, false)), [], [], false⟩,
                  ⟨some 32, .load 1 false, [.t 31], (some (30, false)), [], [], false⟩,
                  ⟨some 33, .bin .gtr, [.t 32, .c (.int .i64 1000000000)], (some (30, false)), [], [], false⟩,
                  ⟨some 34, .pick, [.t 30, .c (.bool true), .t 33], none, [], [], false⟩])
                (.cond (.t 34)
                  (.seq
                    (.ops [
                      ⟨some 2, .id, [.c (.bool false)], none, [], [], false⟩])
                    .ret)
                  .skip))
              (.ops [
                ⟨some 35, .id, [.t 3], none, [], [], false⟩,
                ⟨some 36, .fieldAddr 0, [.t 5], none, [], [], false⟩,
                ⟨some 37, .load 1 false, [.t 36], none, [], [], false⟩,
                ⟨some 38, .buildSlice 2 false 1 1 [(.string ⟨#[]⟩)] [(0, 1)], [.t 37], none, [], [], false⟩,
                ⟨some 39, .append 3 false 1 16, [.t 35, .t 38], none, [], [], false⟩,
                ⟨some 3, .id, [.t 39], none, [], [], false⟩]))))
        (.ops [
          ⟨some 40, .bin .add, [.t 11, .c (.int .i64 1)], none, [], [], false⟩,
          ⟨some 11, .id, [.t 40], none, [], [], false⟩]))))
def f_goods_Right_B : ICode :=
  (.seq
    (.ops [
      ⟨some 2, .id, [.c (.bool false)], none, [], [], false⟩])
    (.seq
      (.seq
        (.ops [
          ⟨some 6, .id, [.t 0], none, [], [], false⟩,
          ⟨some 7, .lenSlice, [.t 6], none, [], [], false⟩,
          ⟨some 8, .bin .gtr, [.t 7, .c (.int .i64 500)], none, [], [], false⟩])
        (.cond (.t 8)
          (.seq
            (.ops [
              ⟨some 2, .id, [.c (.bool false)], none, [], [], false⟩])
            .ret)
          .skip))
      (.seq
        (.ops [
          ⟨some 3, .nilv 0 1, [.c (.slice none 0 0)], none, [], [], false⟩])
        (.seq
          (.seq
            (.ops [
              ⟨some 9, .id, [.t 0], none, [], [], false⟩,
              ⟨some 10, .lenSlice, [.t 9], none, [], [], false⟩,
              ⟨some 11, .id, [.c (.int .i64 0)], none, [], [], false⟩])
            (.block 0
              (.loop [0, 1, 2, 4, 5, 6, 7, 8, 12, 13, 14, 15, 16, 17, 18, 19, 20, 21, 22, 23, 24, 25, 26, 27, 28, 29, 30, 31, 32, 33, 34, 35, 36, 37, 38, 39, 40, 41, 42] [1, 2, 3] f_goods_Right_L0)))
          (.seq
            (.ops [
              ⟨some 41, .id, [.t 3], none, [], [], false⟩,
              ⟨some 42, .call "haberdash/goods.Rise" [], [.t 41], none, [], [], false⟩,
              ⟨some 2, .id, [.t 42], none, [], [], false⟩])
            .ret)))))
def f_goods_Right : IFn := ⟨43, 4, [.tmp 2], f_goods_Right_B⟩
def f_ref10_Goods_L0 : ICode :=
  (.seq
    (.seq
      (.ops [
        ⟨some 4, .id, [.t 3], none, [], [], false⟩,
        ⟨some 5, .id, [.t 0], none, [], [], false⟩,
        ⟨some 6, .lenSlice, [.t 5], none, [], [], false⟩,
        ⟨some 7, .bin .lss, [.t 4, .t 6], none, [], [], false⟩])
      (.cond (.t 7)
        .skip
        (.exit 0)))
    (.seq
      (.block 1
        (.seq
          (.draw [
            ⟨some 10, .id, [.t 0], none, [], [], false⟩,
            ⟨some 11, .id, [.t 3], none, [], [], false⟩,
            ⟨some 12, .indexAddr 4, [.t 10, .t 11], none, [], [], false⟩,
            ⟨some 13, .fieldAddr 0, [.t 12], none, [], [], false⟩,
            ⟨some 14, .load 1 false, [.t 13], none, [], [], false⟩,
            ⟨some 15, .call "haberdash/haberdashref10.Name" [], [.t 14], none, [], [], false⟩,
            ⟨some 16, .un .not, [.t 15], none, [], [], false⟩,
            ⟨some 17, .id, [.t 16], none, [], [], false⟩,
            ⟨some 18, .id, [.t 0], (some (17, false)), [], [], false⟩,
            ⟨some 19, .id, [.t 3], (some (17, false)), [], [], false⟩,
            ⟨some 20, .indexAddr 4, [.t 18, .t 19], (some (17, false)), [], [], false⟩,
            ⟨some 21, .fieldAddr 1, [.t 20], (some (17, false)), [], [], false⟩,
            ⟨some 22, .load 1 false, [.t 21], (some (17, false)), [], [], false⟩,
            ⟨some 23, .call "haberdash/haberdashref10.Name" [], [.t 22], (some (17, false)), [], [], false⟩,
            ⟨some 24, .un .not, [.t 23], (some (17, false)), [], [], false⟩,
            ⟨some 25, .pick, [.t 17, .c (.bool true), .t 24], none, [], [], false⟩,
            ⟨some 26, .id, [.t 25], none, [], [], false⟩,
            ⟨some 27, .id, [.t 0], (some (26, false)), [], [], false⟩,
            ⟨some 28, .id, [.t 3], (some (26, false)), [], [], false⟩,
            ⟨some 29, .indexAddr 4, [.t 27, .t 28], (some (26, false)), [], [], false⟩,
            ⟨some 30, .fieldAddr 2, [.t 29], (some (26, false)), [], [], false⟩,
            ⟨some 31, .load 1 false, [.t 30], (some (26, false)), [], [], false⟩,
            ⟨some 32, .call "haberdash/haberdashref10.in" [], [.t 31, .c (.int .i64 1000000000)], (some (26, false)), [], [], false⟩,
            ⟨some 33, .un .not, [.t 32], (some (26, false)), [], [], false⟩,
            ⟨some 34, .pick, [.t 26, .c (.bool true), .t 33], none, [], [], false⟩,
            ⟨some 35, .id, [.t 34], none, [], [], false⟩,
            ⟨some 36, .id, [.t 3], (some (35, false)), [], [], false⟩,
            ⟨some 37, .bin .gtr, [.t 36, .c (.int .i64 0)], (some (35, false)), [], [], false⟩,
            ⟨some 38, .id, [.t 37], (some (35, false)), [], [], false⟩,
            ⟨some 39, .id, [.t 0], (some (38, true)), [], [], false⟩,
            ⟨some 40, .id, [.t 3], (some (38, true)), [], [], false⟩,
            ⟨some 41, .indexAddr 4, [.t 39, .t 40], (some (38, true)), [], [], false⟩,
            ⟨some 42, .fieldAddr 0, [.t 41], (some (38, true)), [], [], false⟩,
            ⟨some 43, .load 1 false, [.t 42], (some (38, true)), [], [], false⟩,
            ⟨some 44, .id, [.t 0], (some (38, true)), [], [], false⟩,
            ⟨some 45, .id, [.t 3], (some (38, true)), [], [], false⟩,
            ⟨some 46, .bin .sub, [.t 45, .c (.int .i64 1)], (some (38, true)), [], [], false⟩,
            ⟨some 47, .indexAddr 4, [.t 44, .t 46], (some (38, true)), [], [], false⟩,
            ⟨some 48, .fieldAddr 0, [.t 47], (some (38, true)), [], [], false⟩,
            ⟨some 49, .load 1 false, [.t 48], (some (38, true)), [], [], false⟩,
            ⟨some 50, .bin .leq, [.t 43, .t 49], (some (38, true)), [], [], false⟩,
            ⟨some 51, .pick, [.t 38, .t 50, .c (.bool false)], (some (35, false)), [], [], false⟩,
            ⟨some 52, .pick, [.t 35, .c (.bool true), .t 51], none, [], [], false⟩])
          (.cond (.t 52)
            (.seq
              (.ops [
                ⟨some 2, .id, [.c (.bool false)], none, [], [], false⟩])
              .ret)
            .skip)))
      (.ops [
        ⟨some 8, .id, [.t 3], none, [], [], false⟩,
        ⟨some 9, .bin .add, [.t 8, .c (.int .i64 1)], none, [], [], false⟩,
        ⟨some 3, .id, [.t 9], none, [], [], false⟩])))
def f_ref10_Goods_B : ICode :=
  (.seq
    (.ops [
      ⟨some 2, .id, [.c (.bool false)], none, [], [], false⟩])
    (.seq
      (.seq
        (.ops [
          ⟨some 3, .id, [.c (.int .i64 0)], none, [], [], false⟩])
        (.block 0
          (.loop [1, 2, 4, 5, 6, 7, 8, 9, 10, 11, 12, 13, 14, 15, 16, 17, 18, 19, 20, 21, 22, 23, 24, 25, 26, 27, 28, 29, 30, 31, 32, 33, 34, 35, 36, 37, 38, 39, 40, 41, 42, 43, 44, 45, 46, 47, 48, 49, 50, 51, 52, 53, 54, 55] [] f_ref10_Goods_L0)))
      (.seq
        (.ops [
          ⟨some 53, .id, [.t 0], none, [], [], false⟩,
          ⟨some 54, .lenSlice, [.t 53], none, [], [], false⟩,
          ⟨some 55, .bin .leq, [.t 54, .c (.int .i64 500)], none, [], [], false⟩,
          ⟨some 2, .id, [.t 55], none, [], [], false⟩])
        .ret)))
def f_ref10_Goods : IFn := ⟨56, 0, [.tmp 2], f_ref10_Goods_B⟩
def f_goods_Find_B : ICode :=
  (.seq
    (.ops [
      ⟨some 3, .box 0, [.t 1], none, [], [], false⟩,
      ⟨some 4, .id, [.c (.int .i64 0)], none, [], [], false⟩])
    (.seq
      (.ops [
        ⟨some 8, .load 1 false, [.t 3], none, [], [], false⟩,
        ⟨some 9, .build [(.string ⟨#[]⟩), (.string ⟨#[]⟩), (.int .i64 0), (.bool false)] [(0, 1)], [.t 8], none, [], [], false⟩,
        ⟨some 5, .alloc 1 [(.string ⟨#[]⟩), (.string ⟨#[]⟩), (.int .i64 0), (.bool false)] [], [], none, [], [], false⟩,
        ⟨none, .store 4 false, [.t 5, .t 9], none, [], [], false⟩])
      (.seq
        (.seq
          (.ops [
            ⟨some 10, .id, [.t 0], none, [], [], false⟩,
            ⟨some 11, .call "slices.IsSortedFunc[[]haberdash/api.Item,haberdash/api.Item]" [], [.t 10, .f "haberdash/goods.bySku"], none, [], [], false⟩,
            ⟨some 12, .un .not, [.t 11], none, [], [], false⟩])
          (.cond (.t 12)
            (.seq
              (.ops [
                ⟨some 13, .id, [.t 0], none, [], [], false⟩,
                ⟨some 14, .makeFunc "haberdash/goods.Find$1" 0, [.t 3], none, [], [], false⟩,
                ⟨some 15, .call "slices.IndexFunc[[]haberdash/api.Item,haberdash/api.Item]" [], [.t 13, .t 14], none, [], [], false⟩,
                ⟨some 4, .id, [.t 15], none, [], [], false⟩])
              .ret)
            .skip))
        (.seq
          (.seq
            (.ops [
              ⟨some 17, .id, [.t 0], none, [], [], false⟩,
              ⟨some 18, .load 4 true, [.t 5], none, [], [], false⟩,
              ⟨some 19, .call "slices.BinarySearchFunc[[]haberdash/api.Item,haberdash/api.Item,haberdash/api.Item]" [], [.t 17, .t 18, .f "haberdash/goods.bySku"], none, [], [], false⟩,
              ⟨some 16, .id, [.t 19], none, [], [], false⟩,
              ⟨some 20, .extract 0, [.t 16], none, [], [], false⟩,
              ⟨some 21, .extract 1, [.t 16], none, [], [], false⟩,
              ⟨some 6, .id, [.t 20], none, [], [], false⟩,
              ⟨some 7, .id, [.t 21], none, [], [], false⟩])
            (.seq
              (.ops [
                ⟨some 22, .id, [.t 7], none, [], [], false⟩])
              (.cond (.t 22)
                (.seq
                  (.ops [
                    ⟨some 23, .id, [.t 6], none, [], [], false⟩,
                    ⟨some 4, .id, [.t 23], none, [], [], false⟩])
                  .ret)
                .skip)))
          (.seq
            (.ops [
              ⟨some 4, .id, [.c (.int .i64 (-1))], none, [], [], false⟩])
            .ret)))))
def f_goods_Find : IFn := ⟨24, 2, [.tmp 4], f_goods_Find_B⟩
def f_ref10_Find_L0 : ICode :=
  (.seq
    (.seq
      (.ops [
        ⟨some 6, .id, [.t 5], none, [], [], false⟩,
        ⟨some 7, .id, [.t 0], none, [], [], false⟩,
        ⟨some 8, .lenSlice, [.t 7], none, [], [], false⟩,
        ⟨some 9, .bin .lss, [.t 6, .t 8], none, [], [], false⟩])
      (.cond (.t 9)
        .skip
        (.exit 0)))
    (.seq
      (.block 1
        (.seq
          (.ops [
            ⟨some 12, .id, [.t 0], none, [], [], false⟩,
            ⟨some 13, .id, [.t 5], none, [], [], false⟩,
            ⟨some 14, .indexAddr 4, [.t 12, .t 13], none, [], [], false⟩,
            ⟨some 15, .fieldAddr 0, [.t 14], none, [], [], false⟩,
            ⟨some 16, .load 1 false, [.t 15], none, [], [], false⟩,
            ⟨some 17, .id, [.t 1], none, [], [], false⟩,
            ⟨some 18, .bin .eql, [.t 16, .t 17], none, [], [], false⟩])
          (.cond (.t 18)
            (.seq
              (.ops [
                ⟨some 19, .id, [.t 5], none, [], [], false⟩,
                ⟨some 4, .id, [.t 19], none, [], [], false⟩])
              .ret)
            .skip)))
      (.ops [
        ⟨some 10, .id, [.t 5], none, [], [], false⟩,
        ⟨some 11, .bin .add, [.t 10, .c (.int .i64 1)], none, [], [], false⟩,
        ⟨some 5, .id, [.t 11], none, [], [], false⟩])))
def f_ref10_Find_B : ICode :=
  (.seq
    (.ops [
      ⟨some 4, .id, [.c (.int .i64 0)], none, [], [], false⟩])
    (.seq
      (.seq
        (.ops [
          ⟨some 5, .id, [.c (.int .i64 0)], none, [], [], false⟩])
        (.block 0
          (.loop [2, 3, 4, 6, 7, 8, 9, 10, 11, 12, 13, 14, 15, 16, 17, 18, 19] [] f_ref10_Find_L0)))
      (.seq
        (.ops [
          ⟨some 4, .id, [.c (.int .i64 (-1))], none, [], [], false⟩])
        .ret)))
def f_ref10_Find : IFn := ⟨20, 0, [.tmp 4], f_ref10_Find_B⟩
def f_help_Kept_api_Item__L0 : ICode :=
  (.seq
    (.seq
      (.ops [
        ⟨some 28, .id, [.t 8], none, [], [], false⟩,
        ⟨some 29, .id, [.t 7], none, [], [], false⟩,
        ⟨some 30, .lenSlice, [.t 29], none, [], [], false⟩,
        ⟨some 31, .bin .lss, [.t 28, .t 30], none, [], [], false⟩])
      (.cond (.t 31)
        .skip
        (.exit 0)))
    (.seq
      (.block 1
        (.seq
          (.draw [
            ⟨some 34, .id, [.t 7], none, [], [], false⟩,
            ⟨some 35, .id, [.t 8], none, [], [], false⟩,
            ⟨some 36, .indexAddr 4, [.t 34, .t 35], none, [], [], false⟩,
            ⟨some 37, .load 4 true, [.t 36], none, [], [], false⟩,
            ⟨some 38, .load 4 true, [.t 5], none, [], [], false⟩,
            ⟨some 39, .eq true [.str, .str, .int, .bool], [.t 37, .t 38], none, [], [], false⟩])
          (.cond (.t 39)
            (.seq
              (.ops [
                ⟨some 6, .id, [.c (.bool false)], none, [], [], false⟩])
              .ret)
            .skip)))
      (.ops [
        ⟨some 32, .id, [.t 8], none, [], [], false⟩,
        ⟨some 33, .bin .add, [.t 32, .c (.int .i64 1)], none, [], [], false⟩,
        ⟨some 8, .id, [.t 33], none, [], [], false⟩])))
def f_help_Kept_api_Item__B : ICode :=
  (.seq
    (.ops [
      ⟨some 5, .box 0, [.t 2], none, [], [], false⟩,
      ⟨some 6, .id, [.c (.bool false)], none, [], [], false⟩])
    (.seq
      (.seq
        (.ops [
          ⟨some 9, .id, [.t 0], none, [], [], false⟩,
          ⟨some 10, .id, [.t 1], none, [], [], false⟩,
          ⟨some 11, .call "haberdash/haberdashhelp.Plain[haberdash/api.Item]" [], [.t 9, .t 10], none, [], [], false⟩,
          ⟨some 12, .un .not, [.t 11], none, [], [], false⟩,
          ⟨some 13, .id, [.t 12], none, [], [], false⟩,
          ⟨some 14, .id, [.t 0], (some (13, false)), [], [], false⟩,
          ⟨some 15, .cap, [.t 14], (some (13, false)), [], [], false⟩,
          ⟨some 16, .id, [.t 1], (some (13, false)), [], [], false⟩,
          ⟨some 17, .lenSlice, [.t 16], (some (13, false)), [], [], false⟩,
          ⟨some 18, .bin .add, [.t 17, .c (.int .i64 3)], (some (13, false)), [], [], false⟩,
          ⟨some 19, .bin .lss, [.t 15, .t 18], (some (13, false)), [], [], false⟩,
          ⟨some 20, .pick, [.t 13, .c (.bool true), .t 19], none, [], [], false⟩])
        (.cond (.t 20)
          (.seq
            (.ops [
              ⟨some 6, .id, [.c (.bool false)], none, [], [], false⟩])
            .ret)
          .skip))
      (.seq
        (.ops [
          ⟨some 21, .id, [.t 0], none, [], [], false⟩,
          ⟨some 22, .id, [.t 1], none, [], [], false⟩,
          ⟨some 23, .lenSlice, [.t 22], none, [], [], false⟩,
          ⟨some 24, .bin .add, [.t 23, .c (.int .i64 3)], none, [], [], false⟩,
          ⟨some 25, .slice 4 false true false, [.t 21, .t 24], none, [], [], false⟩,
          ⟨some 7, .id, [.t 25], none, [], [], false⟩])
        (.seq
          (.seq
            (.ops [
              ⟨some 26, .id, [.t 1], none, [], [], false⟩,
              ⟨some 27, .lenSlice, [.t 26], none, [], [], false⟩,
              ⟨some 8, .id, [.t 27], none, [], [], false⟩])
            (.block 0
              (.loop [0, 1, 2, 3, 4, 6, 9, 10, 11, 12, 13, 14, 15, 16, 17, 18, 19, 20, 21, 22, 23, 24, 25, 26, 27, 28, 29, 30, 31, 32, 33, 34, 35, 36, 37, 38, 39] [] f_help_Kept_api_Item__L0)))
          (.seq
            (.ops [
              ⟨some 6, .id, [.c (.bool true)], none, [], [], false⟩])
            .ret)))))
def f_help_Kept_api_Item_ : IFn := ⟨40, 1, [.tmp 6], f_help_Kept_api_Item__B⟩
def f_ref10_in_B : ICode :=
  (.seq
    (.ops [
      ⟨some 4, .id, [.c (.bool false)], none, [], [], false⟩])
    (.seq
      (.ops [
        ⟨some 5, .id, [.t 0], none, [], [], false⟩,
        ⟨some 6, .bin .geq, [.t 5, .c (.int .i64 0)], none, [], [], false⟩,
        ⟨some 7, .id, [.t 6], none, [], [], false⟩,
        ⟨some 8, .id, [.t 0], (some (7, true)), [], [], false⟩,
        ⟨some 9, .id, [.t 1], (some (7, true)), [], [], false⟩,
        ⟨some 10, .bin .leq, [.t 8, .t 9], (some (7, true)), [], [], false⟩,
        ⟨some 11, .pick, [.t 7, .t 10, .c (.bool false)], none, [], [], false⟩,
        ⟨some 4, .id, [.t 11], none, [], [], false⟩])
      .ret))
def f_ref10_in : IFn := ⟨12, 0, [.tmp 4], f_ref10_in_B⟩
def f_goods_bySku_B : ICode :=
  (.seq
    (.ops [
      ⟨some 2, .box 0, [.t 0], none, [], [], false⟩,
      ⟨some 3, .box 1, [.t 1], none, [], [], false⟩,
      ⟨some 4, .id, [.c (.int .i64 0)], none, [], [], false⟩])
    (.seq
      (.ops [
        ⟨some 5, .fieldAddr 0, [.t 2], none, [], [], false⟩,
        ⟨some 6, .load 1 false, [.t 5], none, [], [], false⟩,
        ⟨some 7, .fieldAddr 0, [.t 3], none, [], [], false⟩,
        ⟨some 8, .load 1 false, [.t 7], none, [], [], false⟩,
        ⟨some 9, .call "cmp.Compare[string]" [], [.t 6, .t 8], none, [], [], false⟩,
        ⟨some 4, .id, [.t 9], none, [], [], false⟩])
      .ret))
def f_goods_bySku : IFn := ⟨10, 2, [.tmp 4], f_goods_bySku_B⟩
def f_slices_IsSortedFunc___api_Item_api_Item__L0 : ICode :=
  (.seq
    (.seq
      (.ops [
        ⟨some 9, .id, [.t 5], none, [], [], false⟩,
        ⟨some 10, .bin .gtr, [.t 9, .c (.int .i64 0)], none, [], [], false⟩])
      (.cond (.t 10)
        .skip
        (.exit 0)))
    (.seq
      (.block 1
        (.seq
          (.draw [
            ⟨some 13, .id, [.t 1], none, [], [], false⟩,
            ⟨some 14, .id, [.t 0], none, [], [], false⟩,
            ⟨some 15, .id, [.t 5], none, [], [], false⟩,
            ⟨some 16, .indexAddr 4, [.t 14, .t 15], none, [], [], false⟩,
            ⟨some 17, .load 4 true, [.t 16], none, [], [], false⟩,
            ⟨some 18, .id, [.t 0], none, [], [], false⟩,
            ⟨some 19, .id, [.t 5], none, [], [], false⟩,
            ⟨some 20, .bin .sub, [.t 19, .c (.int .i64 1)], none, [], [], false⟩,
            ⟨some 21, .indexAddr 4, [.t 18, .t 20], none, [], [], false⟩,
            ⟨some 22, .load 4 true, [.t 21], none, [], [], false⟩,
            ⟨some 23, .callV [], [.t 13, .t 17, .t 22], none, [], [], false⟩,
            ⟨some 24, .bin .lss, [.t 23, .c (.int .i64 0)], none, [], [], false⟩])
          (.cond (.t 24)
            (.seq
              (.ops [
                ⟨some 4, .id, [.c (.bool false)], none, [], [], false⟩])
              .ret)
            .skip)))
      (.ops [
        ⟨some 11, .id, [.t 5], none, [], [], false⟩,
        ⟨some 12, .bin .sub, [.t 11, .c (.int .i64 1)], none, [], [], false⟩,
        ⟨some 5, .id, [.t 12], none, [], [], false⟩])))
def f_slices_IsSortedFunc___api_Item_api_Item__B : ICode :=
  (.seq
    (.ops [
      ⟨some 4, .id, [.c (.bool false)], none, [], [], false⟩])
    (.seq
      (.seq
        (.ops [
          ⟨some 6, .id, [.t 0], none, [], [], false⟩,
          ⟨some 7, .lenSlice, [.t 6], none, [], [], false⟩,
          ⟨some 8, .bin .sub, [.t 7, .c (.int .i64 1)], none, [], [], false⟩,
          ⟨some 5, .id, [.t 8], none, [], [], false⟩])
        (.block 0
          (.loop [2, 3, 4, 6, 7, 8, 9, 10, 11, 12, 13, 14, 15, 16, 17, 18, 19, 20, 21, 22, 23, 24] [] f_slices_IsSortedFunc___api_Item_api_Item__L0)))
      (.seq
        (.ops [
          ⟨some 4, .id, [.c (.bool true)], none, [], [], false⟩])
        .ret)))
def f_slices_IsSortedFunc___api_Item_api_Item_ : IFn := ⟨25, 0, [.tmp 4], f_slices_IsSortedFunc___api_Item_api_Item__B⟩
def f_goods_Find_1_B : ICode :=
  (.seq
    (.ops [
      ⟨some 2, .box 0, [.t 0], none, [], [], false⟩,
      ⟨some 3, .id, [.c (.bool false)], none, [], [], false⟩])
    (.seq
      (.ops [
        ⟨some 4, .fieldAddr 0, [.t 2], none, [], [], false⟩,
        ⟨some 5, .load 1 false, [.t 4], none, [], [], false⟩,
        ⟨some 6, .load 1 false, [.t 1], none, [], [], false⟩,
        ⟨some 7, .bin .eql, [.t 5, .t 6], none, [], [], false⟩,
        ⟨some 3, .id, [.t 7], none, [], [], false⟩])
      .ret))
def f_goods_Find_1 : IFn := ⟨8, 1, [.tmp 3], f_goods_Find_1_B⟩
def f_slices_IndexFunc___api_Item_api_Item__L0 : ICode :=
  (.seq
    (.ops [
      ⟨some 9, .bin .lss, [.t 8, .t 7], none, [], [], false⟩])
    (.seq
      (.cond (.t 9)
        .skip
        (.exit 0))
      (.seq
        (.block 1
          (.seq
            (.ops [
              ⟨some 10, .id, [.t 8], none, [], [], false⟩,
              ⟨some 5, .id, [.t 10], none, [], [], false⟩])
            (.seq
              (.ops [
                ⟨some 11, .id, [.t 1], none, [], [], false⟩,
                ⟨some 12, .id, [.t 0], none, [], [], false⟩,
                ⟨some 13, .id, [.t 5], none, [], [], false⟩,
                ⟨some 14, .indexAddr 4, [.t 12, .t 13], none, [], [], false⟩,
                ⟨some 15, .load 4 true, [.t 14], none, [], [], false⟩,
                ⟨some 16, .callV [], [.t 11, .t 15], none, [], [], false⟩])
              (.cond (.t 16)
                (.seq
                  (.ops [
                    ⟨some 17, .id, [.t 5], none, [], [], false⟩,
                    ⟨some 4, .id, [.t 17], none, [], [], false⟩])
                  .ret)
                .skip))))
        (.ops [
          ⟨some 18, .bin .add, [.t 8, .c (.int .i64 1)], none, [], [], false⟩,
          ⟨some 8, .id, [.t 18], none, [], [], false⟩]))))
def f_slices_IndexFunc___api_Item_api_Item__B : ICode :=
  (.seq
    (.ops [
      ⟨some 4, .id, [.c (.int .i64 0)], none, [], [], false⟩])
    (.seq
      (.seq
        (.ops [
          ⟨some 6, .id, [.t 0], none, [], [], false⟩,
          ⟨some 7, .lenSlice, [.t 6], none, [], [], false⟩,
          ⟨some 8, .id, [.c (.int .i64 0)], none, [], [], false⟩])
        (.block 0
          (.loop [2, 3, 4, 5, 6, 9, 10, 11, 12, 13, 14, 15, 16, 17, 18] [] f_slices_IndexFunc___api_Item_api_Item__L0)))
      (.seq
        (.ops [
          ⟨some 4, .id, [.c (.int .i64 (-1))], none, [], [], false⟩])
        .ret)))
def f_slices_IndexFunc___api_Item_api_Item_ : IFn := ⟨19, 0, [.tmp 4], f_slices_IndexFunc___api_Item_api_Item__B⟩
def f_slices_BinarySearchFunc___api_Item_api_Item_api_Item__L0 : ICode :=
  (.seq
    (.seq
      (.ops [
        ⟨some 15, .id, [.t 9], none, [], [], false⟩,
        ⟨some 16, .id, [.t 10], none, [], [], false⟩,
        ⟨some 17, .bin .lss, [.t 15, .t 16], none, [], [], false⟩])
      (.cond (.t 17)
        .skip
        (.exit 0)))
    (.block 1
      (.seq
        (.ops [
          ⟨some 18, .id, [.t 9], none, [], [], false⟩,
          ⟨some 19, .id, [.t 10], none, [], [], false⟩,
          ⟨some 20, .bin .add, [.t 18, .t 19], none, [], [], false⟩,
          ⟨some 21, .convInt .u64, [.t 20], none, [], [], false⟩,
          ⟨some 22, .bin .shr, [.t 21, .c (.int .u64 1)], none, [], [], false⟩,
          ⟨some 23, .convInt .i64, [.t 22], none, [], [], false⟩,
          ⟨some 11, .id, [.t 23], none, [], [], false⟩])
        (.seq
          (.draw [
            ⟨some 24, .id, [.t 2], none, [], [], false⟩,
            ⟨some 25, .id, [.t 0], none, [], [], false⟩,
            ⟨some 26, .id, [.t 11], none, [], [], false⟩,
            ⟨some 27, .indexAddr 4, [.t 25, .t 26], none, [], [], false⟩,
            ⟨some 28, .load 4 true, [.t 27], none, [], [], false⟩,
            ⟨some 29, .load 4 true, [.t 4], none, [], [], false⟩,
            ⟨some 30, .callV [], [.t 24, .t 28, .t 29], none, [], [], false⟩,
            ⟨some 31, .bin .lss, [.t 30, .c (.int .i64 0)], none, [], [], false⟩])
          (.cond (.t 31)
            (.ops [
              ⟨some 32, .id, [.t 11], none, [], [], false⟩,
              ⟨some 33, .bin .add, [.t 32, .c (.int .i64 1)], none, [], [], false⟩,
              ⟨some 9, .id, [.t 33], none, [], [], false⟩])
            (.ops [
              ⟨some 34, .id, [.t 11], none, [], [], false⟩,
              ⟨some 10, .id, [.t 34], none, [], [], false⟩]))))))
def f_slices_BinarySearchFunc___api_Item_api_Item_api_Item__B : ICode :=
  (.seq
    (.ops [
      ⟨some 4, .box 0, [.t 1], none, [], [], false⟩,
      ⟨some 6, .id, [.c (.int .i64 0)], none, [], [], false⟩,
      ⟨some 7, .id, [.c (.bool false)], none, [], [], false⟩])
    (.seq
      (.ops [
        ⟨some 12, .id, [.t 0], none, [], [], false⟩,
        ⟨some 13, .lenSlice, [.t 12], none, [], [], false⟩,
        ⟨some 8, .id, [.t 13], none, [], [], false⟩])
      (.seq
        (.ops [
          ⟨some 14, .id, [.t 8], none, [], [], false⟩,
          ⟨some 9, .id, [.c (.int .i64 0)], none, [], [], false⟩,
          ⟨some 10, .id, [.t 14], none, [], [], false⟩])
        (.seq
          (.block 0
            (.loop [1, 3, 5, 6, 7, 11, 12, 13, 14, 15, 16, 17, 18, 19, 20, 21, 22, 23, 24, 25, 26, 27, 28, 29, 30, 31, 32, 33, 34, 35, 36, 37, 38, 39, 40, 41, 42, 43, 44, 45, 46, 47, 48] [] f_slices_BinarySearchFunc___api_Item_api_Item_api_Item__L0))
          (.seq
            (.draw [
              ⟨some 35, .id, [.t 9], none, [], [], false⟩,
              ⟨some 36, .id, [.t 9], none, [], [], false⟩,
              ⟨some 37, .id, [.t 8], none, [], [], false⟩,
              ⟨some 38, .bin .lss, [.t 36, .t 37], none, [], [], false⟩,
              ⟨some 39, .id, [.t 38], none, [], [], false⟩,
              ⟨some 40, .id, [.t 2], (some (39, true)), [], [], false⟩,
              ⟨some 41, .id, [.t 0], (some (39, true)), [], [], false⟩,
              ⟨some 42, .id, [.t 9], (some (39, true)), [], [], false⟩,
              ⟨some 43, .indexAddr 4, [.t 41, .t 42], (some (39, true)), [], [], false⟩,
              ⟨some 44, .load 4 true, [.t 43], (some (39, true)), [], [], false⟩,
              ⟨some 45, .load 4 true, [.t 4], (some (39, true)), [], [], false⟩,
              ⟨some 46, .callV [], [.t 40, .t 44, .t 45], (some (39, true)), [], [], false⟩,
              ⟨some 47, .bin .eql, [.t 46, .c (.int .i64 0)], (some (39, true)), [], [], false⟩,
              ⟨some 48, .pick, [.t 39, .t 47, .c (.bool false)], none, [], [], false⟩,
              ⟨some 6, .id, [.t 35], none, [], [], false⟩,
              ⟨some 7, .id, [.t 48], none, [], [], false⟩])
            .ret)))))
def f_slices_BinarySearchFunc___api_Item_api_Item_api_Item_ : IFn := ⟨49, 1, [.tmp 6, .tmp 7], f_slices_BinarySearchFunc___api_Item_api_Item_api_Item__B⟩
def f_help_Plain_api_Item__B : ICode :=
  (.seq
    (.ops [
      ⟨some 4, .id, [.c (.bool false)], none, [], [], false⟩])
    (.seq
      (.ops [
        ⟨some 5, .id, [.t 0], none, [], [], false⟩,
        ⟨some 6, .id, [.t 1], none, [], [], false⟩,
        ⟨some 7, .call "haberdash/haberdashhelp.Same[haberdash/api.Item]" [], [.t 5, .t 6, .f "haberdash/haberdashhelp.Plain[haberdash/api.Item]$1"], none, [], [], false⟩,
        ⟨some 4, .id, [.t 7], none, [], [], false⟩])
      .ret))
def f_help_Plain_api_Item_ : IFn := ⟨8, 0, [.tmp 4], f_help_Plain_api_Item__B⟩
def f_cmp_Compare_string__B : ICode :=
  (.seq
    (.ops [
      ⟨some 4, .id, [.c (.int .i64 0)], none, [], [], false⟩])
    (.seq
      (.ops [
        ⟨some 7, .id, [.t 0], none, [], [], false⟩,
        ⟨some 8, .call "cmp.isNaN[string]" [], [.t 7], none, [], [], false⟩,
        ⟨some 5, .id, [.t 8], none, [], [], false⟩])
      (.seq
        (.ops [
          ⟨some 9, .id, [.t 1], none, [], [], false⟩,
          ⟨some 10, .call "cmp.isNaN[string]" [], [.t 9], none, [], [], false⟩,
          ⟨some 6, .id, [.t 10], none, [], [], false⟩])
        (.seq
          (.seq
            (.ops [
              ⟨some 11, .id, [.t 5], none, [], [], false⟩])
            (.cond (.t 11)
              (.seq
                (.seq
                  (.ops [
                    ⟨some 12, .id, [.t 6], none, [], [], false⟩])
                  (.cond (.t 12)
                    (.seq
                      (.ops [
                        ⟨some 4, .id, [.c (.int .i64 0)], none, [], [], false⟩])
                      .ret)
                    .skip))
                (.seq
                  (.ops [
                    ⟨some 4, .id, [.c (.int .i64 (-1))], none, [], [], false⟩])
                  .ret))
              .skip))
          (.seq
            (.seq
              (.ops [
                ⟨some 13, .id, [.t 6], none, [], [], false⟩])
              (.cond (.t 13)
                (.seq
                  (.ops [
                    ⟨some 4, .id, [.c (.int .i64 1)], none, [], [], false⟩])
                  .ret)
                .skip))
            (.seq
              (.seq
                (.ops [
                  ⟨some 14, .id, [.t 0], none, [], [], false⟩,
                  ⟨some 15, .id, [.t 1], none, [], [], false⟩,
                  ⟨some 16, .bin .lss, [.t 14, .t 15], none, [], [], false⟩])
                (.cond (.t 16)
                  (.seq
                    (.ops [
                      ⟨some 4, .id, [.c (.int .i64 (-1))], none, [], [], false⟩])
                    .ret)
                  .skip))
              (.seq
                (.seq
                  (.ops [
                    ⟨some 17, .id, [.t 0], none, [], [], false⟩,
                    ⟨some 18, .id, [.t 1], none, [], [], false⟩,
                    ⟨some 19, .bin .gtr, [.t 17, .t 18], none, [], [], false⟩])
                  (.cond (.t 19)
                    (.seq
                      (.ops [
                        ⟨some 4, .id, [.c (.int .i64 1)], none, [], [], false⟩])
                      .ret)
                    .skip))
                (.seq
                  (.ops [
                    ⟨some 4, .id, [.c (.int .i64 0)], none, [], [], false⟩])
                  .ret))))))))
def f_cmp_Compare_string_ : IFn := ⟨20, 0, [.tmp 4], f_cmp_Compare_string__B⟩
def f_help_Plain_api_Item__1_B : ICode :=
  (.seq
    (.ops [
      ⟨some 2, .box 0, [.t 0], none, [], [], false⟩,
      ⟨some 3, .box 1, [.t 1], none, [], [], false⟩,
      ⟨some 4, .id, [.c (.bool false)], none, [], [], false⟩])
    (.seq
      (.ops [
        ⟨some 5, .load 4 true, [.t 2], none, [], [], false⟩,
        ⟨some 6, .load 4 true, [.t 3], none, [], [], false⟩,
        ⟨some 7, .eq false [.str, .str, .int, .bool], [.t 5, .t 6], none, [], [], false⟩,
        ⟨some 4, .id, [.t 7], none, [], [], false⟩])
      .ret))
def f_help_Plain_api_Item__1 : IFn := ⟨8, 2, [.tmp 4], f_help_Plain_api_Item__1_B⟩
def f_help_Same_api_Item__L0 : ICode :=
  (.seq
    (.seq
      (.ops [
        ⟨some 13, .id, [.t 7], none, [], [], false⟩,
        ⟨some 14, .id, [.t 0], none, [], [], false⟩,
        ⟨some 15, .lenSlice, [.t 14], none, [], [], false⟩,
        ⟨some 16, .bin .lss, [.t 13, .t 15], none, [], [], false⟩])
      (.cond (.t 16)
        .skip
        (.exit 0)))
    (.seq
      (.block 1
        (.seq
          (.draw [
            ⟨some 19, .id, [.t 2], none, [], [], false⟩,
            ⟨some 20, .id, [.t 0], none, [], [], false⟩,
            ⟨some 21, .id, [.t 7], none, [], [], false⟩,
            ⟨some 22, .indexAddr 4, [.t 20, .t 21], none, [], [], false⟩,
            ⟨some 23, .load 4 true, [.t 22], none, [], [], false⟩,
            ⟨some 24, .id, [.t 1], none, [], [], false⟩,
            ⟨some 25, .id, [.t 7], none, [], [], false⟩,
            ⟨some 26, .indexAddr 4, [.t 24, .t 25], none, [], [], false⟩,
            ⟨some 27, .load 4 true, [.t 26], none, [], [], false⟩,
            ⟨some 28, .callV [], [.t 19, .t 23, .t 27], none, [], [], false⟩,
            ⟨some 29, .un .not, [.t 28], none, [], [], false⟩])
          (.cond (.t 29)
            (.seq
              (.ops [
                ⟨some 6, .id, [.c (.bool false)], none, [], [], false⟩])
              .ret)
            .skip)))
      (.ops [
        ⟨some 17, .id, [.t 7], none, [], [], false⟩,
        ⟨some 18, .bin .add, [.t 17, .c (.int .i64 1)], none, [], [], false⟩,
        ⟨some 7, .id, [.t 18], none, [], [], false⟩])))
def f_help_Same_api_Item__B : ICode :=
  (.seq
    (.ops [
      ⟨some 6, .id, [.c (.bool false)], none, [], [], false⟩])
    (.seq
      (.seq
        (.ops [
          ⟨some 8, .id, [.t 0], none, [], [], false⟩,
          ⟨some 9, .lenSlice, [.t 8], none, [], [], false⟩,
          ⟨some 10, .id, [.t 1], none, [], [], false⟩,
          ⟨some 11, .lenSlice, [.t 10], none, [], [], false⟩,
          ⟨some 12, .bin .neq, [.t 9, .t 11], none, [], [], false⟩])
        (.cond (.t 12)
          (.seq
            (.ops [
              ⟨some 6, .id, [.c (.bool false)], none, [], [], false⟩])
            .ret)
          .skip))
      (.seq
        (.seq
          (.ops [
            ⟨some 7, .id, [.c (.int .i64 0)], none, [], [], false⟩])
          (.block 0
            (.loop [3, 4, 5, 6, 8, 9, 10, 11, 12, 13, 14, 15, 16, 17, 18, 19, 20, 21, 22, 23, 24, 25, 26, 27, 28, 29] [] f_help_Same_api_Item__L0)))
        (.seq
          (.ops [
            ⟨some 6, .id, [.c (.bool true)], none, [], [], false⟩])
          .ret))))
def f_help_Same_api_Item_ : IFn := ⟨30, 0, [.tmp 6], f_help_Same_api_Item__B⟩
def f_cmp_isNaN_string__B : ICode :=
  (.seq
    (.ops [
      ⟨some 2, .id, [.c (.bool false)], none, [], [], false⟩])
    (.seq
      (.ops [
        ⟨some 3, .id, [.t 0], none, [], [], false⟩,
        ⟨some 4, .id, [.t 0], none, [], [], false⟩,
        ⟨some 5, .bin .neq, [.t 3, .t 4], none, [], [], false⟩,
        ⟨some 2, .id, [.t 5], none, [], [], false⟩])
      .ret))
def f_cmp_isNaN_string_ : IFn := ⟨6, 0, [.tmp 2], f_cmp_isNaN_string__B⟩
end Go.AM
namespace Go.AM
variable {prog : String → Option IFn}
abbrev lessT (a b : Txt) : Bool := Op.bytesLess a b
theorem less_irrefl : ∀ a : Txt, lessT a a = false
  | [] => rfl
  | a :: x => by
    have h : ¬ a < a := fun h => by have := UInt8.lt_iff_toNat_lt.1 h; omega
    simp [Op.bytesLess, h, less_irrefl x]
theorem less_trans : ∀ {a b c : Txt}, lessT a b = true → lessT b c = true → lessT a c = true
  | [], _ :: _, [], _, h => by simp [Op.bytesLess] at h
  | [], _ :: _, _ :: _, _, _ => rfl
  | _ :: _, [], _, h, _ => by simp [Op.bytesLess] at h
  | [], [], _, h, _ => by simp [Op.bytesLess] at h
  | _ :: _, _ :: _, [], _, h => by simp [Op.bytesLess] at h
  | a :: x, b :: y, c :: z, h1, h2 => by
    simp only [Op.bytesLess, Bool.or_eq_true, Bool.and_eq_true, decide_eq_true_eq, beq_iff_eq] at *
    rcases h1 with h1 | ⟨rfl, h1⟩
    · rcases h2 with h2 | ⟨rfl, h2⟩
      · left; have := UInt8.lt_iff_toNat_lt.1 h1; have := UInt8.lt_iff_toNat_lt.1 h2; exact UInt8.lt_iff_toNat_lt.2 (by omega)
      · exact .inl h1
    · rcases h2 with h2 | ⟨rfl, h2⟩
      · exact .inl h2
      · exact .inr ⟨rfl, less_trans h1 h2⟩
theorem less_tri {a b : Txt} (h1 : lessT a b = false) (h2 : lessT b a = false) : a = b := by
  have := less_total b a
  simp only [lessT] at h1 h2
  rw [h2, h1] at this
  simpa using this.symm
theorem le_trans' {a b c : Txt} (h1 : lessT b a = false) (h2 : lessT c b = false) : lessT c a = false := by
  cases h : lessT c a with
  | false => rfl
  | true =>
    cases h3 : lessT a b with
    | true => have := less_trans h h3; rw [h2] at this; cases this
    | false => have e := less_tri h3 h1; subst e; rw [h2] at h; cases h
end Go.AM
namespace Go.AM
variable {prog : String → Option IFn}
def Sorted (ks : List Txt) : Prop := ∀ (i : Nat) a b, ks[i]? = some a → ks[i + 1]? = some b → lessT b a = false
theorem Sorted.le {ks : List Txt} (h : Sorted ks) : ∀ {d i : Nat} {a b}, ks[i]? = some a → ks[i + d]? = some b → lessT b a = false
  | 0, i, a, b, h1, h2 => by rw [Nat.add_zero, h1] at h2; cases h2; exact less_irrefl a
  | d + 1, i, a, b, h1, h2 => by
    have hl := lt_of_get h2
    obtain ⟨c, hc⟩ : ∃ c, ks[i + d]? = some c := ⟨_, List.getElem?_eq_getElem (by omega)⟩
    exact le_trans' (h.le h1 hc) (h (i + d) c b hc h2)
variable {α : Type} {T : Enc α}
end Go.AM
