import Derived.Test.YtphknfgiljkjaaaAMA
import Derived.Test.YtphknfgiljkjaaaAMD
import Derived.Test.YtphknfgiljkjaaaHelp
set_option linter.unusedVariables false
set_option linter.unusedSimpArgs false
/- Printed by wip/gen/Gen.lean: our texts of the functions. -/
namespace Go.AM

def f_law11_ScopeAll_L0 : ICode :=
  (.seq
    (.seq
      (.ops [
        ⟨some 33, .id, [.t 6], none, [], [], false⟩,
        ⟨some 34, .id, [.t 1], none, [], [], false⟩,
        ⟨some 35, .lenSlice, [.t 34], none, [], [], false⟩,
        ⟨some 36, .bin .lss, [.t 33, .t 35], none, [], [], false⟩])
      (.cond (.t 36)
        .skip
        (.exit 0)))
    (.seq
      (.block 1
        (.seq
          (.draw [
            ⟨some 39, .load 2 true, [.t 5], none, [], [], false⟩,
            ⟨some 40, .id, [.t 1], none, [], [], false⟩,
            ⟨some 41, .id, [.t 6], none, [], [], false⟩,
            ⟨some 42, .indexAddr 4, [.t 40, .t 41], none, [], [], false⟩,
            ⟨some 43, .load 4 true, [.t 42], none, [], [], false⟩,
            ⟨some 44, .call "haberdash/scope.Has" [], [.t 39, .t 43], none, [], [], false⟩,
            ⟨some 45, .load 2 true, [.t 2], none, [], [], false⟩,
            ⟨some 46, .id, [.t 1], none, [], [], false⟩,
            ⟨some 47, .id, [.t 6], none, [], [], false⟩,
            ⟨some 48, .indexAddr 4, [.t 46, .t 47], none, [], [], false⟩,
            ⟨some 49, .load 4 true, [.t 48], none, [], [], false⟩,
            ⟨some 50, .call "haberdash/haberdashref10.Has" [], [.t 45, .t 49], none, [], [], false⟩,
            ⟨some 51, .eqBool true, [.t 44, .t 50], none, [], [], false⟩])
          (.cond (.t 51)
            (.seq
              (.ops [
                ⟨some 4, .id, [.c (.bool false)], none, [], [], false⟩])
              .ret)
            .skip)))
      (.ops [
        ⟨some 37, .id, [.t 6], none, [], [], false⟩,
        ⟨some 38, .bin .add, [.t 37, .c (.int .i64 1)], none, [], [], false⟩,
        ⟨some 6, .id, [.t 38], none, [], [], false⟩])))
def f_law11_ScopeAll_H0 (t1 t2 t5 t6 : AV) : List AV := [.dead, t1, t2, .dead, .dead, t5, t6, .dead, .dead, .dead, .dead, .dead, .dead, .dead, .dead, .dead, .dead, .dead, .dead, .dead, .dead, .dead, .dead, .dead, .dead, .dead, .dead, .dead, .dead, .dead, .dead, .dead, .dead, .dead, .dead, .dead, .dead, .dead, .dead, .dead, .dead, .dead, .dead, .dead, .dead, .dead, .dead, .dead, .dead, .dead, .dead, .dead, .dead, .dead, .dead, .dead, .dead, .dead, .dead, .dead, .dead, .dead, .dead, .dead]
def f_law11_ScopeAll_B : ICode :=
  (.seq
    (.ops [
      ⟨some 2, .box 0, [.t 0], none, [], [], false⟩,
      ⟨some 4, .id, [.c (.bool false)], none, [], [], false⟩])
    (.seq
      (.seq
        (.ops [
          ⟨some 7, .load 2 true, [.t 2], none, [], [], false⟩,
          ⟨some 8, .buildSlice 1 true 2 1 [(.slice none 0 0), (.slice none 0 0)] [(0, 2)], [.t 7], none, [], [], false⟩,
          ⟨some 9, .call "haberdash/haberdashlaw11.few" [], [.t 8], none, [], [], false⟩,
          ⟨some 10, .un .not, [.t 9], none, [], [], false⟩,
          ⟨some 11, .id, [.t 10], none, [], [], false⟩,
          ⟨some 12, .id, [.t 1], (some (11, false)), [], [], false⟩,
          ⟨some 13, .lenSlice, [.t 12], (some (11, false)), [], [], false⟩,
          ⟨some 14, .bin .gtr, [.t 13, .c (.int .i64 40)], (some (11, false)), [], [], false⟩,
          ⟨some 15, .pick, [.t 11, .c (.bool true), .t 14], none, [], [], false⟩])
        (.cond (.t 15)
          (.seq
            (.ops [
              ⟨some 16, .call "haberdash/haberdashlaw11.awake" [], [], none, [], [], false⟩,
              ⟨some 4, .id, [.t 16], none, [], [], false⟩])
            .ret)
          .skip))
      (.seq
        (.draw [
          ⟨some 17, .fieldAddr 0, [.t 2], none, [], [], false⟩,
          ⟨some 18, .load 1 false, [.t 17], none, [4], [], false⟩,
          ⟨some 19, .call "haberdash/haberdashhelp.Own[string]" [2], [.t 18, .c (.string ⟨#[115, 112, 111, 105, 108, 116]⟩)], none, [4], [], false⟩,
          ⟨some 20, .fieldAddr 1, [.t 2], none, [], [], false⟩,
          ⟨some 21, .load 1 false, [.t 20], none, [2, 4], [], false⟩,
          ⟨some 22, .call "haberdash/haberdashhelp.Own[string]" [3], [.t 21, .c (.string ⟨#[115, 112, 111, 105, 108, 116]⟩)], none, [4], [], false⟩,
          ⟨some 23, .build [(.slice none 0 0), (.slice none 0 0)] [(0, 1), (1, 1)], [.t 19, .t 22], none, [], [], false⟩,
          ⟨some 5, .alloc 4 [(.slice none 0 0), (.slice none 0 0)] [], [], none, [2, 3], [], false⟩,
          ⟨none, .store 2 false, [.t 5, .t 23], none, [], [4], false⟩])
        (.seq
          (.seq
            (.draw [
              ⟨some 24, .call "haberdash/haberdashlaw11.awake" [], [], none, [], [], false⟩,
              ⟨some 25, .un .not, [.t 24], none, [], [], false⟩,
              ⟨some 26, .id, [.t 25], none, [], [], false⟩,
              ⟨some 27, .load 2 true, [.t 5], (some (26, false)), [], [], false⟩,
              ⟨some 28, .call "haberdash/scope.Right" [], [.t 27], (some (26, false)), [], [], false⟩,
              ⟨some 29, .load 2 true, [.t 2], (some (26, false)), [], [], false⟩,
              ⟨some 30, .call "haberdash/haberdashref10.Scope" [], [.t 29], (some (26, false)), [], [], false⟩,
              ⟨some 31, .eqBool true, [.t 28, .t 30], (some (26, false)), [], [], false⟩,
              ⟨some 32, .pick, [.t 26, .c (.bool true), .t 31], none, [], [], false⟩])
            (.cond (.t 32)
              (.seq
                (.ops [
                  ⟨some 4, .id, [.c (.bool false)], none, [], [], false⟩])
                .ret)
              .skip))
          (.seq
            (.seq
              (.ops [
                ⟨some 6, .id, [.c (.int .i64 0)], none, [], [], false⟩])
              (.block 0
                (.loop [0, 3, 4, 7, 8, 9, 10, 11, 12, 13, 14, 15, 16, 17, 18, 19, 20, 21, 22, 23, 24, 25, 26, 27, 28, 29, 30, 31, 32, 33, 34, 35, 36, 37, 38, 39, 40, 41, 42, 43, 44, 45, 46, 47, 48, 49, 50, 51, 52, 53, 54, 55, 56, 57, 58, 59, 60, 61, 62, 63] [] f_law11_ScopeAll_L0)))
            (.seq
              (.ops [
                ⟨some 52, .fieldAddr 0, [.t 5], none, [], [], false⟩,
                ⟨some 53, .load 1 false, [.t 52], none, [], [], false⟩,
                ⟨some 54, .fieldAddr 0, [.t 2], none, [], [], false⟩,
                ⟨some 55, .load 1 false, [.t 54], none, [], [], false⟩,
                ⟨some 56, .call "haberdash/haberdashhelp.Kept[string]" [], [.t 53, .t 55, .c (.string ⟨#[115, 112, 111, 105, 108, 116]⟩)], none, [], [], false⟩,
                ⟨some 57, .id, [.t 56], none, [], [], false⟩,
                ⟨some 58, .fieldAddr 1, [.t 5], (some (57, true)), [], [], false⟩,
                ⟨some 59, .load 1 false, [.t 58], (some (57, true)), [], [], false⟩,
                ⟨some 60, .fieldAddr 1, [.t 2], (some (57, true)), [], [], false⟩,
                ⟨some 61, .load 1 false, [.t 60], (some (57, true)), [], [], false⟩,
                ⟨some 62, .call "haberdash/haberdashhelp.Kept[string]" [], [.t 59, .t 61, .c (.string ⟨#[115, 112, 111, 105, 108, 116]⟩)], (some (57, true)), [], [], false⟩,
                ⟨some 63, .pick, [.t 57, .t 62, .c (.bool false)], none, [], [], false⟩,
                ⟨some 4, .id, [.t 63], none, [], [], false⟩])
              .ret))))))
def f_law11_ScopeAll : IFn := ⟨64, 5, [.tmp 4], f_law11_ScopeAll_B⟩
def f_law11_ScopeWider_B : ICode :=
  (.seq
    (.ops [
      ⟨some 4, .box 3, [.t 0], none, [], [], false⟩,
      ⟨some 7, .box 4, [.t 3], none, [], [], false⟩,
      ⟨some 8, .id, [.c (.bool false)], none, [], [], false⟩])
    (.seq
      (.seq
        (.ops [
          ⟨some 12, .load 2 true, [.t 4], none, [], [], false⟩,
          ⟨some 13, .buildSlice 5 true 2 1 [(.slice none 0 0), (.slice none 0 0)] [(0, 2)], [.t 12], none, [], [], false⟩,
          ⟨some 14, .call "haberdash/haberdashlaw11.few" [], [.t 13], none, [], [], false⟩,
          ⟨some 15, .un .not, [.t 14], none, [], [], false⟩])
        (.cond (.t 15)
          (.seq
            (.ops [
              ⟨some 16, .call "haberdash/haberdashlaw11.awake" [], [], none, [], [], false⟩,
              ⟨some 8, .id, [.t 16], none, [], [], false⟩])
            .ret)
          .skip))
      (.seq
        (.ops [
          ⟨some 17, .load 2 true, [.t 4], none, [], [], false⟩,
          ⟨some 18, .call "haberdash/haberdashplay.Scope" [2, 1], [.t 17], none, [], [], false⟩,
          ⟨none, .store 2 false, [.t 4, .t 18], none, [], [], false⟩])
        (.seq
          (.seq
            (.ops [
              ⟨some 19, .fieldAddr 0, [.t 4], none, [], [], false⟩,
              ⟨some 20, .load 1 false, [.t 19], none, [], [], false⟩,
              ⟨some 21, .lenSlice, [.t 20], none, [], [], false⟩,
              ⟨some 22, .bin .eql, [.t 21, .c (.int .i64 0)], none, [], [], false⟩,
              ⟨some 23, .id, [.t 22], none, [], [], false⟩,
              ⟨some 24, .fieldAddr 1, [.t 4], (some (23, true)), [], [], false⟩,
              ⟨some 25, .load 1 false, [.t 24], (some (23, true)), [], [], false⟩,
              ⟨some 26, .lenSlice, [.t 25], (some (23, true)), [], [], false⟩,
              ⟨some 27, .bin .eql, [.t 26, .c (.int .i64 0)], (some (23, true)), [], [], false⟩,
              ⟨some 28, .pick, [.t 23, .t 27, .c (.bool false)], none, [], [], false⟩])
            (.cond (.t 28)
              (.ops [
                ⟨some 29, .buildSlice 0 false 1 1 [(.string ⟨#[]⟩)] [(0, 1)], [.c (.string ⟨#[97]⟩)], none, [], [], false⟩,
                ⟨some 30, .fieldAddr 0, [.t 4], none, [], [], false⟩,
                ⟨none, .store 1 false, [.t 30, .t 29], none, [], [], false⟩])
              .skip))
          (.seq
            (.draw [
              ⟨some 31, .fieldAddr 0, [.t 4], none, [], [], false⟩,
              ⟨some 32, .load 1 false, [.t 31], none, [12], [], false⟩,
              ⟨some 33, .append 6 false 1 16, [.c (.slice none 0 0), .t 32], none, [12], [], false⟩,
              ⟨some 34, .id, [.t 1], none, [], [], false⟩,
              ⟨some 35, .call "haberdash/haberdashplay.Sku" [], [.t 34], none, [12], [], false⟩,
              ⟨some 36, .buildSlice 7 false 1 1 [(.string ⟨#[]⟩)] [(0, 1)], [.t 35], none, [12], [], false⟩,
              ⟨some 37, .append 8 false 1 16, [.t 33, .t 36], none, [12], [6], false⟩,
              ⟨some 38, .fieldAddr 1, [.t 4], none, [], [], false⟩,
              ⟨some 39, .load 1 false, [.t 38], none, [6, 7, 8, 12], [], false⟩,
              ⟨some 40, .append 9 false 1 16, [.c (.slice none 0 0), .t 39], none, [12], [], false⟩,
              ⟨some 41, .id, [.t 2], none, [], [], false⟩,
              ⟨some 42, .call "haberdash/haberdashplay.Category" [], [.t 41], none, [12], [], false⟩,
              ⟨some 43, .buildSlice 10 false 1 1 [(.string ⟨#[]⟩)] [(0, 1)], [.t 42], none, [12], [], false⟩,
              ⟨some 44, .append 11 false 1 16, [.t 40, .t 43], none, [12], [9], false⟩,
              ⟨some 45, .build [(.slice none 0 0), (.slice none 0 0)] [(0, 1), (1, 1)], [.t 37, .t 44], none, [], [], false⟩,
              ⟨some 9, .alloc 12 [(.slice none 0 0), (.slice none 0 0)] [], [], none, [6, 7, 8, 9, 10, 11], [], false⟩,
              ⟨none, .store 2 false, [.t 9, .t 45], none, [], [12], false⟩])
            (.seq
              (.ops [
                ⟨some 46, .id, [.t 1], none, [], [], false⟩,
                ⟨some 47, .call "haberdash/haberdashplay.Sku" [], [.t 46], none, [], [], false⟩,
                ⟨some 48, .build [(.string ⟨#[]⟩), (.string ⟨#[]⟩), (.int .i64 0), (.bool false)] [(0, 1), (1, 1)], [.t 47, .c (.string ⟨#[113]⟩)], none, [], [], false⟩,
                ⟨some 10, .alloc 13 [(.string ⟨#[]⟩), (.string ⟨#[]⟩), (.int .i64 0), (.bool false)] [], [], none, [], [], false⟩,
                ⟨none, .store 4 false, [.t 10, .t 48], none, [], [], false⟩])
              (.seq
                (.ops [
                  ⟨some 49, .id, [.t 2], none, [], [], false⟩,
                  ⟨some 50, .call "haberdash/haberdashplay.Category" [], [.t 49], none, [], [], false⟩,
                  ⟨some 51, .build [(.string ⟨#[]⟩), (.string ⟨#[]⟩), (.int .i64 0), (.bool false)] [(0, 1), (1, 1)], [.c (.string ⟨#[113]⟩), .t 50], none, [], [], false⟩,
                  ⟨some 11, .alloc 14 [(.string ⟨#[]⟩), (.string ⟨#[]⟩), (.int .i64 0), (.bool false)] [], [], none, [], [], false⟩,
                  ⟨none, .store 4 false, [.t 11, .t 51], none, [], [], false⟩])
                (.seq
                  (.ops [
                    ⟨some 52, .call "haberdash/haberdashlaw11.awake" [], [], none, [], [], false⟩,
                    ⟨some 53, .id, [.t 52], none, [], [], false⟩,
                    ⟨some 54, .load 2 true, [.t 4], (some (53, true)), [], [], false⟩,
                    ⟨some 55, .load 4 true, [.t 7], (some (53, true)), [], [], false⟩,
                    ⟨some 56, .call "haberdash/scope.Has" [], [.t 54, .t 55], (some (53, true)), [], [], false⟩,
                    ⟨some 57, .un .not, [.t 56], (some (53, true)), [], [], false⟩,
                    ⟨some 58, .id, [.t 57], (some (53, true)), [], [], false⟩,
                    ⟨some 59, .load 2 true, [.t 9], (some (58, false)), [], [], false⟩,
                    ⟨some 60, .load 4 true, [.t 7], (some (58, false)), [], [], false⟩,
                    ⟨some 61, .call "haberdash/scope.Has" [], [.t 59, .t 60], (some (58, false)), [], [], false⟩,
                    ⟨some 62, .pick, [.t 58, .c (.bool true), .t 61], (some (53, true)), [], [], false⟩,
                    ⟨some 63, .pick, [.t 53, .t 62, .c (.bool false)], none, [], [], false⟩,
                    ⟨some 64, .id, [.t 63], none, [], [], false⟩,
                    ⟨some 65, .load 2 true, [.t 9], (some (64, true)), [], [], false⟩,
                    ⟨some 66, .load 4 true, [.t 10], (some (64, true)), [], [], false⟩,
                    ⟨some 67, .call "haberdash/scope.Has" [], [.t 65, .t 66], (some (64, true)), [], [], false⟩,
                    ⟨some 68, .pick, [.t 64, .t 67, .c (.bool false)], none, [], [], false⟩,
                    ⟨some 69, .id, [.t 68], none, [], [], false⟩,
                    ⟨some 70, .load 2 true, [.t 9], (some (69, true)), [], [], false⟩,
                    ⟨some 71, .load 4 true, [.t 11], (some (69, true)), [], [], false⟩,
                    ⟨some 72, .call "haberdash/scope.Has" [], [.t 70, .t 71], (some (69, true)), [], [], false⟩,
                    ⟨some 73, .pick, [.t 69, .t 72, .c (.bool false)], none, [], [], false⟩,
                    ⟨some 74, .id, [.t 73], none, [], [], false⟩,
                    ⟨some 75, .load 2 true, [.t 4], (some (74, true)), [], [], false⟩,
                    ⟨some 76, .build [(.string ⟨#[]⟩), (.string ⟨#[]⟩), (.int .i64 0), (.bool false)] [(0, 1), (1, 1)], [.c (.string ⟨#[113]⟩), .c (.string ⟨#[113]⟩)], (some (74, true)), [], [], false⟩,
                    ⟨some 77, .call "haberdash/scope.Has" [], [.t 75, .t 76], (some (74, true)), [], [], false⟩,
                    ⟨some 78, .un .not, [.t 77], (some (74, true)), [], [], false⟩,
                    ⟨some 79, .pick, [.t 74, .t 78, .c (.bool false)], none, [], [], false⟩,
                    ⟨some 80, .id, [.t 79], none, [], [], false⟩,
                    ⟨some 81, .build [(.slice none 0 0), (.slice none 0 0)] [], [], (some (80, true)), [], [], false⟩,
                    ⟨some 82, .load 4 true, [.t 7], (some (80, true)), [], [], false⟩,
                    ⟨some 83, .call "haberdash/scope.Has" [], [.t 81, .t 82], (some (80, true)), [], [], false⟩,
                    ⟨some 84, .pick, [.t 80, .t 83, .c (.bool false)], none, [], [], false⟩,
                    ⟨some 8, .id, [.t 84], none, [], [], false⟩])
                  .ret))))))))
def f_law11_ScopeWider : IFn := ⟨85, 15, [.tmp 8], f_law11_ScopeWider_B⟩
def f_law11_ScopeTurned_L0 : ICode :=
  (.seq
    (.seq
      (.ops [
        ⟨some 17, .id, [.t 10], none, [], [], false⟩,
        ⟨some 18, .id, [.t 0], none, [], [], false⟩,
        ⟨some 19, .bin .lss, [.t 17, .t 18], none, [], [], false⟩])
      (.cond (.t 19)
        .skip
        (.exit 0)))
    (.seq
      (.block 1
        (.ops [
          ⟨some 22, .id, [.t 9], none, [], [], false⟩,
          ⟨some 23, .id, [.t 10], none, [], [], false⟩,
          ⟨some 24, .convInt .u8, [.t 23], none, [], [], false⟩,
          ⟨some 25, .bin .add, [.c (.int .u8 97), .t 24], none, [], [], false⟩,
          ⟨some 26, .buildSlice 0 false 1 2 [(.int .u8 0)] [(0, 1), (1, 1)], [.c (.int .u8 97), .t 25], none, [], [], false⟩,
          ⟨some 27, .bytesStr, [.t 26], none, [], [], false⟩,
          ⟨some 28, .buildSlice 2 false 1 1 [(.string ⟨#[]⟩)] [(0, 1)], [.t 27], none, [], [], false⟩,
          ⟨some 29, .append 3 false 1 16, [.t 22, .t 28], none, [], [], false⟩,
          ⟨some 9, .id, [.t 29], none, [], [], false⟩]))
      (.ops [
        ⟨some 20, .id, [.t 10], none, [], [], false⟩,
        ⟨some 21, .bin .add, [.t 20, .c (.int .i64 1)], none, [], [], false⟩,
        ⟨some 10, .id, [.t 21], none, [], [], false⟩])))
def f_law11_ScopeTurned_H0 (t0 t1 t2 t3 t9 t10 : AV) : List AV := [t0, t1, t2, t3, .dead, .dead, .dead, .dead, .dead, t9, t10, .dead, .dead, .dead, .dead, .dead, .dead, .dead, .dead, .dead, .dead, .dead, .dead, .dead, .dead, .dead, .dead, .dead, .dead, .dead, .dead, .dead, .dead, .dead, .dead, .dead, .dead, .dead, .dead, .dead, .dead, .dead, .dead, .dead, .dead, .dead, .dead, .dead, .dead, .dead, .dead, .dead, .dead, .dead, .dead, .dead, .dead, .dead, .dead, .dead, .dead, .dead, .dead, .dead, .dead, .dead, .dead, .dead, .dead, .dead, .dead, .dead, .dead, .dead, .dead, .dead, .dead, .dead, .dead, .dead, .dead, .dead, .dead, .dead, .dead, .dead]
def f_law11_ScopeTurned_B : ICode :=
  (.seq
    (.ops [
      ⟨some 8, .id, [.c (.bool false)], none, [], [], false⟩])
    (.seq
      (.ops [
        ⟨some 14, .id, [.t 0], none, [], [], false⟩,
        ⟨some 15, .call "haberdash/haberdashplay.Mod" [], [.t 14, .c (.int .i64 22)], none, [], [], false⟩,
        ⟨some 16, .bin .add, [.c (.int .i64 1), .t 15], none, [], [], false⟩,
        ⟨some 0, .id, [.t 16], none, [], [], false⟩])
      (.seq
        (.ops [
          ⟨some 9, .nilv 1 1, [.c (.slice none 0 0)], none, [], [], false⟩])
        (.seq
          (.seq
            (.ops [
              ⟨some 10, .id, [.c (.int .i64 0)], none, [], [], false⟩])
            (.block 0
              (.loop [4, 5, 6, 7, 8, 11, 12, 13, 14, 15, 16, 17, 18, 19, 20, 21, 22, 23, 24, 25, 26, 27, 28, 29, 30, 31, 32, 33, 34, 35, 36, 37, 38, 39, 40, 41, 42, 43, 44, 45, 46, 47, 48, 49, 50, 51, 52, 53, 54, 55, 56, 57, 58, 59, 60, 61, 62, 63, 64, 65, 66, 67, 68, 69, 70, 71, 72, 73, 74, 75, 76, 77, 78, 79, 80, 81, 82, 83, 84, 85] [0, 2, 3] f_law11_ScopeTurned_L0)))
          (.seq
            (.ops [
              ⟨some 30, .id, [.t 0], none, [], [], false⟩,
              ⟨some 31, .bin .leq, [.t 30, .c (.int .i64 20)], none, [], [], false⟩,
              ⟨some 32, .id, [.t 1], none, [], [], false⟩,
              ⟨some 33, .id, [.t 0], none, [], [], false⟩,
              ⟨some 34, .call "haberdash/haberdashplay.Mod" [], [.t 32, .t 33], none, [], [], false⟩,
              ⟨some 11, .id, [.t 31], none, [], [], false⟩,
              ⟨some 12, .id, [.t 34], none, [], [], false⟩])
            (.seq
              (.seq
                (.ops [
                  ⟨some 35, .id, [.t 2], none, [], [], false⟩,
                  ⟨some 36, .call "haberdash/haberdashplay.Mod" [], [.t 35, .c (.int .i64 4)], none, [], [], false⟩])
                (.block 2
                  (.seq
                    (.ops [
                      ⟨some 38, .bin .eql, [.t 36, .c (.int .i64 1)], none, [], [], false⟩,
                      ⟨some 37, .id, [.t 38], none, [], [], false⟩])
                    (.cond (.t 37)
                      (.ops [
                        ⟨some 39, .id, [.t 9], none, [], [], false⟩,
                        ⟨some 40, .id, [.t 12], none, [], [], false⟩,
                        ⟨some 41, .indexAddr 1, [.t 39, .t 40], none, [], [], false⟩,
                        ⟨none, .store 1 false, [.t 41, .c (.string ⟨#[65]⟩)], none, [], [], false⟩,
                        ⟨some 11, .id, [.c (.bool false)], none, [], [], false⟩])
                      (.seq
                        (.ops [
                          ⟨some 43, .bin .eql, [.t 36, .c (.int .i64 2)], none, [], [], false⟩,
                          ⟨some 42, .id, [.t 43], none, [], [], false⟩])
                        (.cond (.t 42)
                          (.seq
                            (.ops [
                              ⟨some 44, .id, [.t 9], none, [], [], false⟩,
                              ⟨some 45, .id, [.t 12], none, [], [], false⟩,
                              ⟨some 46, .id, [.t 9], none, [], [], false⟩,
                              ⟨some 47, .indexAddr 1, [.t 46, .c (.int .i64 0)], none, [], [], false⟩,
                              ⟨some 48, .load 1 false, [.t 47], none, [], [], false⟩,
                              ⟨some 49, .indexAddr 1, [.t 44, .t 45], none, [], [], false⟩,
                              ⟨none, .store 1 false, [.t 49, .t 48], none, [], [], false⟩])
                            (.ops [
                              ⟨some 50, .id, [.t 11], none, [], [], false⟩,
                              ⟨some 51, .id, [.t 50], none, [], [], false⟩,
                              ⟨some 52, .id, [.t 12], (some (51, true)), [], [], false⟩,
                              ⟨some 53, .bin .eql, [.t 52, .c (.int .i64 0)], (some (51, true)), [], [], false⟩,
                              ⟨some 54, .pick, [.t 51, .t 53, .c (.bool false)], none, [], [], false⟩,
                              ⟨some 11, .id, [.t 54], none, [], [], false⟩]))
                          (.seq
                            (.ops [
                              ⟨some 56, .bin .eql, [.t 36, .c (.int .i64 3)], none, [], [], false⟩,
                              ⟨some 55, .id, [.t 56], none, [], [], false⟩])
                            (.cond (.t 55)
                              (.seq
                                (.draw [
                                  ⟨some 57, .id, [.t 9], none, [], [], false⟩,
                                  ⟨some 58, .id, [.t 12], none, [], [], false⟩,
                                  ⟨some 59, .id, [.t 9], none, [], [], false⟩,
                                  ⟨some 60, .id, [.t 9], none, [], [], false⟩,
                                  ⟨some 61, .indexAddr 1, [.t 60, .c (.int .i64 0)], none, [], [], false⟩,
                                  ⟨some 62, .load 1 false, [.t 61], none, [], [], false⟩,
                                  ⟨some 63, .id, [.t 9], none, [], [], false⟩,
                                  ⟨some 64, .id, [.t 12], none, [], [], false⟩,
                                  ⟨some 65, .indexAddr 1, [.t 63, .t 64], none, [], [], false⟩,
                                  ⟨some 66, .load 1 false, [.t 65], none, [], [], false⟩,
                                  ⟨some 67, .indexAddr 1, [.t 57, .t 58], none, [], [], false⟩,
                                  ⟨none, .store 1 false, [.t 67, .t 62], none, [], [1, 3], false⟩,
                                  ⟨some 68, .indexAddr 1, [.t 59, .c (.int .i64 0)], none, [], [], false⟩,
                                  ⟨none, .store 1 false, [.t 68, .t 66], none, [], [1, 3], false⟩])
                                (.ops [
                                  ⟨some 69, .id, [.t 11], none, [], [], false⟩,
                                  ⟨some 70, .id, [.t 69], none, [], [], false⟩,
                                  ⟨some 71, .id, [.t 12], (some (70, true)), [], [], false⟩,
                                  ⟨some 72, .bin .eql, [.t 71, .c (.int .i64 0)], (some (70, true)), [], [], false⟩,
                                  ⟨some 73, .pick, [.t 70, .t 72, .c (.bool false)], none, [], [], false⟩,
                                  ⟨some 11, .id, [.t 73], none, [], [], false⟩]))
                              .skip))))))))
              (.seq
                (.ops [
                  ⟨some 74, .id, [.t 9], none, [], [], false⟩,
                  ⟨some 75, .build [(.slice none 0 0), (.slice none 0 0)] [(0, 1)], [.t 74], none, [], [], false⟩,
                  ⟨some 13, .alloc 4 [(.slice none 0 0), (.slice none 0 0)] [], [], none, [], [], false⟩,
                  ⟨none, .store 2 false, [.t 13, .t 75], none, [], [], false⟩])
                (.seq
                  (.seq
                    (.ops [
                      ⟨some 76, .id, [.t 3], none, [], [], false⟩])
                    (.cond (.t 76)
                      (.ops [
                        ⟨some 77, .id, [.t 9], none, [], [], false⟩,
                        ⟨some 78, .build [(.slice none 0 0), (.slice none 0 0)] [(1, 1)], [.t 77], none, [], [], false⟩,
                        ⟨none, .store 2 false, [.t 13, .t 78], none, [], [], false⟩])
                      .skip))
                  (.seq
                    (.ops [
                      ⟨some 79, .call "haberdash/haberdashlaw11.awake" [], [], none, [], [], false⟩,
                      ⟨some 80, .id, [.t 79], none, [], [], false⟩,
                      ⟨some 81, .load 2 true, [.t 13], (some (80, true)), [], [], false⟩,
                      ⟨some 82, .call "haberdash/scope.Right" [], [.t 81], (some (80, true)), [], [], false⟩,
                      ⟨some 83, .id, [.t 11], (some (80, true)), [], [], false⟩,
                      ⟨some 84, .eqBool false, [.t 82, .t 83], (some (80, true)), [], [], false⟩,
                      ⟨some 85, .pick, [.t 80, .t 84, .c (.bool false)], none, [], [], false⟩,
                      ⟨some 8, .id, [.t 85], none, [], [], false⟩])
                    .ret)))))))))
def f_law11_ScopeTurned : IFn := ⟨86, 5, [.tmp 8], f_law11_ScopeTurned_B⟩
def f_law11_ScopeNear_L0 : ICode :=
  (.seq
    (.seq
      (.ops [
        ⟨some 17, .id, [.t 6], none, [], [], false⟩,
        ⟨some 18, .id, [.t 0], none, [], [], false⟩,
        ⟨some 19, .lenSlice, [.t 18], none, [], [], false⟩,
        ⟨some 20, .bin .lss, [.t 17, .t 19], none, [], [], false⟩])
      (.cond (.t 20)
        .skip
        (.exit 0)))
    (.seq
      (.block 1
        (.seq
          (.ops [
            ⟨some 23, .id, [.t 5], none, [], [], false⟩,
            ⟨some 24, .id, [.t 0], none, [], [], false⟩,
            ⟨some 25, .id, [.t 6], none, [], [], false⟩,
            ⟨some 26, .indexAddr 2, [.t 24, .t 25], none, [], [], false⟩,
            ⟨some 27, .load 2 true, [.t 26], none, [], [], false⟩,
            ⟨some 28, .call "haberdash/haberdashplay.Scope" [1, 2], [.t 27], none, [], [], false⟩,
            ⟨some 29, .buildSlice 3 true 2 1 [(.slice none 0 0), (.slice none 0 0)] [(0, 2)], [.t 28], none, [], [], false⟩,
            ⟨some 30, .append 4 true 2 48, [.t 23, .t 29], none, [], [], false⟩,
            ⟨some 5, .id, [.t 30], none, [], [], false⟩])
          (.seq
            (.ops [
              ⟨some 31, .id, [.t 5], none, [], [], false⟩,
              ⟨some 32, .id, [.t 6], none, [], [], false⟩,
              ⟨some 33, .indexAddr 2, [.t 31, .t 32], none, [], [], false⟩,
              ⟨some 34, .load 2 true, [.t 33], none, [], [], false⟩,
              ⟨some 35, .call "haberdash/scope.Right" [], [.t 34], none, [], [], false⟩,
              ⟨some 36, .un .not, [.t 35], none, [], [], false⟩])
            (.cond (.t 36)
              (.seq
                (.ops [
                  ⟨some 4, .id, [.c (.bool false)], none, [], [], false⟩])
                .ret)
              .skip))))
      (.ops [
        ⟨some 21, .id, [.t 6], none, [], [], false⟩,
        ⟨some 22, .bin .add, [.t 21, .c (.int .i64 1)], none, [], [], false⟩,
        ⟨some 6, .id, [.t 22], none, [], [], false⟩])))
def f_law11_ScopeNear_H0 (t0 t1 t5 t6 : AV) : List AV := [t0, t1, .dead, .dead, .dead, t5, t6, .dead, .dead, .dead, .dead, .dead, .dead, .dead, .dead, .dead, .dead, .dead, .dead, .dead, .dead, .dead, .dead, .dead, .dead, .dead, .dead, .dead, .dead, .dead, .dead, .dead, .dead, .dead, .dead, .dead, .dead, .dead, .dead, .dead, .dead, .dead, .dead, .dead, .dead, .dead, .dead, .dead, .dead, .dead, .dead, .dead, .dead, .dead, .dead, .dead, .dead, .dead]
def f_law11_ScopeNear_B : ICode :=
  (.seq
    (.ops [
      ⟨some 4, .id, [.c (.bool false)], none, [], [], false⟩])
    (.seq
      (.seq
        (.ops [
          ⟨some 8, .id, [.t 0], none, [], [], false⟩,
          ⟨some 9, .call "haberdash/haberdashlaw11.few" [], [.t 8], none, [], [], false⟩,
          ⟨some 10, .un .not, [.t 9], none, [], [], false⟩,
          ⟨some 11, .id, [.t 10], none, [], [], false⟩,
          ⟨some 12, .id, [.t 1], (some (11, false)), [], [], false⟩,
          ⟨some 13, .lenSlice, [.t 12], (some (11, false)), [], [], false⟩,
          ⟨some 14, .bin .gtr, [.t 13, .c (.int .i64 40)], (some (11, false)), [], [], false⟩,
          ⟨some 15, .pick, [.t 11, .c (.bool true), .t 14], none, [], [], false⟩])
        (.cond (.t 15)
          (.seq
            (.ops [
              ⟨some 16, .call "haberdash/haberdashlaw11.awake" [], [], none, [], [], false⟩,
              ⟨some 4, .id, [.t 16], none, [], [], false⟩])
            .ret)
          .skip))
      (.seq
        (.ops [
          ⟨some 5, .nilv 0 2, [.c (.slice none 0 0)], none, [], [], false⟩])
        (.seq
          (.seq
            (.ops [
              ⟨some 6, .id, [.c (.int .i64 0)], none, [], [], false⟩])
            (.block 0
              (.loop [2, 3, 4, 7, 8, 9, 10, 11, 12, 13, 14, 15, 16, 17, 18, 19, 20, 21, 22, 23, 24, 25, 26, 27, 28, 29, 30, 31, 32, 33, 34, 35, 36, 37, 38, 39, 40, 41, 42, 43, 44, 45, 46, 47, 48, 49, 50, 51, 52, 53, 54, 55, 56, 57] [1, 2, 3, 4] f_law11_ScopeNear_L0)))
          (.seq
            (.ops [
              ⟨some 37, .id, [.t 1], none, [], [], false⟩,
              ⟨some 38, .call "haberdash/haberdashplay.Items" [5], [.t 37], none, [], [], false⟩,
              ⟨some 7, .id, [.t 38], none, [], [], false⟩])
            (.seq
              (.ops [
                ⟨some 39, .call "haberdash/haberdashlaw11.awake" [], [], none, [], [], false⟩,
                ⟨some 40, .id, [.t 39], none, [], [], false⟩,
                ⟨some 41, .id, [.t 7], (some (40, true)), [], [], false⟩,
                ⟨some 42, .id, [.t 5], (some (40, true)), [], [], false⟩,
                ⟨some 43, .call "haberdash/scope.Index" [6], [.t 41, .t 42], (some (40, true)), [], [], false⟩,
                ⟨some 44, .id, [.t 7], (some (40, true)), [], [], false⟩,
                ⟨some 45, .id, [.t 5], (some (40, true)), [], [], false⟩,
                ⟨some 46, .call "haberdash/haberdashref10.Index" [7], [.t 44, .t 45], (some (40, true)), [], [], false⟩,
                ⟨some 47, .call "haberdash/haberdashhelp.Lists" [], [.t 43, .t 46], (some (40, true)), [], [], false⟩,
                ⟨some 48, .pick, [.t 40, .t 47, .c (.bool false)], none, [], [], false⟩,
                ⟨some 49, .id, [.t 48], none, [], [], false⟩,
                ⟨some 50, .id, [.t 1], (some (49, true)), [], [], false⟩,
                ⟨some 51, .id, [.t 0], (some (49, true)), [], [], false⟩,
                ⟨some 52, .call "haberdash/scope.Index" [8], [.t 50, .t 51], (some (49, true)), [], [], false⟩,
                ⟨some 53, .id, [.t 1], (some (49, true)), [], [], false⟩,
                ⟨some 54, .id, [.t 0], (some (49, true)), [], [], false⟩,
                ⟨some 55, .call "haberdash/haberdashref10.Index" [9], [.t 53, .t 54], (some (49, true)), [], [], false⟩,
                ⟨some 56, .call "haberdash/haberdashhelp.Lists" [], [.t 52, .t 55], (some (49, true)), [], [], false⟩,
                ⟨some 57, .pick, [.t 49, .t 56, .c (.bool false)], none, [], [], false⟩,
                ⟨some 4, .id, [.t 57], none, [], [], false⟩])
              .ret))))))
def f_law11_ScopeNear : IFn := ⟨58, 10, [.tmp 4], f_law11_ScopeNear_B⟩
def f_law11_few_L0 : ICode :=
  (.seq
    (.seq
      (.ops [
        ⟨some 4, .id, [.t 3], none, [], [], false⟩,
        ⟨some 5, .id, [.t 0], none, [], [], false⟩,
        ⟨some 6, .lenSlice, [.t 5], none, [], [], false⟩,
        ⟨some 7, .bin .lss, [.t 4, .t 6], none, [], [], false⟩])
      (.cond (.t 7)
        .skip
        (.exit 0)))
    (.seq
      (.block 1
        (.seq
          (.ops [
            ⟨some 10, .id, [.t 0], none, [], [], false⟩,
            ⟨some 11, .id, [.t 3], none, [], [], false⟩,
            ⟨some 12, .indexAddr 2, [.t 10, .t 11], none, [], [], false⟩,
            ⟨some 13, .fieldAddr 0, [.t 12], none, [], [], false⟩,
            ⟨some 14, .load 1 false, [.t 13], none, [], [], false⟩,
            ⟨some 15, .lenSlice, [.t 14], none, [], [], false⟩,
            ⟨some 16, .bin .gtr, [.t 15, .c (.int .i64 40)], none, [], [], false⟩,
            ⟨some 17, .id, [.t 16], none, [], [], false⟩,
            ⟨some 18, .id, [.t 0], (some (17, false)), [], [], false⟩,
            ⟨some 19, .id, [.t 3], (some (17, false)), [], [], false⟩,
            ⟨some 20, .indexAddr 2, [.t 18, .t 19], (some (17, false)), [], [], false⟩,
            ⟨some 21, .fieldAddr 1, [.t 20], (some (17, false)), [], [], false⟩,
            ⟨some 22, .load 1 false, [.t 21], (some (17, false)), [], [], false⟩,
            ⟨some 23, .lenSlice, [.t 22], (some (17, false)), [], [], false⟩,
            ⟨some 24, .bin .gtr, [.t 23, .c (.int .i64 40)], (some (17, false)), [], [], false⟩,
            ⟨some 25, .pick, [.t 17, .c (.bool true), .t 24], none, [], [], false⟩])
          (.cond (.t 25)
            (.seq
              (.ops [
                ⟨some 2, .id, [.c (.bool false)], none, [], [], false⟩])
              .ret)
            .skip)))
      (.ops [
        ⟨some 8, .id, [.t 3], none, [], [], false⟩,
        ⟨some 9, .bin .add, [.t 8, .c (.int .i64 1)], none, [], [], false⟩,
        ⟨some 3, .id, [.t 9], none, [], [], false⟩])))
def f_law11_few_H0 (t0 t3 : AV) : List AV := [t0, .dead, .dead, t3, .dead, .dead, .dead, .dead, .dead, .dead, .dead, .dead, .dead, .dead, .dead, .dead, .dead, .dead, .dead, .dead, .dead, .dead, .dead, .dead, .dead, .dead, .dead, .dead, .dead]
def f_law11_few_B : ICode :=
  (.seq
    (.ops [
      ⟨some 2, .id, [.c (.bool false)], none, [], [], false⟩])
    (.seq
      (.seq
        (.ops [
          ⟨some 3, .id, [.c (.int .i64 0)], none, [], [], false⟩])
        (.block 0
          (.loop [1, 2, 4, 5, 6, 7, 8, 9, 10, 11, 12, 13, 14, 15, 16, 17, 18, 19, 20, 21, 22, 23, 24, 25, 26, 27, 28] [] f_law11_few_L0)))
      (.seq
        (.ops [
          ⟨some 26, .id, [.t 0], none, [], [], false⟩,
          ⟨some 27, .lenSlice, [.t 26], none, [], [], false⟩,
          ⟨some 28, .bin .leq, [.t 27, .c (.int .i64 20)], none, [], [], false⟩,
          ⟨some 2, .id, [.t 28], none, [], [], false⟩])
        .ret)))
def f_law11_few : IFn := ⟨29, 0, [.tmp 2], f_law11_few_B⟩
def f_law11_awake_B : ICode :=
  (.seq
    (.ops [
      ⟨some 0, .id, [.c (.bool false)], none, [], [], false⟩])
    (.seq
      (.ops [
        ⟨some 2, .buildSlice 0 false 1 1 [(.string ⟨#[]⟩)] [(0, 1)], [.c (.string ⟨#[97]⟩)], none, [], [], false⟩,
        ⟨some 3, .buildSlice 1 false 1 1 [(.string ⟨#[]⟩)] [(0, 1)], [.c (.string ⟨#[120]⟩)], none, [], [], false⟩,
        ⟨some 4, .build [(.slice none 0 0), (.slice none 0 0)] [(0, 1), (1, 1)], [.t 2, .t 3], none, [], [], false⟩,
        ⟨some 1, .alloc 2 [(.slice none 0 0), (.slice none 0 0)] [], [], none, [], [], false⟩,
        ⟨none, .store 2 false, [.t 1, .t 4], none, [], [], false⟩])
      (.seq
        (.ops [
          ⟨some 5, .load 2 true, [.t 1], none, [], [], false⟩,
          ⟨some 6, .call "haberdash/scope.Right" [], [.t 5], none, [], [], false⟩,
          ⟨some 7, .id, [.t 6], none, [], [], false⟩,
          ⟨some 8, .load 2 true, [.t 1], (some (7, true)), [], [], false⟩,
          ⟨some 9, .build [(.string ⟨#[]⟩), (.string ⟨#[]⟩), (.int .i64 0), (.bool false)] [(0, 1), (1, 1)], [.c (.string ⟨#[98]⟩), .c (.string ⟨#[120]⟩)], (some (7, true)), [], [], false⟩,
          ⟨some 10, .call "haberdash/scope.Has" [], [.t 8, .t 9], (some (7, true)), [], [], false⟩,
          ⟨some 11, .pick, [.t 7, .t 10, .c (.bool false)], none, [], [], false⟩,
          ⟨some 12, .id, [.t 11], none, [], [], false⟩,
          ⟨some 13, .load 2 true, [.t 1], (some (12, true)), [], [], false⟩,
          ⟨some 14, .build [(.string ⟨#[]⟩), (.string ⟨#[]⟩), (.int .i64 0), (.bool false)] [(0, 1), (1, 1)], [.c (.string ⟨#[98]⟩), .c (.string ⟨#[121]⟩)], (some (12, true)), [], [], false⟩,
          ⟨some 15, .call "haberdash/scope.Has" [], [.t 13, .t 14], (some (12, true)), [], [], false⟩,
          ⟨some 16, .un .not, [.t 15], (some (12, true)), [], [], false⟩,
          ⟨some 17, .pick, [.t 12, .t 16, .c (.bool false)], none, [], [], false⟩,
          ⟨some 18, .id, [.t 17], none, [], [], false⟩,
          ⟨some 19, .build [(.slice none 0 0), (.slice none 0 0)] [], [], (some (18, true)), [], [], false⟩,
          ⟨some 20, .build [(.string ⟨#[]⟩), (.string ⟨#[]⟩), (.int .i64 0), (.bool false)] [], [], (some (18, true)), [], [], false⟩,
          ⟨some 21, .call "haberdash/scope.Has" [], [.t 19, .t 20], (some (18, true)), [], [], false⟩,
          ⟨some 22, .pick, [.t 18, .t 21, .c (.bool false)], none, [], [], false⟩,
          ⟨some 0, .id, [.t 22], none, [], [], false⟩])
        .ret)))
def f_law11_awake : IFn := ⟨23, 3, [.tmp 0], f_law11_awake_B⟩
def f_help_Own_string__L0 : ICode :=
  (.seq
    (.seq
      (.ops [
        ⟨some 22, .id, [.t 7], none, [], [], false⟩,
        ⟨some 23, .id, [.t 6], none, [], [], false⟩,
        ⟨some 24, .lenSlice, [.t 23], none, [], [], false⟩,
        ⟨some 25, .bin .lss, [.t 22, .t 24], none, [], [], false⟩])
      (.cond (.t 25)
        .skip
        (.exit 0)))
    (.seq
      (.block 1
        (.ops [
          ⟨some 28, .id, [.t 6], none, [], [], false⟩,
          ⟨some 29, .id, [.t 7], none, [], [], false⟩,
          ⟨some 30, .id, [.t 1], none, [], [], false⟩,
          ⟨some 31, .indexAddr 1, [.t 28, .t 29], none, [], [], false⟩,
          ⟨none, .store 1 false, [.t 31, .t 30], none, [], [], false⟩]))
      (.ops [
        ⟨some 26, .id, [.t 7], none, [], [], false⟩,
        ⟨some 27, .bin .add, [.t 26, .c (.int .i64 1)], none, [], [], false⟩,
        ⟨some 7, .id, [.t 27], none, [], [], false⟩])))
def f_help_Own_string__H0 (t1 t5 t6 t7 : AV) : List AV := [.dead, t1, .dead, .dead, .dead, t5, t6, t7, .dead, .dead, .dead, .dead, .dead, .dead, .dead, .dead, .dead, .dead, .dead, .dead, .dead, .dead, .dead, .dead, .dead, .dead, .dead, .dead, .dead, .dead, .dead, .dead, .dead]
def f_help_Own_string__B : ICode :=
  (.seq
    (.ops [
      ⟨some 4, .id, [.c (.slice none 0 0)], none, [], [], false⟩])
    (.seq
      (.ops [
        ⟨some 8, .id, [.t 0], none, [], [], false⟩,
        ⟨some 9, .lenSlice, [.t 8], none, [], [], false⟩,
        ⟨some 10, .bin .add, [.t 9, .c (.int .i64 3)], none, [], [], false⟩,
        ⟨some 11, .makeSlice 0 1 16 [(.string ⟨#[]⟩)], [.c (.int .i64 0), .t 10], none, [], [], false⟩,
        ⟨some 5, .id, [.t 11], none, [], [], false⟩])
      (.seq
        (.ops [
          ⟨some 12, .id, [.t 5], none, [], [], false⟩,
          ⟨some 13, .id, [.t 0], none, [], [], false⟩,
          ⟨some 14, .append 1 false 1 16, [.t 12, .t 13], none, [], [], false⟩,
          ⟨some 5, .id, [.t 14], none, [], [], false⟩])
        (.seq
          (.ops [
            ⟨some 15, .id, [.t 5], none, [], [], false⟩,
            ⟨some 16, .id, [.t 0], none, [], [], false⟩,
            ⟨some 17, .lenSlice, [.t 16], none, [], [], false⟩,
            ⟨some 18, .bin .add, [.t 17, .c (.int .i64 3)], none, [], [], false⟩,
            ⟨some 19, .slice 1 false true false, [.t 15, .t 18], none, [], [], false⟩,
            ⟨some 6, .id, [.t 19], none, [], [], false⟩])
          (.seq
            (.seq
              (.ops [
                ⟨some 20, .id, [.t 0], none, [], [], false⟩,
                ⟨some 21, .lenSlice, [.t 20], none, [], [], false⟩,
                ⟨some 7, .id, [.t 21], none, [], [], false⟩])
              (.block 0
                (.loop [0, 2, 3, 4, 8, 9, 10, 11, 12, 13, 14, 15, 16, 17, 18, 19, 20, 21, 22, 23, 24, 25, 26, 27, 28, 29, 30, 31, 32] [] f_help_Own_string__L0)))
            (.seq
              (.ops [
                ⟨some 32, .id, [.t 5], none, [], [], false⟩,
                ⟨some 4, .id, [.t 32], none, [], [], false⟩])
              .ret))))))
def f_help_Own_string_ : IFn := ⟨33, 2, [.tmp 4], f_help_Own_string__B⟩
def f_scope_Right_B : ICode :=
  (.seq
    (.ops [
      ⟨some 1, .box 0, [.t 0], none, [], [], false⟩,
      ⟨some 2, .id, [.c (.bool false)], none, [], [], false⟩])
    (.seq
      (.ops [
        ⟨some 3, .fieldAddr 0, [.t 1], none, [], [], false⟩,
        ⟨some 4, .load 1 false, [.t 3], none, [], [], false⟩,
        ⟨some 5, .call "(haberdash/scope.names).right" [], [.t 4], none, [], [], false⟩,
        ⟨some 6, .id, [.t 5], none, [], [], false⟩,
        ⟨some 7, .fieldAddr 1, [.t 1], (some (6, true)), [], [], false⟩,
        ⟨some 8, .load 1 false, [.t 7], (some (6, true)), [], [], false⟩,
        ⟨some 9, .call "(haberdash/scope.names).right" [], [.t 8], (some (6, true)), [], [], false⟩,
        ⟨some 10, .pick, [.t 6, .t 9, .c (.bool false)], none, [], [], false⟩,
        ⟨some 2, .id, [.t 10], none, [], [], false⟩])
      .ret))
def f_scope_Right : IFn := ⟨11, 1, [.tmp 2], f_scope_Right_B⟩
def f_ref10_Scope_B : ICode :=
  (.seq
    (.ops [
      ⟨some 1, .box 0, [.t 0], none, [], [], false⟩,
      ⟨some 2, .id, [.c (.bool false)], none, [], [], false⟩])
    (.seq
      (.ops [
        ⟨some 3, .fieldAddr 0, [.t 1], none, [], [], false⟩,
        ⟨some 4, .load 1 false, [.t 3], none, [], [], false⟩,
        ⟨some 5, .call "haberdash/haberdashref10.names" [], [.t 4, .c (.int .i64 20)], none, [], [], false⟩,
        ⟨some 6, .id, [.t 5], none, [], [], false⟩,
        ⟨some 7, .fieldAddr 1, [.t 1], (some (6, true)), [], [], false⟩,
        ⟨some 8, .load 1 false, [.t 7], (some (6, true)), [], [], false⟩,
        ⟨some 9, .call "haberdash/haberdashref10.names" [], [.t 8, .c (.int .i64 20)], (some (6, true)), [], [], false⟩,
        ⟨some 10, .pick, [.t 6, .t 9, .c (.bool false)], none, [], [], false⟩,
        ⟨some 2, .id, [.t 10], none, [], [], false⟩])
      .ret))
def f_ref10_Scope : IFn := ⟨11, 1, [.tmp 2], f_ref10_Scope_B⟩
def f_scope_Has_B : ICode :=
  (.seq
    (.ops [
      ⟨some 2, .box 0, [.t 0], none, [], [], false⟩,
      ⟨some 3, .box 1, [.t 1], none, [], [], false⟩,
      ⟨some 4, .id, [.c (.bool false)], none, [], [], false⟩])
    (.seq
      (.ops [
        ⟨some 5, .fieldAddr 0, [.t 2], none, [], [], false⟩,
        ⟨some 6, .load 1 false, [.t 5], none, [], [], false⟩,
        ⟨some 7, .lenSlice, [.t 6], none, [], [], false⟩,
        ⟨some 8, .fieldAddr 1, [.t 2], none, [], [], false⟩,
        ⟨some 9, .load 1 false, [.t 8], none, [], [], false⟩,
        ⟨some 10, .lenSlice, [.t 9], none, [], [], false⟩,
        ⟨some 11, .bin .add, [.t 7, .t 10], none, [], [], false⟩,
        ⟨some 12, .bin .eql, [.t 11, .c (.int .i64 0)], none, [], [], false⟩,
        ⟨some 13, .id, [.t 12], none, [], [], false⟩,
        ⟨some 14, .fieldAddr 0, [.t 2], (some (13, false)), [], [], false⟩,
        ⟨some 15, .load 1 false, [.t 14], (some (13, false)), [], [], false⟩,
        ⟨some 16, .fieldAddr 0, [.t 3], (some (13, false)), [], [], false⟩,
        ⟨some 17, .load 1 false, [.t 16], (some (13, false)), [], [], false⟩,
        ⟨some 18, .call "(haberdash/scope.names).has" [], [.t 15, .t 17], (some (13, false)), [], [], false⟩,
        ⟨some 19, .pick, [.t 13, .c (.bool true), .t 18], none, [], [], false⟩,
        ⟨some 20, .id, [.t 19], none, [], [], false⟩,
        ⟨some 21, .fieldAddr 1, [.t 2], (some (20, false)), [], [], false⟩,
        ⟨some 22, .load 1 false, [.t 21], (some (20, false)), [], [], false⟩,
        ⟨some 23, .fieldAddr 1, [.t 3], (some (20, false)), [], [], false⟩,
        ⟨some 24, .load 1 false, [.t 23], (some (20, false)), [], [], false⟩,
        ⟨some 25, .call "(haberdash/scope.names).has" [], [.t 22, .t 24], (some (20, false)), [], [], false⟩,
        ⟨some 26, .pick, [.t 20, .c (.bool true), .t 25], none, [], [], false⟩,
        ⟨some 4, .id, [.t 26], none, [], [], false⟩])
      .ret))
def f_scope_Has : IFn := ⟨27, 2, [.tmp 4], f_scope_Has_B⟩
def f_ref10_Has_B : ICode :=
  (.seq
    (.ops [
      ⟨some 2, .box 0, [.t 0], none, [], [], false⟩,
      ⟨some 3, .box 1, [.t 1], none, [], [], false⟩,
      ⟨some 4, .id, [.c (.bool false)], none, [], [], false⟩])
    (.seq
      (.ops [
        ⟨some 5, .fieldAddr 0, [.t 2], none, [], [], false⟩,
        ⟨some 6, .load 1 false, [.t 5], none, [], [], false⟩,
        ⟨some 7, .lenSlice, [.t 6], none, [], [], false⟩,
        ⟨some 8, .bin .eql, [.t 7, .c (.int .i64 0)], none, [], [], false⟩,
        ⟨some 9, .id, [.t 8], none, [], [], false⟩,
        ⟨some 10, .fieldAddr 1, [.t 2], (some (9, true)), [], [], false⟩,
        ⟨some 11, .load 1 false, [.t 10], (some (9, true)), [], [], false⟩,
        ⟨some 12, .lenSlice, [.t 11], (some (9, true)), [], [], false⟩,
        ⟨some 13, .bin .eql, [.t 12, .c (.int .i64 0)], (some (9, true)), [], [], false⟩,
        ⟨some 14, .pick, [.t 9, .t 13, .c (.bool false)], none, [], [], false⟩,
        ⟨some 15, .id, [.t 14], none, [], [], false⟩,
        ⟨some 16, .fieldAddr 0, [.t 2], (some (15, false)), [], [], false⟩,
        ⟨some 17, .load 1 false, [.t 16], (some (15, false)), [], [], false⟩,
        ⟨some 18, .fieldAddr 0, [.t 3], (some (15, false)), [], [], false⟩,
        ⟨some 19, .load 1 false, [.t 18], (some (15, false)), [], [], false⟩,
        ⟨some 20, .call "haberdash/haberdashref10.has" [], [.t 17, .t 19], (some (15, false)), [], [], false⟩,
        ⟨some 21, .pick, [.t 15, .c (.bool true), .t 20], none, [], [], false⟩,
        ⟨some 22, .id, [.t 21], none, [], [], false⟩,
        ⟨some 23, .fieldAddr 1, [.t 2], (some (22, false)), [], [], false⟩,
        ⟨some 24, .load 1 false, [.t 23], (some (22, false)), [], [], false⟩,
        ⟨some 25, .fieldAddr 1, [.t 3], (some (22, false)), [], [], false⟩,
        ⟨some 26, .load 1 false, [.t 25], (some (22, false)), [], [], false⟩,
        ⟨some 27, .call "haberdash/haberdashref10.has" [], [.t 24, .t 26], (some (22, false)), [], [], false⟩,
        ⟨some 28, .pick, [.t 22, .c (.bool true), .t 27], none, [], [], false⟩,
        ⟨some 4, .id, [.t 28], none, [], [], false⟩])
      .ret))
def f_ref10_Has : IFn := ⟨29, 2, [.tmp 4], f_ref10_Has_B⟩
def f_help_Kept_string__L0 : ICode :=
  (.seq
    (.seq
      (.ops [
        ⟨some 28, .id, [.t 8], none, [], [], false⟩,
        ⟨some 29, .id, [.t 7], none, [], [], false⟩,
        ⟨some 30, .lenSlice, [.t 29], none, [], [], false⟩,
        ⟨some 31, .bin .lss, [.t 28, .t 30], none, [], [], false⟩])
      (.cond (.t 31)
        .skip
        (.exit 0)))
    (.seq
      (.block 1
        (.seq
          (.ops [
            ⟨some 34, .id, [.t 7], none, [], [], false⟩,
            ⟨some 35, .id, [.t 8], none, [], [], false⟩,
            ⟨some 36, .indexAddr 1, [.t 34, .t 35], none, [], [], false⟩,
            ⟨some 37, .load 1 false, [.t 36], none, [], [], false⟩,
            ⟨some 38, .id, [.t 2], none, [], [], false⟩,
            ⟨some 39, .bin .neq, [.t 37, .t 38], none, [], [], false⟩])
          (.cond (.t 39)
            (.seq
              (.ops [
                ⟨some 6, .id, [.c (.bool false)], none, [], [], false⟩])
              .ret)
            .skip)))
      (.ops [
        ⟨some 32, .id, [.t 8], none, [], [], false⟩,
        ⟨some 33, .bin .add, [.t 32, .c (.int .i64 1)], none, [], [], false⟩,
        ⟨some 8, .id, [.t 33], none, [], [], false⟩])))
def f_help_Kept_string__H0 (t2 t7 t8 : AV) : List AV := [.dead, .dead, t2, .dead, .dead, .dead, .dead, t7, t8, .dead, .dead, .dead, .dead, .dead, .dead, .dead, .dead, .dead, .dead, .dead, .dead, .dead, .dead, .dead, .dead, .dead, .dead, .dead, .dead, .dead, .dead, .dead, .dead, .dead, .dead, .dead, .dead, .dead, .dead, .dead]
def f_help_Kept_string__B : ICode :=
  (.seq
    (.ops [
      ⟨some 6, .id, [.c (.bool false)], none, [], [], false⟩])
    (.seq
      (.seq
        (.ops [
          ⟨some 9, .id, [.t 0], none, [], [], false⟩,
          ⟨some 10, .id, [.t 1], none, [], [], false⟩,
          ⟨some 11, .call "haberdash/haberdashhelp.Plain[string]" [], [.t 9, .t 10], none, [], [], false⟩,
          ⟨some 12, .un .not, [.t 11], none, [], [], false⟩,
          ⟨some 13, .id, [.t 12], none, [], [], false⟩,
          ⟨some 14, .id, [.t 0], (some (13, false)), [], [], false⟩,
          ⟨some 15, .cap, [.t 14], (some (13, false)), [], [], false⟩,
          ⟨some 16, .id, [.t 1], (some (13, false)), [], [], false⟩,
          ⟨some 17, .lenSlice, [.t 16], (some (13, false)), [], [], false⟩,
          ⟨some 18, .bin .add, [.t 17, .c (.int .i64 3)], (some (13, false)), [], [], false⟩,
          ⟨some 19, .bin .lss, [.t 15, .t 18], (some (13, false)), [], [], false⟩,
          ⟨some 20, .pick, [.t 13, .c (.bool true), .t 19], none, [], [], false⟩])
        (.cond (.t 20)
          (.seq
            (.ops [
              ⟨some 6, .id, [.c (.bool false)], none, [], [], false⟩])
            .ret)
          .skip))
      (.seq
        (.ops [
          ⟨some 21, .id, [.t 0], none, [], [], false⟩,
          ⟨some 22, .id, [.t 1], none, [], [], false⟩,
          ⟨some 23, .lenSlice, [.t 22], none, [], [], false⟩,
          ⟨some 24, .bin .add, [.t 23, .c (.int .i64 3)], none, [], [], false⟩,
          ⟨some 25, .slice 1 false true false, [.t 21, .t 24], none, [], [], false⟩,
          ⟨some 7, .id, [.t 25], none, [], [], false⟩])
        (.seq
          (.seq
            (.ops [
              ⟨some 26, .id, [.t 1], none, [], [], false⟩,
              ⟨some 27, .lenSlice, [.t 26], none, [], [], false⟩,
              ⟨some 8, .id, [.t 27], none, [], [], false⟩])
            (.block 0
              (.loop [0, 1, 3, 4, 5, 6, 9, 10, 11, 12, 13, 14, 15, 16, 17, 18, 19, 20, 21, 22, 23, 24, 25, 26, 27, 28, 29, 30, 31, 32, 33, 34, 35, 36, 37, 38, 39] [] f_help_Kept_string__L0)))
          (.seq
            (.ops [
              ⟨some 6, .id, [.c (.bool true)], none, [], [], false⟩])
            .ret)))))
def f_help_Kept_string_ : IFn := ⟨40, 0, [.tmp 6], f_help_Kept_string__B⟩
def f_play_Scope_B : ICode :=
  (.seq
    (.ops [
      ⟨some 1, .box 0, [.t 0], none, [], [], false⟩,
      ⟨some 2, .alloc 3 [(.slice none 0 0), (.slice none 0 0)] [], [], none, [], [], false⟩])
    (.seq
      (.draw [
        ⟨some 3, .fieldAddr 0, [.t 1], none, [], [], false⟩,
        ⟨some 4, .load 1 false, [.t 3], none, [], [], false⟩,
        ⟨some 5, .call "haberdash/haberdashplay.some" [1], [.t 4, .c (.int .i64 3), .c (.int .i64 8), .f "haberdash/haberdashplay.Sku"], none, [], [], false⟩,
        ⟨some 6, .fieldAddr 1, [.t 1], none, [], [], false⟩,
        ⟨some 7, .load 1 false, [.t 6], none, [1], [], false⟩,
        ⟨some 8, .call "haberdash/haberdashplay.some" [2], [.t 7, .c (.int .i64 2), .c (.int .i64 3), .f "haberdash/haberdashplay.Category"], none, [], [], false⟩,
        ⟨some 9, .build [(.slice none 0 0), (.slice none 0 0)] [(0, 1), (1, 1)], [.t 5, .t 8], none, [], [], false⟩,
        ⟨none, .store 2 false, [.t 2, .t 9], none, [], [3], false⟩])
      .ret))
def f_play_Scope : IFn := ⟨10, 4, [.cell 2 2 true], f_play_Scope_B⟩
def f_play_Sku_B : ICode :=
  (.seq
    (.ops [
      ⟨some 2, .id, [.c (.string ⟨#[]⟩)], none, [], [], false⟩])
    (.seq
      (.ops [
        ⟨some 3, .id, [.t 0], none, [], [], false⟩,
        ⟨some 4, .call "haberdash/haberdashplay.Mod" [], [.t 3, .c (.int .i64 8)], none, [], [], false⟩,
        ⟨some 5, .convInt .u8, [.t 4], none, [], [], false⟩,
        ⟨some 6, .bin .add, [.c (.int .u8 97), .t 5], none, [], [], false⟩,
        ⟨some 7, .buildSlice 0 false 1 1 [(.int .u8 0)] [(0, 1)], [.t 6], none, [], [], false⟩,
        ⟨some 8, .bytesStr, [.t 7], none, [], [], false⟩,
        ⟨some 2, .id, [.t 8], none, [], [], false⟩])
      .ret))
def f_play_Sku : IFn := ⟨9, 1, [.tmp 2], f_play_Sku_B⟩
def f_play_Category_B : ICode :=
  (.seq
    (.ops [
      ⟨some 2, .id, [.c (.string ⟨#[]⟩)], none, [], [], false⟩])
    (.seq
      (.ops [
        ⟨some 3, .id, [.t 0], none, [], [], false⟩,
        ⟨some 4, .call "haberdash/haberdashplay.Mod" [], [.t 3, .c (.int .i64 3)], none, [], [], false⟩,
        ⟨some 5, .convInt .u8, [.t 4], none, [], [], false⟩,
        ⟨some 6, .bin .add, [.c (.int .u8 120), .t 5], none, [], [], false⟩,
        ⟨some 7, .buildSlice 0 false 1 1 [(.int .u8 0)] [(0, 1)], [.t 6], none, [], [], false⟩,
        ⟨some 8, .bytesStr, [.t 7], none, [], [], false⟩,
        ⟨some 2, .id, [.t 8], none, [], [], false⟩])
      .ret))
def f_play_Category : IFn := ⟨9, 1, [.tmp 2], f_play_Category_B⟩
def f_play_Mod_B : ICode :=
  (.seq
    (.ops [
      ⟨some 4, .id, [.c (.int .i64 0)], none, [], [], false⟩])
    (.seq
      (.ops [
        ⟨some 5, .id, [.t 0], none, [], [], false⟩,
        ⟨some 6, .convInt .u64, [.t 5], none, [], [], false⟩,
        ⟨some 7, .id, [.t 1], none, [], [], false⟩,
        ⟨some 8, .convInt .u64, [.t 7], none, [], [], false⟩,
        ⟨some 9, .bin .rem, [.t 6, .t 8], none, [], [], false⟩,
        ⟨some 10, .convInt .i64, [.t 9], none, [], [], false⟩,
        ⟨some 4, .id, [.t 10], none, [], [], false⟩])
      .ret))
def f_play_Mod : IFn := ⟨11, 0, [.tmp 4], f_play_Mod_B⟩
def f_play_Items_L0 : ICode :=
  (.seq
    (.seq
      (.ops [
        ⟨some 6, .id, [.t 4], none, [], [], false⟩,
        ⟨some 7, .bin .lss, [.t 6, .c (.int .i64 8)], none, [], [], false⟩])
      (.cond (.t 7)
        .skip
        (.exit 0)))
    (.seq
      (.block 1
        (.seq
          (.ops [
            ⟨some 10, .id, [.t 4], none, [], [], false⟩,
            ⟨some 11, .call "haberdash/haberdashplay.Sku" [], [.t 10], none, [], [], false⟩,
            ⟨some 12, .id, [.t 4], none, [], [], false⟩,
            ⟨some 13, .call "haberdash/haberdashplay.Category" [], [.t 12], none, [], [], false⟩,
            ⟨some 14, .id, [.t 4], none, [], [], false⟩,
            ⟨some 15, .bin .mul, [.c (.int .i64 37), .t 14], none, [], [], false⟩,
            ⟨some 16, .bin .add, [.c (.int .i64 100), .t 15], none, [], [], false⟩,
            ⟨some 17, .build [(.string ⟨#[]⟩), (.string ⟨#[]⟩), (.int .i64 0), (.bool false)] [(0, 1), (1, 1), (2, 1)], [.t 11, .t 13, .t 16], none, [], [], false⟩,
            ⟨some 5, .alloc 1 [(.string ⟨#[]⟩), (.string ⟨#[]⟩), (.int .i64 0), (.bool false)] [], [], none, [], [], false⟩,
            ⟨none, .store 4 false, [.t 5, .t 17], none, [], [], false⟩])
          (.seq
            (.seq
              (.ops [
                ⟨some 18, .id, [.t 4], none, [], [], false⟩,
                ⟨some 19, .id, [.t 0], none, [], [], false⟩,
                ⟨some 20, .lenSlice, [.t 19], none, [], [], false⟩,
                ⟨some 21, .bin .lss, [.t 18, .t 20], none, [], [], false⟩])
              (.cond (.t 21)
                (.draw [
                  ⟨some 22, .id, [.t 0], none, [], [], false⟩,
                  ⟨some 23, .id, [.t 4], none, [], [], false⟩,
                  ⟨some 24, .indexAddr 4, [.t 22, .t 23], none, [], [], false⟩,
                  ⟨some 25, .fieldAddr 1, [.t 24], none, [], [], false⟩,
                  ⟨some 26, .load 1 false, [.t 25], none, [], [], false⟩,
                  ⟨some 27, .call "haberdash/haberdashplay.pick" [], [.t 26], none, [], [], false⟩,
                  ⟨some 28, .call "haberdash/haberdashplay.Category" [], [.t 27], none, [], [], false⟩,
                  ⟨some 29, .id, [.t 0], none, [], [], false⟩,
                  ⟨some 30, .id, [.t 4], none, [], [], false⟩,
                  ⟨some 31, .indexAddr 4, [.t 29, .t 30], none, [], [], false⟩,
                  ⟨some 32, .fieldAddr 2, [.t 31], none, [], [], false⟩,
                  ⟨some 33, .load 1 false, [.t 32], none, [], [], false⟩,
                  ⟨some 34, .call "haberdash/haberdashplay.Mod64" [], [.t 33, .c (.int .i64 4000)], none, [], [], false⟩,
                  ⟨some 35, .id, [.t 0], none, [], [], false⟩,
                  ⟨some 36, .id, [.t 4], none, [], [], false⟩,
                  ⟨some 37, .indexAddr 4, [.t 35, .t 36], none, [], [], false⟩,
                  ⟨some 38, .fieldAddr 3, [.t 37], none, [], [], false⟩,
                  ⟨some 39, .load 1 false, [.t 38], none, [], [], false⟩,
                  ⟨some 40, .id, [.t 39], none, [], [], false⟩,
                  ⟨some 41, .id, [.t 4], (some (40, true)), [], [], false⟩,
                  ⟨some 42, .bin .eql, [.t 41, .c (.int .i64 7)], (some (40, true)), [], [], false⟩,
                  ⟨some 43, .pick, [.t 40, .t 42, .c (.bool false)], none, [], [], false⟩,
                  ⟨some 44, .fieldAddr 1, [.t 5], none, [], [], false⟩,
                  ⟨none, .store 1 false, [.t 44, .t 28], none, [], [1], false⟩,
                  ⟨some 45, .fieldAddr 2, [.t 5], none, [], [], false⟩,
                  ⟨none, .store 1 false, [.t 45, .t 34], none, [], [1], false⟩,
                  ⟨some 46, .fieldAddr 3, [.t 5], none, [], [], false⟩,
                  ⟨none, .store 1 false, [.t 46, .t 43], none, [], [1], false⟩])
                .skip))
            (.ops [
              ⟨some 47, .id, [.t 3], none, [], [], false⟩,
              ⟨some 48, .load 4 true, [.t 5], none, [], [], false⟩,
              ⟨some 49, .buildSlice 2 false 4 1 [(.string ⟨#[]⟩), (.string ⟨#[]⟩), (.int .i64 0), (.bool false)] [(0, 4)], [.t 48], none, [], [], false⟩,
              ⟨some 50, .append 3 false 4 48, [.t 47, .t 49], none, [], [], false⟩,
              ⟨some 3, .id, [.t 50], none, [], [], false⟩]))))
      (.ops [
        ⟨some 8, .id, [.t 4], none, [], [], false⟩,
        ⟨some 9, .bin .add, [.t 8, .c (.int .i64 1)], none, [], [], false⟩,
        ⟨some 4, .id, [.t 9], none, [], [], false⟩])))
def f_play_Items_H0 (t0 t3 t4 : AV) : List AV := [t0, .dead, .dead, t3, t4, .dead, .dead, .dead, .dead, .dead, .dead, .dead, .dead, .dead, .dead, .dead, .dead, .dead, .dead, .dead, .dead, .dead, .dead, .dead, .dead, .dead, .dead, .dead, .dead, .dead, .dead, .dead, .dead, .dead, .dead, .dead, .dead, .dead, .dead, .dead, .dead, .dead, .dead, .dead, .dead, .dead, .dead, .dead, .dead, .dead, .dead, .dead]
def f_play_Items_B : ICode :=
  (.seq
    (.ops [
      ⟨some 2, .id, [.c (.slice none 0 0)], none, [], [], false⟩])
    (.seq
      (.ops [
        ⟨some 3, .nilv 0 4, [.c (.slice none 0 0)], none, [], [], false⟩])
      (.seq
        (.seq
          (.ops [
            ⟨some 4, .id, [.c (.int .i64 0)], none, [], [], false⟩])
          (.block 0
            (.loop [1, 2, 5, 6, 7, 8, 9, 10, 11, 12, 13, 14, 15, 16, 17, 18, 19, 20, 21, 22, 23, 24, 25, 26, 27, 28, 29, 30, 31, 32, 33, 34, 35, 36, 37, 38, 39, 40, 41, 42, 43, 44, 45, 46, 47, 48, 49, 50, 51] [1, 2, 3] f_play_Items_L0)))
        (.seq
          (.ops [
            ⟨some 51, .id, [.t 3], none, [], [], false⟩,
            ⟨some 2, .id, [.t 51], none, [], [], false⟩])
          .ret))))
def f_play_Items : IFn := ⟨52, 4, [.tmp 2], f_play_Items_B⟩
def f_scope_Index_L0 : ICode :=
  (.seq
    (.ops [
      ⟨some 40, .bin .lss, [.t 39, .t 38], none, [], [], false⟩])
    (.seq
      (.cond (.t 40)
        .skip
        (.exit 2))
      (.seq
        (.block 3
          (.seq
            (.ops [
              ⟨some 41, .id, [.t 39], none, [], [], false⟩,
              ⟨some 42, .indexAddr 4, [.t 37, .t 39], none, [], [], false⟩,
              ⟨some 43, .load 4 true, [.t 42], none, [], [], false⟩,
              ⟨some 12, .alloc 3 [(.string ⟨#[]⟩), (.string ⟨#[]⟩), (.int .i64 0), (.bool false)] [], [], none, [], [], false⟩,
              ⟨some 11, .id, [.t 41], none, [], [], false⟩,
              ⟨none, .store 4 false, [.t 12, .t 43], none, [], [], false⟩])
            (.seq
              (.ops [
                ⟨some 44, .id, [.t 10], none, [], [], false⟩,
                ⟨some 45, .id, [.t 44], none, [], [], false⟩,
                ⟨some 46, .id, [.t 8], (some (45, false)), [], [], false⟩,
                ⟨some 47, .fieldAddr 0, [.t 12], (some (45, false)), [], [], false⟩,
                ⟨some 48, .load 1 false, [.t 47], (some (45, false)), [], [], false⟩,
                ⟨some 49, .callV [], [.t 46, .t 48], (some (45, false)), [], [], false⟩,
                ⟨some 50, .pick, [.t 45, .c (.bool true), .t 49], none, [], [], false⟩,
                ⟨some 51, .id, [.t 50], none, [], [], false⟩,
                ⟨some 52, .id, [.t 9], (some (51, false)), [], [], false⟩,
                ⟨some 53, .fieldAddr 1, [.t 12], (some (51, false)), [], [], false⟩,
                ⟨some 54, .load 1 false, [.t 53], (some (51, false)), [], [], false⟩,
                ⟨some 55, .callV [], [.t 52, .t 54], (some (51, false)), [], [], false⟩,
                ⟨some 56, .pick, [.t 51, .c (.bool true), .t 55], none, [], [], false⟩])
              (.cond (.t 56)
                (.ops [
                  ⟨some 57, .id, [.t 5], none, [], [], false⟩,
                  ⟨some 58, .id, [.t 11], none, [], [], false⟩,
                  ⟨some 59, .id, [.t 5], none, [], [], false⟩,
                  ⟨some 60, .id, [.t 11], none, [], [], false⟩,
                  ⟨some 61, .indexAddr 1, [.t 59, .t 60], none, [], [], false⟩,
                  ⟨some 62, .load 1 false, [.t 61], none, [], [], false⟩,
                  ⟨some 63, .id, [.t 6], none, [], [], false⟩,
                  ⟨some 64, .buildSlice 4 false 1 1 [(.int .i64 0)] [(0, 1)], [.t 63], none, [], [], false⟩,
                  ⟨some 65, .append 0 false 1 8, [.t 62, .t 64], none, [], [], false⟩,
                  ⟨some 66, .indexAddr 1, [.t 57, .t 58], none, [], [], false⟩,
                  ⟨none, .store 1 false, [.t 66, .t 65], none, [], [], false⟩])
                .skip))))
        (.ops [
          ⟨some 67, .bin .add, [.t 39, .c (.int .i64 1)], none, [], [], false⟩,
          ⟨some 39, .id, [.t 67], none, [], [], false⟩]))))
def f_scope_Index_H0 (t0 t5 t6 t8 t9 t10 t16 t17 t18 t37 t38 t39 : AV) : List AV := [t0, .dead, .dead, .dead, .dead, t5, t6, .dead, t8, t9, t10, .dead, .dead, .dead, .dead, .dead, t16, t17, t18, .dead, .dead, .dead, .dead, .dead, .dead, .dead, .dead, .dead, .dead, .dead, .dead, .dead, .dead, .dead, .dead, .dead, .dead, t37, t38, t39, .dead, .dead, .dead, .dead, .dead, .dead, .dead, .dead, .dead, .dead, .dead, .dead, .dead, .dead, .dead, .dead, .dead, .dead, .dead, .dead, .dead, .dead, .dead, .dead, .dead, .dead, .dead, .dead, .dead, .dead]
def f_scope_Index_L1 : ICode :=
  (.seq
    (.ops [
      ⟨some 19, .bin .lss, [.t 18, .t 17], none, [], [], false⟩])
    (.seq
      (.cond (.t 19)
        .skip
        (.exit 0))
      (.seq
        (.block 1
          (.seq
            (.ops [
              ⟨some 20, .id, [.t 18], none, [], [], false⟩,
              ⟨some 21, .indexAddr 2, [.t 16, .t 18], none, [], [], false⟩,
              ⟨some 22, .load 2 true, [.t 21], none, [], [], false⟩,
              ⟨some 7, .alloc 2 [(.slice none 0 0), (.slice none 0 0)] [], [], none, [], [], false⟩,
              ⟨some 6, .id, [.t 20], none, [], [], false⟩,
              ⟨none, .store 2 false, [.t 7, .t 22], none, [], [], false⟩])
            (.seq
              (.draw [
                ⟨some 23, .fieldAddr 0, [.t 7], none, [], [], false⟩,
                ⟨some 24, .load 1 false, [.t 23], none, [], [], false⟩,
                ⟨some 25, .makeFunc "(haberdash/scope.names).has" 1, [.t 24], none, [], [], false⟩,
                ⟨some 26, .fieldAddr 1, [.t 7], none, [], [], false⟩,
                ⟨some 27, .load 1 false, [.t 26], none, [], [], false⟩,
                ⟨some 28, .makeFunc "(haberdash/scope.names).has" 1, [.t 27], none, [], [], false⟩,
                ⟨some 8, .id, [.t 25], none, [], [], false⟩,
                ⟨some 9, .id, [.t 28], none, [], [], false⟩])
              (.seq
                (.ops [
                  ⟨some 29, .fieldAddr 0, [.t 7], none, [], [], false⟩,
                  ⟨some 30, .load 1 false, [.t 29], none, [], [], false⟩,
                  ⟨some 31, .lenSlice, [.t 30], none, [], [], false⟩,
                  ⟨some 32, .fieldAddr 1, [.t 7], none, [], [], false⟩,
                  ⟨some 33, .load 1 false, [.t 32], none, [], [], false⟩,
                  ⟨some 34, .lenSlice, [.t 33], none, [], [], false⟩,
                  ⟨some 35, .bin .add, [.t 31, .t 34], none, [], [], false⟩,
                  ⟨some 36, .bin .eql, [.t 35, .c (.int .i64 0)], none, [], [], false⟩,
                  ⟨some 10, .id, [.t 36], none, [], [], false⟩])
                (.seq
                  (.ops [
                    ⟨some 37, .id, [.t 0], none, [], [], false⟩,
                    ⟨some 38, .lenSlice, [.t 37], none, [], [], false⟩,
                    ⟨some 39, .id, [.c (.int .i64 0)], none, [], [], false⟩])
                  (.block 2
                    (.loop [1, 2, 3, 4, 7, 11, 12, 13, 14, 15, 19, 20, 21, 22, 23, 24, 25, 26, 27, 28, 29, 30, 31, 32, 33, 34, 35, 36, 40, 41, 42, 43, 44, 45, 46, 47, 48, 49, 50, 51, 52, 53, 54, 55, 56, 57, 58, 59, 60, 61, 62, 63, 64, 65, 66, 67, 68, 69] [3, 4, 0] f_scope_Index_L0)))))))
        (.ops [
          ⟨some 68, .bin .add, [.t 18, .c (.int .i64 1)], none, [], [], false⟩,
          ⟨some 18, .id, [.t 68], none, [], [], false⟩]))))
def f_scope_Index_H1 (t0 t5 t16 t17 t18 : AV) : List AV := [t0, .dead, .dead, .dead, .dead, t5, .dead, .dead, .dead, .dead, .dead, .dead, .dead, .dead, .dead, .dead, t16, t17, t18, .dead, .dead, .dead, .dead, .dead, .dead, .dead, .dead, .dead, .dead, .dead, .dead, .dead, .dead, .dead, .dead, .dead, .dead, .dead, .dead, .dead, .dead, .dead, .dead, .dead, .dead, .dead, .dead, .dead, .dead, .dead, .dead, .dead, .dead, .dead, .dead, .dead, .dead, .dead, .dead, .dead, .dead, .dead, .dead, .dead, .dead, .dead, .dead, .dead, .dead, .dead]
def f_scope_Index_B : ICode :=
  (.seq
    (.ops [
      ⟨some 4, .id, [.c (.slice none 0 0)], none, [], [], false⟩])
    (.seq
      (.ops [
        ⟨some 13, .id, [.t 0], none, [], [], false⟩,
        ⟨some 14, .lenSlice, [.t 13], none, [], [], false⟩,
        ⟨some 15, .makeSlice 1 1 24 [(.slice none 0 0)], [.t 14, .t 14], none, [], [], false⟩,
        ⟨some 5, .id, [.t 15], none, [], [], false⟩])
      (.seq
        (.seq
          (.ops [
            ⟨some 16, .id, [.t 1], none, [], [], false⟩,
            ⟨some 17, .lenSlice, [.t 16], none, [], [], false⟩,
            ⟨some 18, .id, [.c (.int .i64 0)], none, [], [], false⟩])
          (.block 0
            (.loop [1, 2, 3, 4, 6, 7, 8, 9, 10, 11, 12, 13, 14, 15, 19, 20, 21, 22, 23, 24, 25, 26, 27, 28, 29, 30, 31, 32, 33, 34, 35, 36, 37, 38, 39, 40, 41, 42, 43, 44, 45, 46, 47, 48, 49, 50, 51, 52, 53, 54, 55, 56, 57, 58, 59, 60, 61, 62, 63, 64, 65, 66, 67, 68, 69] [2, 3, 4, 0] f_scope_Index_L1)))
        (.seq
          (.ops [
            ⟨some 69, .id, [.t 5], none, [], [], false⟩,
            ⟨some 4, .id, [.t 69], none, [], [], false⟩])
          .ret))))
def f_scope_Index : IFn := ⟨70, 5, [.tmp 4], f_scope_Index_B⟩
def f_ref10_Index_L0 : ICode :=
  (.seq
    (.seq
      (.ops [
        ⟨some 15, .id, [.t 8], none, [], [], false⟩,
        ⟨some 16, .id, [.t 1], none, [], [], false⟩,
        ⟨some 17, .lenSlice, [.t 16], none, [], [], false⟩,
        ⟨some 18, .bin .lss, [.t 15, .t 17], none, [], [], false⟩])
      (.cond (.t 18)
        .skip
        (.exit 2)))
    (.seq
      (.block 3
        (.seq
          (.draw [
            ⟨some 21, .id, [.t 1], none, [], [], false⟩,
            ⟨some 22, .id, [.t 8], none, [], [], false⟩,
            ⟨some 23, .indexAddr 2, [.t 21, .t 22], none, [], [], false⟩,
            ⟨some 24, .load 2 true, [.t 23], none, [], [], false⟩,
            ⟨some 25, .id, [.t 0], none, [], [], false⟩,
            ⟨some 26, .id, [.t 6], none, [], [], false⟩,
            ⟨some 27, .indexAddr 4, [.t 25, .t 26], none, [], [], false⟩,
            ⟨some 28, .load 4 true, [.t 27], none, [], [], false⟩,
            ⟨some 29, .call "haberdash/haberdashref10.Has" [], [.t 24, .t 28], none, [], [], false⟩])
          (.cond (.t 29)
            (.ops [
              ⟨some 30, .id, [.t 7], none, [], [], false⟩,
              ⟨some 31, .id, [.t 8], none, [], [], false⟩,
              ⟨some 32, .buildSlice 2 false 1 1 [(.int .i64 0)] [(0, 1)], [.t 31], none, [], [], false⟩,
              ⟨some 33, .append 3 false 1 8, [.t 30, .t 32], none, [], [], false⟩,
              ⟨some 7, .id, [.t 33], none, [], [], false⟩])
            .skip)))
      (.ops [
        ⟨some 19, .id, [.t 8], none, [], [], false⟩,
        ⟨some 20, .bin .add, [.t 19, .c (.int .i64 1)], none, [], [], false⟩,
        ⟨some 8, .id, [.t 20], none, [], [], false⟩])))
def f_ref10_Index_H0 (t0 t1 t5 t6 t7 t8 : AV) : List AV := [t0, t1, .dead, .dead, .dead, t5, t6, t7, t8, .dead, .dead, .dead, .dead, .dead, .dead, .dead, .dead, .dead, .dead, .dead, .dead, .dead, .dead, .dead, .dead, .dead, .dead, .dead, .dead, .dead, .dead, .dead, .dead, .dead, .dead, .dead, .dead, .dead, .dead]
def f_ref10_Index_L1 : ICode :=
  (.seq
    (.seq
      (.ops [
        ⟨some 9, .id, [.t 6], none, [], [], false⟩,
        ⟨some 10, .id, [.t 0], none, [], [], false⟩,
        ⟨some 11, .lenSlice, [.t 10], none, [], [], false⟩,
        ⟨some 12, .bin .lss, [.t 9, .t 11], none, [], [], false⟩])
      (.cond (.t 12)
        .skip
        (.exit 0)))
    (.seq
      (.block 1
        (.seq
          (.ops [
            ⟨some 7, .nilv 1 1, [.c (.slice none 0 0)], none, [], [], false⟩])
          (.seq
            (.seq
              (.ops [
                ⟨some 8, .id, [.c (.int .i64 0)], none, [], [], false⟩])
              (.block 2
                (.loop [2, 3, 4, 9, 10, 11, 12, 13, 14, 15, 16, 17, 18, 19, 20, 21, 22, 23, 24, 25, 26, 27, 28, 29, 30, 31, 32, 33, 34, 35, 36, 37, 38] [2, 3] f_ref10_Index_L0)))
            (.ops [
              ⟨some 34, .id, [.t 5], none, [], [], false⟩,
              ⟨some 35, .id, [.t 7], none, [], [], false⟩,
              ⟨some 36, .buildSlice 4 true 1 1 [(.slice none 0 0)] [(0, 1)], [.t 35], none, [], [], false⟩,
              ⟨some 37, .append 5 true 1 24, [.t 34, .t 36], none, [], [], false⟩,
              ⟨some 5, .id, [.t 37], none, [], [], false⟩]))))
      (.ops [
        ⟨some 13, .id, [.t 6], none, [], [], false⟩,
        ⟨some 14, .bin .add, [.t 13, .c (.int .i64 1)], none, [], [], false⟩,
        ⟨some 6, .id, [.t 14], none, [], [], false⟩])))
def f_ref10_Index_H1 (t0 t1 t5 t6 : AV) : List AV := [t0, t1, .dead, .dead, .dead, t5, t6, .dead, .dead, .dead, .dead, .dead, .dead, .dead, .dead, .dead, .dead, .dead, .dead, .dead, .dead, .dead, .dead, .dead, .dead, .dead, .dead, .dead, .dead, .dead, .dead, .dead, .dead, .dead, .dead, .dead, .dead, .dead, .dead]
def f_ref10_Index_B : ICode :=
  (.seq
    (.ops [
      ⟨some 4, .id, [.c (.slice none 0 0)], none, [], [], false⟩])
    (.seq
      (.ops [
        ⟨some 5, .nilv 0 1, [.c (.slice none 0 0)], none, [], [], false⟩])
      (.seq
        (.seq
          (.ops [
            ⟨some 6, .id, [.c (.int .i64 0)], none, [], [], false⟩])
          (.block 0
            (.loop [2, 3, 4, 7, 8, 9, 10, 11, 12, 13, 14, 15, 16, 17, 18, 19, 20, 21, 22, 23, 24, 25, 26, 27, 28, 29, 30, 31, 32, 33, 34, 35, 36, 37, 38] [1, 2, 3, 4, 5] f_ref10_Index_L1)))
        (.seq
          (.ops [
            ⟨some 38, .id, [.t 5], none, [], [], false⟩,
            ⟨some 4, .id, [.t 38], none, [], [], false⟩])
          .ret))))
def f_ref10_Index : IFn := ⟨39, 6, [.tmp 4], f_ref10_Index_B⟩
def f_help_Lists_B : ICode :=
  (.seq
    (.ops [
      ⟨some 4, .id, [.c (.bool false)], none, [], [], false⟩])
    (.seq
      (.ops [
        ⟨some 5, .id, [.t 0], none, [], [], false⟩,
        ⟨some 6, .id, [.t 1], none, [], [], false⟩,
        ⟨some 7, .call "haberdash/haberdashhelp.Same[[]int]" [], [.t 5, .t 6, .f "haberdash/haberdashhelp.Plain[int]"], none, [], [], false⟩,
        ⟨some 4, .id, [.t 7], none, [], [], false⟩])
      .ret))
def f_help_Lists : IFn := ⟨8, 0, [.tmp 4], f_help_Lists_B⟩
def f__scope_names__right_B : ICode :=
  (.seq
    (.ops [
      ⟨some 2, .id, [.c (.bool false)], none, [], [], false⟩])
    (.seq
      (.ops [
        ⟨some 3, .id, [.t 0], none, [], [], false⟩,
        ⟨some 4, .lenSlice, [.t 3], none, [], [], false⟩,
        ⟨some 5, .bin .leq, [.t 4, .c (.int .i64 20)], none, [], [], false⟩,
        ⟨some 6, .id, [.t 5], none, [], [], false⟩,
        ⟨some 7, .id, [.t 0], (some (6, true)), [], [], false⟩,
        ⟨some 8, .call "haberdash/goods.Rise" [], [.t 7], (some (6, true)), [], [], false⟩,
        ⟨some 9, .pick, [.t 6, .t 8, .c (.bool false)], none, [], [], false⟩,
        ⟨some 10, .id, [.t 9], none, [], [], false⟩,
        ⟨some 11, .id, [.t 0], (some (10, true)), [], [], false⟩,
        ⟨some 12, .call "slices.ContainsFunc[haberdash/scope.names,string]" [], [.t 11, .f "(haberdash/scope.names).right$1"], (some (10, true)), [], [], false⟩,
        ⟨some 13, .un .not, [.t 12], (some (10, true)), [], [], false⟩,
        ⟨some 14, .pick, [.t 10, .t 13, .c (.bool false)], none, [], [], false⟩,
        ⟨some 2, .id, [.t 14], none, [], [], false⟩])
      .ret))
def f__scope_names__right : IFn := ⟨15, 0, [.tmp 2], f__scope_names__right_B⟩
def f_ref10_names_L0 : ICode :=
  (.seq
    (.seq
      (.ops [
        ⟨some 6, .id, [.t 5], none, [], [], false⟩,
        ⟨some 7, .id, [.t 0], none, [], [], false⟩,
        ⟨some 8, .lenSlice, [.t 7], none, [], [], false⟩,
        ⟨some 9, .bin .lss, [.t 6, .t 8], none, [], [], false⟩])
      (.cond (.t 9)
        .skip
        (.exit 0)))
    (.seq
      (.block 1
        (.seq
          (.draw [
            ⟨some 12, .id, [.t 0], none, [], [], false⟩,
            ⟨some 13, .id, [.t 5], none, [], [], false⟩,
            ⟨some 14, .indexAddr 1, [.t 12, .t 13], none, [], [], false⟩,
            ⟨some 15, .load 1 false, [.t 14], none, [], [], false⟩,
            ⟨some 16, .call "haberdash/haberdashref10.Name" [], [.t 15], none, [], [], false⟩,
            ⟨some 17, .un .not, [.t 16], none, [], [], false⟩,
            ⟨some 18, .id, [.t 17], none, [], [], false⟩,
            ⟨some 19, .id, [.t 5], (some (18, false)), [], [], false⟩,
            ⟨some 20, .bin .gtr, [.t 19, .c (.int .i64 0)], (some (18, false)), [], [], false⟩,
            ⟨some 21, .id, [.t 20], (some (18, false)), [], [], false⟩,
            ⟨some 22, .id, [.t 0], (some (21, true)), [], [], false⟩,
            ⟨some 23, .id, [.t 5], (some (21, true)), [], [], false⟩,
            ⟨some 24, .indexAddr 1, [.t 22, .t 23], (some (21, true)), [], [], false⟩,
            ⟨some 25, .load 1 false, [.t 24], (some (21, true)), [], [], false⟩,
            ⟨some 26, .id, [.t 0], (some (21, true)), [], [], false⟩,
            ⟨some 27, .id, [.t 5], (some (21, true)), [], [], false⟩,
            ⟨some 28, .bin .sub, [.t 27, .c (.int .i64 1)], (some (21, true)), [], [], false⟩,
            ⟨some 29, .indexAddr 1, [.t 26, .t 28], (some (21, true)), [], [], false⟩,
            ⟨some 30, .load 1 false, [.t 29], (some (21, true)), [], [], false⟩,
            ⟨some 31, .bin .leq, [.t 25, .t 30], (some (21, true)), [], [], false⟩,
            ⟨some 32, .pick, [.t 21, .t 31, .c (.bool false)], (some (18, false)), [], [], false⟩,
            ⟨some 33, .pick, [.t 18, .c (.bool true), .t 32], none, [], [], false⟩])
          (.cond (.t 33)
            (.seq
              (.ops [
                ⟨some 4, .id, [.c (.bool false)], none, [], [], false⟩])
              .ret)
            .skip)))
      (.ops [
        ⟨some 10, .id, [.t 5], none, [], [], false⟩,
        ⟨some 11, .bin .add, [.t 10, .c (.int .i64 1)], none, [], [], false⟩,
        ⟨some 5, .id, [.t 11], none, [], [], false⟩])))
def f_ref10_names_H0 (t0 t1 t5 : AV) : List AV := [t0, t1, .dead, .dead, .dead, t5, .dead, .dead, .dead, .dead, .dead, .dead, .dead, .dead, .dead, .dead, .dead, .dead, .dead, .dead, .dead, .dead, .dead, .dead, .dead, .dead, .dead, .dead, .dead, .dead, .dead, .dead, .dead, .dead, .dead, .dead, .dead, .dead]
def f_ref10_names_B : ICode :=
  (.seq
    (.ops [
      ⟨some 4, .id, [.c (.bool false)], none, [], [], false⟩])
    (.seq
      (.seq
        (.ops [
          ⟨some 5, .id, [.c (.int .i64 0)], none, [], [], false⟩])
        (.block 0
          (.loop [2, 3, 4, 6, 7, 8, 9, 10, 11, 12, 13, 14, 15, 16, 17, 18, 19, 20, 21, 22, 23, 24, 25, 26, 27, 28, 29, 30, 31, 32, 33, 34, 35, 36, 37] [] f_ref10_names_L0)))
      (.seq
        (.ops [
          ⟨some 34, .id, [.t 0], none, [], [], false⟩,
          ⟨some 35, .lenSlice, [.t 34], none, [], [], false⟩,
          ⟨some 36, .id, [.t 1], none, [], [], false⟩,
          ⟨some 37, .bin .leq, [.t 35, .t 36], none, [], [], false⟩,
          ⟨some 4, .id, [.t 37], none, [], [], false⟩])
        .ret)))
def f_ref10_names : IFn := ⟨38, 0, [.tmp 4], f_ref10_names_B⟩
def f__scope_names__has_B : ICode :=
  (.seq
    (.ops [
      ⟨some 4, .id, [.c (.bool false)], none, [], [], false⟩])
    (.seq
      (.ops [
        ⟨some 5, .id, [.t 0], none, [], [], false⟩,
        ⟨some 6, .id, [.t 1], none, [], [], false⟩,
        ⟨some 7, .call "slices.Contains[haberdash/scope.names,string]" [], [.t 5, .t 6], none, [], [], false⟩,
        ⟨some 4, .id, [.t 7], none, [], [], false⟩])
      .ret))
def f__scope_names__has : IFn := ⟨8, 0, [.tmp 4], f__scope_names__has_B⟩
def f_ref10_has_L0 : ICode :=
  (.seq
    (.seq
      (.ops [
        ⟨some 6, .id, [.t 5], none, [], [], false⟩,
        ⟨some 7, .id, [.t 0], none, [], [], false⟩,
        ⟨some 8, .lenSlice, [.t 7], none, [], [], false⟩,
        ⟨some 9, .bin .lss, [.t 6, .t 8], none, [], [], false⟩])
      (.cond (.t 9)
        .skip
        (.exit 0)))
    (.seq
      (.block 1
        (.seq
          (.ops [
            ⟨some 12, .id, [.t 0], none, [], [], false⟩,
            ⟨some 13, .id, [.t 5], none, [], [], false⟩,
            ⟨some 14, .indexAddr 1, [.t 12, .t 13], none, [], [], false⟩,
            ⟨some 15, .load 1 false, [.t 14], none, [], [], false⟩,
            ⟨some 16, .id, [.t 1], none, [], [], false⟩,
            ⟨some 17, .bin .eql, [.t 15, .t 16], none, [], [], false⟩])
          (.cond (.t 17)
            (.seq
              (.ops [
                ⟨some 4, .id, [.c (.bool true)], none, [], [], false⟩])
              .ret)
            .skip)))
      (.ops [
        ⟨some 10, .id, [.t 5], none, [], [], false⟩,
        ⟨some 11, .bin .add, [.t 10, .c (.int .i64 1)], none, [], [], false⟩,
        ⟨some 5, .id, [.t 11], none, [], [], false⟩])))
def f_ref10_has_H0 (t0 t1 t5 : AV) : List AV := [t0, t1, .dead, .dead, .dead, t5, .dead, .dead, .dead, .dead, .dead, .dead, .dead, .dead, .dead, .dead, .dead, .dead]
def f_ref10_has_B : ICode :=
  (.seq
    (.ops [
      ⟨some 4, .id, [.c (.bool false)], none, [], [], false⟩])
    (.seq
      (.seq
        (.ops [
          ⟨some 5, .id, [.c (.int .i64 0)], none, [], [], false⟩])
        (.block 0
          (.loop [2, 3, 4, 6, 7, 8, 9, 10, 11, 12, 13, 14, 15, 16, 17] [] f_ref10_has_L0)))
      (.seq
        (.ops [
          ⟨some 4, .id, [.c (.bool false)], none, [], [], false⟩])
        .ret)))
def f_ref10_has : IFn := ⟨18, 0, [.tmp 4], f_ref10_has_B⟩
def f_help_Plain_string__B : ICode :=
  (.seq
    (.ops [
      ⟨some 4, .id, [.c (.bool false)], none, [], [], false⟩])
    (.seq
      (.ops [
        ⟨some 5, .id, [.t 0], none, [], [], false⟩,
        ⟨some 6, .id, [.t 1], none, [], [], false⟩,
        ⟨some 7, .call "haberdash/haberdashhelp.Same[string]" [], [.t 5, .t 6, .f "haberdash/haberdashhelp.Plain[string]$1"], none, [], [], false⟩,
        ⟨some 4, .id, [.t 7], none, [], [], false⟩])
      .ret))
def f_help_Plain_string_ : IFn := ⟨8, 0, [.tmp 4], f_help_Plain_string__B⟩
def f_play_some_L0 : ICode :=
  (.seq
    (.seq
      (.ops [
        ⟨some 17, .id, [.t 11], none, [], [], false⟩,
        ⟨some 18, .id, [.t 0], none, [], [], false⟩,
        ⟨some 19, .lenSlice, [.t 18], none, [], [], false⟩,
        ⟨some 20, .bin .lss, [.t 17, .t 19], none, [], [], false⟩,
        ⟨some 21, .id, [.t 20], none, [], [], false⟩,
        ⟨some 22, .id, [.t 11], (some (21, true)), [], [], false⟩,
        ⟨some 23, .bin .lss, [.t 22, .c (.int .i64 4)], (some (21, true)), [], [], false⟩,
        ⟨some 24, .pick, [.t 21, .t 23, .c (.bool false)], none, [], [], false⟩,
        ⟨some 25, .id, [.t 24], none, [], [], false⟩,
        ⟨some 26, .id, [.t 9], (some (25, true)), [], [], false⟩,
        ⟨some 27, .lenSlice, [.t 26], (some (25, true)), [], [], false⟩,
        ⟨some 28, .id, [.t 1], (some (25, true)), [], [], false⟩,
        ⟨some 29, .bin .lss, [.t 27, .t 28], (some (25, true)), [], [], false⟩,
        ⟨some 30, .pick, [.t 25, .t 29, .c (.bool false)], none, [], [], false⟩])
      (.cond (.t 30)
        .skip
        (.exit 2)))
    (.seq
      (.block 3
        (.seq
          (.ops [
            ⟨some 33, .id, [.t 0], none, [], [], false⟩,
            ⟨some 34, .id, [.t 11], none, [], [], false⟩,
            ⟨some 35, .indexAddr 1, [.t 33, .t 34], none, [], [], false⟩,
            ⟨some 36, .load 1 false, [.t 35], none, [], [], false⟩,
            ⟨some 37, .call "haberdash/haberdashplay.pick" [], [.t 36], none, [], [], false⟩,
            ⟨some 38, .id, [.t 2], none, [], [], false⟩,
            ⟨some 39, .call "haberdash/haberdashplay.Mod" [], [.t 37, .t 38], none, [], [], false⟩,
            ⟨some 40, .id, [.t 10], none, [], [], false⟩,
            ⟨some 41, .bin .eql, [.t 39, .t 40], none, [], [], false⟩])
          (.cond (.t 41)
            (.seq
              (.ops [
                ⟨some 42, .id, [.t 9], none, [], [], false⟩,
                ⟨some 43, .id, [.t 3], none, [], [], false⟩,
                ⟨some 44, .id, [.t 10], none, [], [], false⟩,
                ⟨some 45, .callV [], [.t 43, .t 44], none, [], [], false⟩,
                ⟨some 46, .buildSlice 1 false 1 1 [(.string ⟨#[]⟩)] [(0, 1)], [.t 45], none, [], [], false⟩,
                ⟨some 47, .append 2 false 1 16, [.t 42, .t 46], none, [], [], false⟩,
                ⟨some 9, .id, [.t 47], none, [], [], false⟩])
              (.exit 2))
            .skip)))
      (.ops [
        ⟨some 31, .id, [.t 11], none, [], [], false⟩,
        ⟨some 32, .bin .add, [.t 31, .c (.int .i64 1)], none, [], [], false⟩,
        ⟨some 11, .id, [.t 32], none, [], [], false⟩])))
def f_play_some_H0 (t0 t1 t2 t3 t9 t10 t11 : AV) : List AV := [t0, t1, t2, t3, .dead, .dead, .dead, .dead, .dead, t9, t10, t11, .dead, .dead, .dead, .dead, .dead, .dead, .dead, .dead, .dead, .dead, .dead, .dead, .dead, .dead, .dead, .dead, .dead, .dead, .dead, .dead, .dead, .dead, .dead, .dead, .dead, .dead, .dead, .dead, .dead, .dead, .dead, .dead, .dead, .dead, .dead, .dead, .dead]
def f_play_some_L1 : ICode :=
  (.seq
    (.seq
      (.ops [
        ⟨some 12, .id, [.t 10], none, [], [], false⟩,
        ⟨some 13, .id, [.t 2], none, [], [], false⟩,
        ⟨some 14, .bin .lss, [.t 12, .t 13], none, [], [], false⟩])
      (.cond (.t 14)
        .skip
        (.exit 0)))
    (.seq
      (.block 1
        (.seq
          (.ops [
            ⟨some 11, .id, [.c (.int .i64 0)], none, [], [], false⟩])
          (.block 2
            (.loop [4, 5, 6, 7, 8, 12, 13, 14, 15, 16, 17, 18, 19, 20, 21, 22, 23, 24, 25, 26, 27, 28, 29, 30, 31, 32, 33, 34, 35, 36, 37, 38, 39, 40, 41, 42, 43, 44, 45, 46, 47, 48] [1, 2] f_play_some_L0))))
      (.ops [
        ⟨some 15, .id, [.t 10], none, [], [], false⟩,
        ⟨some 16, .bin .add, [.t 15, .c (.int .i64 1)], none, [], [], false⟩,
        ⟨some 10, .id, [.t 16], none, [], [], false⟩])))
def f_play_some_H1 (t0 t1 t2 t3 t9 t10 : AV) : List AV := [t0, t1, t2, t3, .dead, .dead, .dead, .dead, .dead, t9, t10, .dead, .dead, .dead, .dead, .dead, .dead, .dead, .dead, .dead, .dead, .dead, .dead, .dead, .dead, .dead, .dead, .dead, .dead, .dead, .dead, .dead, .dead, .dead, .dead, .dead, .dead, .dead, .dead, .dead, .dead, .dead, .dead, .dead, .dead, .dead, .dead, .dead, .dead]
def f_play_some_B : ICode :=
  (.seq
    (.ops [
      ⟨some 8, .id, [.c (.slice none 0 0)], none, [], [], false⟩])
    (.seq
      (.ops [
        ⟨some 9, .nilv 0 1, [.c (.slice none 0 0)], none, [], [], false⟩])
      (.seq
        (.seq
          (.ops [
            ⟨some 10, .id, [.c (.int .i64 0)], none, [], [], false⟩])
          (.block 0
            (.loop [4, 5, 6, 7, 8, 11, 12, 13, 14, 15, 16, 17, 18, 19, 20, 21, 22, 23, 24, 25, 26, 27, 28, 29, 30, 31, 32, 33, 34, 35, 36, 37, 38, 39, 40, 41, 42, 43, 44, 45, 46, 47, 48] [1, 2] f_play_some_L1)))
        (.seq
          (.ops [
            ⟨some 48, .id, [.t 9], none, [], [], false⟩,
            ⟨some 8, .id, [.t 48], none, [], [], false⟩])
          .ret))))
def f_play_some : IFn := ⟨49, 3, [.tmp 8], f_play_some_B⟩
def f_play_pick_L0 : ICode :=
  (.seq
    (.seq
      (.ops [
        ⟨some 7, .id, [.t 4], none, [], [], false⟩,
        ⟨some 8, .id, [.t 0], none, [], [], false⟩,
        ⟨some 9, .lenStr, [.t 8], none, [], [], false⟩,
        ⟨some 10, .bin .lss, [.t 7, .t 9], none, [], [], false⟩,
        ⟨some 11, .id, [.t 10], none, [], [], false⟩,
        ⟨some 12, .id, [.t 4], (some (11, true)), [], [], false⟩,
        ⟨some 13, .bin .lss, [.t 12, .c (.int .i64 8)], (some (11, true)), [], [], false⟩,
        ⟨some 14, .pick, [.t 11, .t 13, .c (.bool false)], none, [], [], false⟩])
      (.cond (.t 14)
        .skip
        (.exit 0)))
    (.seq
      (.block 1
        (.ops [
          ⟨some 17, .id, [.t 3], none, [], [], false⟩,
          ⟨some 18, .bin .mul, [.c (.int .i64 7), .t 17], none, [], [], false⟩,
          ⟨some 19, .id, [.t 0], none, [], [], false⟩,
          ⟨some 20, .id, [.t 4], none, [], [], false⟩,
          ⟨some 21, .indexStr, [.t 19, .t 20], none, [], [], false⟩,
          ⟨some 22, .convInt .i64, [.t 21], none, [], [], false⟩,
          ⟨some 23, .bin .add, [.t 18, .t 22], none, [], [], false⟩,
          ⟨some 3, .id, [.t 23], none, [], [], false⟩]))
      (.ops [
        ⟨some 15, .id, [.t 4], none, [], [], false⟩,
        ⟨some 16, .bin .add, [.t 15, .c (.int .i64 1)], none, [], [], false⟩,
        ⟨some 4, .id, [.t 16], none, [], [], false⟩])))
def f_play_pick_H0 (t0 t3 t4 : AV) : List AV := [t0, .dead, .dead, t3, t4, .dead, .dead, .dead, .dead, .dead, .dead, .dead, .dead, .dead, .dead, .dead, .dead, .dead, .dead, .dead, .dead, .dead, .dead, .dead, .dead]
def f_play_pick_B : ICode :=
  (.seq
    (.ops [
      ⟨some 2, .id, [.c (.int .i64 0)], none, [], [], false⟩])
    (.seq
      (.ops [
        ⟨some 5, .id, [.t 0], none, [], [], false⟩,
        ⟨some 6, .lenStr, [.t 5], none, [], [], false⟩,
        ⟨some 3, .id, [.t 6], none, [], [], false⟩])
      (.seq
        (.seq
          (.ops [
            ⟨some 4, .id, [.c (.int .i64 0)], none, [], [], false⟩])
          (.block 0
            (.loop [1, 2, 5, 6, 7, 8, 9, 10, 11, 12, 13, 14, 15, 16, 17, 18, 19, 20, 21, 22, 23, 24] [] f_play_pick_L0)))
        (.seq
          (.ops [
            ⟨some 24, .id, [.t 3], none, [], [], false⟩,
            ⟨some 2, .id, [.t 24], none, [], [], false⟩])
          .ret))))
def f_play_pick : IFn := ⟨25, 0, [.tmp 2], f_play_pick_B⟩
def f_play_Mod64_B : ICode :=
  (.seq
    (.ops [
      ⟨some 4, .id, [.c (.int .i64 0)], none, [], [], false⟩])
    (.seq
      (.ops [
        ⟨some 5, .id, [.t 0], none, [], [], false⟩,
        ⟨some 6, .convInt .u64, [.t 5], none, [], [], false⟩,
        ⟨some 7, .id, [.t 1], none, [], [], false⟩,
        ⟨some 8, .convInt .u64, [.t 7], none, [], [], false⟩,
        ⟨some 9, .bin .rem, [.t 6, .t 8], none, [], [], false⟩,
        ⟨some 10, .convInt .i64, [.t 9], none, [], [], false⟩,
        ⟨some 4, .id, [.t 10], none, [], [], false⟩])
      .ret))
def f_play_Mod64 : IFn := ⟨11, 0, [.tmp 4], f_play_Mod64_B⟩
def f_help_Plain_int__B : ICode :=
  (.seq
    (.ops [
      ⟨some 4, .id, [.c (.bool false)], none, [], [], false⟩])
    (.seq
      (.ops [
        ⟨some 5, .id, [.t 0], none, [], [], false⟩,
        ⟨some 6, .id, [.t 1], none, [], [], false⟩,
        ⟨some 7, .call "haberdash/haberdashhelp.Same[int]" [], [.t 5, .t 6, .f "haberdash/haberdashhelp.Plain[int]$1"], none, [], [], false⟩,
        ⟨some 4, .id, [.t 7], none, [], [], false⟩])
      .ret))
def f_help_Plain_int_ : IFn := ⟨8, 0, [.tmp 4], f_help_Plain_int__B⟩
def f_help_Same___int__L0 : ICode :=
  (.seq
    (.seq
      (.ops [
        ⟨some 13, .id, [.t 7], none, [], [], false⟩,
        ⟨some 14, .id, [.t 0], none, [], [], false⟩,
        ⟨some 15, .lenSlice, [.t 14], none, [], [], false⟩,
        ⟨some 16, .bin .lss, [.t 13, .t 15], none, [], [], false⟩])
      (.cond (.t 16)
        .skip
        (.exit 0)))
    (.seq
      (.block 1
        (.seq
          (.draw [
            ⟨some 19, .id, [.t 2], none, [], [], false⟩,
            ⟨some 20, .id, [.t 0], none, [], [], false⟩,
            ⟨some 21, .id, [.t 7], none, [], [], false⟩,
            ⟨some 22, .indexAddr 1, [.t 20, .t 21], none, [], [], false⟩,
            ⟨some 23, .load 1 false, [.t 22], none, [], [], false⟩,
            ⟨some 24, .id, [.t 1], none, [], [], false⟩,
            ⟨some 25, .id, [.t 7], none, [], [], false⟩,
            ⟨some 26, .indexAddr 1, [.t 24, .t 25], none, [], [], false⟩,
            ⟨some 27, .load 1 false, [.t 26], none, [], [], false⟩,
            ⟨some 28, .callV [], [.t 19, .t 23, .t 27], none, [], [], false⟩,
            ⟨some 29, .un .not, [.t 28], none, [], [], false⟩])
          (.cond (.t 29)
            (.seq
              (.ops [
                ⟨some 6, .id, [.c (.bool false)], none, [], [], false⟩])
              .ret)
            .skip)))
      (.ops [
        ⟨some 17, .id, [.t 7], none, [], [], false⟩,
        ⟨some 18, .bin .add, [.t 17, .c (.int .i64 1)], none, [], [], false⟩,
        ⟨some 7, .id, [.t 18], none, [], [], false⟩])))
def f_help_Same___int__H0 (t0 t1 t2 t7 : AV) : List AV := [t0, t1, t2, .dead, .dead, .dead, .dead, t7, .dead, .dead, .dead, .dead, .dead, .dead, .dead, .dead, .dead, .dead, .dead, .dead, .dead, .dead, .dead, .dead, .dead, .dead, .dead, .dead, .dead, .dead]
def f_help_Same___int__B : ICode :=
  (.seq
    (.ops [
      ⟨some 6, .id, [.c (.bool false)], none, [], [], false⟩])
    (.seq
      (.seq
        (.ops [
          ⟨some 8, .id, [.t 0], none, [], [], false⟩,
          ⟨some 9, .lenSlice, [.t 8], none, [], [], false⟩,
          ⟨some 10, .id, [.t 1], none, [], [], false⟩,
          ⟨some 11, .lenSlice, [.t 10], none, [], [], false⟩,
          ⟨some 12, .bin .neq, [.t 9, .t 11], none, [], [], false⟩])
        (.cond (.t 12)
          (.seq
            (.ops [
              ⟨some 6, .id, [.c (.bool false)], none, [], [], false⟩])
            .ret)
          .skip))
      (.seq
        (.seq
          (.ops [
            ⟨some 7, .id, [.c (.int .i64 0)], none, [], [], false⟩])
          (.block 0
            (.loop [3, 4, 5, 6, 8, 9, 10, 11, 12, 13, 14, 15, 16, 17, 18, 19, 20, 21, 22, 23, 24, 25, 26, 27, 28, 29] [] f_help_Same___int__L0)))
        (.seq
          (.ops [
            ⟨some 6, .id, [.c (.bool true)], none, [], [], false⟩])
          .ret))))
def f_help_Same___int_ : IFn := ⟨30, 0, [.tmp 6], f_help_Same___int__B⟩
def f_goods_Rise_L0 : ICode :=
  (.seq
    (.ops [
      ⟨some 7, .bin .lss, [.t 6, .t 5], none, [], [], false⟩])
    (.seq
      (.cond (.t 7)
        .skip
        (.exit 0))
      (.seq
        (.block 1
          (.seq
            (.ops [
              ⟨some 8, .id, [.t 6], none, [], [], false⟩,
              ⟨some 3, .id, [.t 8], none, [], [], false⟩])
            (.seq
              (.draw [
                ⟨some 9, .id, [.t 3], none, [], [], false⟩,
                ⟨some 10, .bin .gtr, [.t 9, .c (.int .i64 0)], none, [], [], false⟩,
                ⟨some 11, .id, [.t 10], none, [], [], false⟩,
                ⟨some 12, .id, [.t 0], (some (11, true)), [], [], false⟩,
                ⟨some 13, .id, [.t 3], (some (11, true)), [], [], false⟩,
                ⟨some 14, .bin .sub, [.t 13, .c (.int .i64 1)], (some (11, true)), [], [], false⟩,
                ⟨some 15, .indexAddr 1, [.t 12, .t 14], (some (11, true)), [], [], false⟩,
                ⟨some 16, .load 1 false, [.t 15], (some (11, true)), [], [], false⟩,
                ⟨some 17, .id, [.t 0], (some (11, true)), [], [], false⟩,
                ⟨some 18, .id, [.t 3], (some (11, true)), [], [], false⟩,
                ⟨some 19, .indexAddr 1, [.t 17, .t 18], (some (11, true)), [], [], false⟩,
                ⟨some 20, .load 1 false, [.t 19], (some (11, true)), [], [], false⟩,
                ⟨some 21, .bin .geq, [.t 16, .t 20], (some (11, true)), [], [], false⟩,
                ⟨some 22, .pick, [.t 11, .t 21, .c (.bool false)], none, [], [], false⟩])
              (.cond (.t 22)
                (.seq
                  (.ops [
                    ⟨some 2, .id, [.c (.bool false)], none, [], [], false⟩])
                  .ret)
                .skip))))
        (.ops [
          ⟨some 23, .bin .add, [.t 6, .c (.int .i64 1)], none, [], [], false⟩,
          ⟨some 6, .id, [.t 23], none, [], [], false⟩]))))
def f_goods_Rise_H0 (t0 t5 t6 : AV) : List AV := [t0, .dead, .dead, .dead, .dead, t5, t6, .dead, .dead, .dead, .dead, .dead, .dead, .dead, .dead, .dead, .dead, .dead, .dead, .dead, .dead, .dead, .dead, .dead]
def f_goods_Rise_B : ICode :=
  (.seq
    (.ops [
      ⟨some 2, .id, [.c (.bool false)], none, [], [], false⟩])
    (.seq
      (.seq
        (.ops [
          ⟨some 4, .id, [.t 0], none, [], [], false⟩,
          ⟨some 5, .lenSlice, [.t 4], none, [], [], false⟩,
          ⟨some 6, .id, [.c (.int .i64 0)], none, [], [], false⟩])
        (.block 0
          (.loop [1, 2, 3, 4, 7, 8, 9, 10, 11, 12, 13, 14, 15, 16, 17, 18, 19, 20, 21, 22, 23] [] f_goods_Rise_L0)))
      (.seq
        (.ops [
          ⟨some 2, .id, [.c (.bool true)], none, [], [], false⟩])
        .ret)))
def f_goods_Rise : IFn := ⟨24, 0, [.tmp 2], f_goods_Rise_B⟩
def f__scope_names__right_1_B : ICode :=
  (.seq
    (.ops [
      ⟨some 2, .id, [.c (.bool false)], none, [], [], false⟩])
    (.seq
      (.ops [
        ⟨some 3, .id, [.t 0], none, [], [], false⟩,
        ⟨some 4, .call "haberdash/goods.Name" [], [.t 3], none, [], [], false⟩,
        ⟨some 5, .un .not, [.t 4], none, [], [], false⟩,
        ⟨some 2, .id, [.t 5], none, [], [], false⟩])
      .ret))
def f__scope_names__right_1 : IFn := ⟨6, 0, [.tmp 2], f__scope_names__right_1_B⟩
def f_slices_ContainsFunc_scope_names_string__B : ICode :=
  (.seq
    (.ops [
      ⟨some 4, .id, [.c (.bool false)], none, [], [], false⟩])
    (.seq
      (.ops [
        ⟨some 5, .id, [.t 0], none, [], [], false⟩,
        ⟨some 6, .id, [.t 1], none, [], [], false⟩,
        ⟨some 7, .call "slices.IndexFunc[haberdash/scope.names,string]" [], [.t 5, .t 6], none, [], [], false⟩,
        ⟨some 8, .bin .geq, [.t 7, .c (.int .i64 0)], none, [], [], false⟩,
        ⟨some 4, .id, [.t 8], none, [], [], false⟩])
      .ret))
def f_slices_ContainsFunc_scope_names_string_ : IFn := ⟨9, 0, [.tmp 4], f_slices_ContainsFunc_scope_names_string__B⟩
def f_ref10_Name_L0 : ICode :=
  (.seq
    (.seq
      (.ops [
        ⟨some 5, .id, [.t 3], none, [], [], false⟩,
        ⟨some 6, .id, [.t 0], none, [], [], false⟩,
        ⟨some 7, .lenStr, [.t 6], none, [], [], false⟩,
        ⟨some 8, .bin .lss, [.t 5, .t 7], none, [], [], false⟩])
      (.cond (.t 8)
        .skip
        (.exit 0)))
    (.seq
      (.block 1
        (.seq
          (.ops [
            ⟨some 11, .id, [.t 0], none, [], [], false⟩,
            ⟨some 12, .id, [.t 3], none, [], [], false⟩,
            ⟨some 13, .indexStr, [.t 11, .t 12], none, [], [], false⟩,
            ⟨some 4, .id, [.t 13], none, [], [], false⟩])
          (.seq
            (.ops [
              ⟨some 14, .id, [.t 4], none, [], [], false⟩,
              ⟨some 15, .bin .geq, [.t 14, .c (.int .u8 97)], none, [], [], false⟩,
              ⟨some 16, .id, [.t 15], none, [], [], false⟩,
              ⟨some 17, .id, [.t 4], (some (16, true)), [], [], false⟩,
              ⟨some 18, .bin .leq, [.t 17, .c (.int .u8 122)], (some (16, true)), [], [], false⟩,
              ⟨some 19, .pick, [.t 16, .t 18, .c (.bool false)], none, [], [], false⟩,
              ⟨some 20, .id, [.t 19], none, [], [], false⟩,
              ⟨some 21, .id, [.t 4], (some (20, false)), [], [], false⟩,
              ⟨some 22, .bin .geq, [.t 21, .c (.int .u8 48)], (some (20, false)), [], [], false⟩,
              ⟨some 23, .id, [.t 22], (some (20, false)), [], [], false⟩,
              ⟨some 24, .id, [.t 4], (some (23, true)), [], [], false⟩,
              ⟨some 25, .bin .leq, [.t 24, .c (.int .u8 57)], (some (23, true)), [], [], false⟩,
              ⟨some 26, .pick, [.t 23, .t 25, .c (.bool false)], (some (20, false)), [], [], false⟩,
              ⟨some 27, .pick, [.t 20, .c (.bool true), .t 26], none, [], [], false⟩,
              ⟨some 28, .id, [.t 27], none, [], [], false⟩,
              ⟨some 29, .id, [.t 4], (some (28, false)), [], [], false⟩,
              ⟨some 30, .bin .eql, [.t 29, .c (.int .u8 45)], (some (28, false)), [], [], false⟩,
              ⟨some 31, .pick, [.t 28, .c (.bool true), .t 30], none, [], [], false⟩,
              ⟨some 32, .un .not, [.t 31], none, [], [], false⟩])
            (.cond (.t 32)
              (.seq
                (.ops [
                  ⟨some 2, .id, [.c (.bool false)], none, [], [], false⟩])
                .ret)
              .skip))))
      (.ops [
        ⟨some 9, .id, [.t 3], none, [], [], false⟩,
        ⟨some 10, .bin .add, [.t 9, .c (.int .i64 1)], none, [], [], false⟩,
        ⟨some 3, .id, [.t 10], none, [], [], false⟩])))
def f_ref10_Name_H0 (t0 t3 : AV) : List AV := [t0, .dead, .dead, t3, .dead, .dead, .dead, .dead, .dead, .dead, .dead, .dead, .dead, .dead, .dead, .dead, .dead, .dead, .dead, .dead, .dead, .dead, .dead, .dead, .dead, .dead, .dead, .dead, .dead, .dead, .dead, .dead, .dead, .dead, .dead, .dead, .dead, .dead, .dead, .dead, .dead]
def f_ref10_Name_B : ICode :=
  (.seq
    (.ops [
      ⟨some 2, .id, [.c (.bool false)], none, [], [], false⟩])
    (.seq
      (.seq
        (.ops [
          ⟨some 3, .id, [.c (.int .i64 0)], none, [], [], false⟩])
        (.block 0
          (.loop [1, 2, 4, 5, 6, 7, 8, 9, 10, 11, 12, 13, 14, 15, 16, 17, 18, 19, 20, 21, 22, 23, 24, 25, 26, 27, 28, 29, 30, 31, 32, 33, 34, 35, 36, 37, 38, 39, 40] [] f_ref10_Name_L0)))
      (.seq
        (.ops [
          ⟨some 33, .id, [.t 0], none, [], [], false⟩,
          ⟨some 34, .lenStr, [.t 33], none, [], [], false⟩,
          ⟨some 35, .bin .geq, [.t 34, .c (.int .i64 1)], none, [], [], false⟩,
          ⟨some 36, .id, [.t 35], none, [], [], false⟩,
          ⟨some 37, .id, [.t 0], (some (36, true)), [], [], false⟩,
          ⟨some 38, .lenStr, [.t 37], (some (36, true)), [], [], false⟩,
          ⟨some 39, .bin .leq, [.t 38, .c (.int .i64 12)], (some (36, true)), [], [], false⟩,
          ⟨some 40, .pick, [.t 36, .t 39, .c (.bool false)], none, [], [], false⟩,
          ⟨some 2, .id, [.t 40], none, [], [], false⟩])
        .ret)))
def f_ref10_Name : IFn := ⟨41, 0, [.tmp 2], f_ref10_Name_B⟩
def f_slices_Contains_scope_names_string__B : ICode :=
  (.seq
    (.ops [
      ⟨some 4, .id, [.c (.bool false)], none, [], [], false⟩])
    (.seq
      (.ops [
        ⟨some 5, .id, [.t 0], none, [], [], false⟩,
        ⟨some 6, .id, [.t 1], none, [], [], false⟩,
        ⟨some 7, .call "slices.Index[haberdash/scope.names,string]" [], [.t 5, .t 6], none, [], [], false⟩,
        ⟨some 8, .bin .geq, [.t 7, .c (.int .i64 0)], none, [], [], false⟩,
        ⟨some 4, .id, [.t 8], none, [], [], false⟩])
      .ret))
def f_slices_Contains_scope_names_string_ : IFn := ⟨9, 0, [.tmp 4], f_slices_Contains_scope_names_string__B⟩
def f_help_Plain_string__1_B : ICode :=
  (.seq
    (.ops [
      ⟨some 4, .id, [.c (.bool false)], none, [], [], false⟩])
    (.seq
      (.ops [
        ⟨some 5, .id, [.t 0], none, [], [], false⟩,
        ⟨some 6, .id, [.t 1], none, [], [], false⟩,
        ⟨some 7, .bin .eql, [.t 5, .t 6], none, [], [], false⟩,
        ⟨some 4, .id, [.t 7], none, [], [], false⟩])
      .ret))
def f_help_Plain_string__1 : IFn := ⟨8, 0, [.tmp 4], f_help_Plain_string__1_B⟩
def f_help_Same_string__L0 : ICode :=
  (.seq
    (.seq
      (.ops [
        ⟨some 13, .id, [.t 7], none, [], [], false⟩,
        ⟨some 14, .id, [.t 0], none, [], [], false⟩,
        ⟨some 15, .lenSlice, [.t 14], none, [], [], false⟩,
        ⟨some 16, .bin .lss, [.t 13, .t 15], none, [], [], false⟩])
      (.cond (.t 16)
        .skip
        (.exit 0)))
    (.seq
      (.block 1
        (.seq
          (.draw [
            ⟨some 19, .id, [.t 2], none, [], [], false⟩,
            ⟨some 20, .id, [.t 0], none, [], [], false⟩,
            ⟨some 21, .id, [.t 7], none, [], [], false⟩,
            ⟨some 22, .indexAddr 1, [.t 20, .t 21], none, [], [], false⟩,
            ⟨some 23, .load 1 false, [.t 22], none, [], [], false⟩,
            ⟨some 24, .id, [.t 1], none, [], [], false⟩,
            ⟨some 25, .id, [.t 7], none, [], [], false⟩,
            ⟨some 26, .indexAddr 1, [.t 24, .t 25], none, [], [], false⟩,
            ⟨some 27, .load 1 false, [.t 26], none, [], [], false⟩,
            ⟨some 28, .callV [], [.t 19, .t 23, .t 27], none, [], [], false⟩,
            ⟨some 29, .un .not, [.t 28], none, [], [], false⟩])
          (.cond (.t 29)
            (.seq
              (.ops [
                ⟨some 6, .id, [.c (.bool false)], none, [], [], false⟩])
              .ret)
            .skip)))
      (.ops [
        ⟨some 17, .id, [.t 7], none, [], [], false⟩,
        ⟨some 18, .bin .add, [.t 17, .c (.int .i64 1)], none, [], [], false⟩,
        ⟨some 7, .id, [.t 18], none, [], [], false⟩])))
def f_help_Same_string__H0 (t0 t1 t2 t7 : AV) : List AV := [t0, t1, t2, .dead, .dead, .dead, .dead, t7, .dead, .dead, .dead, .dead, .dead, .dead, .dead, .dead, .dead, .dead, .dead, .dead, .dead, .dead, .dead, .dead, .dead, .dead, .dead, .dead, .dead, .dead]
def f_help_Same_string__B : ICode :=
  (.seq
    (.ops [
      ⟨some 6, .id, [.c (.bool false)], none, [], [], false⟩])
    (.seq
      (.seq
        (.ops [
          ⟨some 8, .id, [.t 0], none, [], [], false⟩,
          ⟨some 9, .lenSlice, [.t 8], none, [], [], false⟩,
          ⟨some 10, .id, [.t 1], none, [], [], false⟩,
          ⟨some 11, .lenSlice, [.t 10], none, [], [], false⟩,
          ⟨some 12, .bin .neq, [.t 9, .t 11], none, [], [], false⟩])
        (.cond (.t 12)
          (.seq
            (.ops [
              ⟨some 6, .id, [.c (.bool false)], none, [], [], false⟩])
            .ret)
          .skip))
      (.seq
        (.seq
          (.ops [
            ⟨some 7, .id, [.c (.int .i64 0)], none, [], [], false⟩])
          (.block 0
            (.loop [3, 4, 5, 6, 8, 9, 10, 11, 12, 13, 14, 15, 16, 17, 18, 19, 20, 21, 22, 23, 24, 25, 26, 27, 28, 29] [] f_help_Same_string__L0)))
        (.seq
          (.ops [
            ⟨some 6, .id, [.c (.bool true)], none, [], [], false⟩])
          .ret))))
def f_help_Same_string_ : IFn := ⟨30, 0, [.tmp 6], f_help_Same_string__B⟩
def f_help_Plain_int__1_B : ICode :=
  (.seq
    (.ops [
      ⟨some 4, .id, [.c (.bool false)], none, [], [], false⟩])
    (.seq
      (.ops [
        ⟨some 5, .id, [.t 0], none, [], [], false⟩,
        ⟨some 6, .id, [.t 1], none, [], [], false⟩,
        ⟨some 7, .bin .eql, [.t 5, .t 6], none, [], [], false⟩,
        ⟨some 4, .id, [.t 7], none, [], [], false⟩])
      .ret))
def f_help_Plain_int__1 : IFn := ⟨8, 0, [.tmp 4], f_help_Plain_int__1_B⟩
def f_help_Same_int__L0 : ICode :=
  (.seq
    (.seq
      (.ops [
        ⟨some 13, .id, [.t 7], none, [], [], false⟩,
        ⟨some 14, .id, [.t 0], none, [], [], false⟩,
        ⟨some 15, .lenSlice, [.t 14], none, [], [], false⟩,
        ⟨some 16, .bin .lss, [.t 13, .t 15], none, [], [], false⟩])
      (.cond (.t 16)
        .skip
        (.exit 0)))
    (.seq
      (.block 1
        (.seq
          (.draw [
            ⟨some 19, .id, [.t 2], none, [], [], false⟩,
            ⟨some 20, .id, [.t 0], none, [], [], false⟩,
            ⟨some 21, .id, [.t 7], none, [], [], false⟩,
            ⟨some 22, .indexAddr 1, [.t 20, .t 21], none, [], [], false⟩,
            ⟨some 23, .load 1 false, [.t 22], none, [], [], false⟩,
            ⟨some 24, .id, [.t 1], none, [], [], false⟩,
            ⟨some 25, .id, [.t 7], none, [], [], false⟩,
            ⟨some 26, .indexAddr 1, [.t 24, .t 25], none, [], [], false⟩,
            ⟨some 27, .load 1 false, [.t 26], none, [], [], false⟩,
            ⟨some 28, .callV [], [.t 19, .t 23, .t 27], none, [], [], false⟩,
            ⟨some 29, .un .not, [.t 28], none, [], [], false⟩])
          (.cond (.t 29)
            (.seq
              (.ops [
                ⟨some 6, .id, [.c (.bool false)], none, [], [], false⟩])
              .ret)
            .skip)))
      (.ops [
        ⟨some 17, .id, [.t 7], none, [], [], false⟩,
        ⟨some 18, .bin .add, [.t 17, .c (.int .i64 1)], none, [], [], false⟩,
        ⟨some 7, .id, [.t 18], none, [], [], false⟩])))
def f_help_Same_int__H0 (t0 t1 t2 t7 : AV) : List AV := [t0, t1, t2, .dead, .dead, .dead, .dead, t7, .dead, .dead, .dead, .dead, .dead, .dead, .dead, .dead, .dead, .dead, .dead, .dead, .dead, .dead, .dead, .dead, .dead, .dead, .dead, .dead, .dead, .dead]
def f_help_Same_int__B : ICode :=
  (.seq
    (.ops [
      ⟨some 6, .id, [.c (.bool false)], none, [], [], false⟩])
    (.seq
      (.seq
        (.ops [
          ⟨some 8, .id, [.t 0], none, [], [], false⟩,
          ⟨some 9, .lenSlice, [.t 8], none, [], [], false⟩,
          ⟨some 10, .id, [.t 1], none, [], [], false⟩,
          ⟨some 11, .lenSlice, [.t 10], none, [], [], false⟩,
          ⟨some 12, .bin .neq, [.t 9, .t 11], none, [], [], false⟩])
        (.cond (.t 12)
          (.seq
            (.ops [
              ⟨some 6, .id, [.c (.bool false)], none, [], [], false⟩])
            .ret)
          .skip))
      (.seq
        (.seq
          (.ops [
            ⟨some 7, .id, [.c (.int .i64 0)], none, [], [], false⟩])
          (.block 0
            (.loop [3, 4, 5, 6, 8, 9, 10, 11, 12, 13, 14, 15, 16, 17, 18, 19, 20, 21, 22, 23, 24, 25, 26, 27, 28, 29] [] f_help_Same_int__L0)))
        (.seq
          (.ops [
            ⟨some 6, .id, [.c (.bool true)], none, [], [], false⟩])
          .ret))))
def f_help_Same_int_ : IFn := ⟨30, 0, [.tmp 6], f_help_Same_int__B⟩
def f_goods_Name_L0 : ICode :=
  (.seq
    (.ops [
      ⟨some 16, .bin .lss, [.t 15, .t 14], none, [], [], false⟩])
    (.seq
      (.cond (.t 16)
        .skip
        (.exit 0))
      (.seq
        (.block 1
          (.seq
            (.ops [
              ⟨some 17, .id, [.t 15], none, [], [], false⟩,
              ⟨some 3, .id, [.t 17], none, [], [], false⟩])
            (.seq
              (.ops [
                ⟨some 18, .id, [.t 0], none, [], [], false⟩,
                ⟨some 19, .id, [.t 3], none, [], [], false⟩,
                ⟨some 20, .indexStr, [.t 18, .t 19], none, [], [], false⟩,
                ⟨some 4, .id, [.t 20], none, [], [], false⟩])
              (.seq
                (.ops [
                  ⟨some 21, .id, [.t 4], none, [], [], false⟩,
                  ⟨some 22, .bin .neq, [.t 21, .c (.int .u8 45)], none, [], [], false⟩,
                  ⟨some 23, .id, [.t 22], none, [], [], false⟩,
                  ⟨some 24, .id, [.t 4], (some (23, true)), [], [], false⟩,
                  ⟨some 25, .bin .lss, [.t 24, .c (.int .u8 48)], (some (23, true)), [], [], false⟩,
                  ⟨some 26, .id, [.t 25], (some (23, true)), [], [], false⟩,
                  ⟨some 27, .id, [.t 4], (some (26, false)), [], [], false⟩,
                  ⟨some 28, .bin .gtr, [.t 27, .c (.int .u8 57)], (some (26, false)), [], [], false⟩,
                  ⟨some 29, .pick, [.t 26, .c (.bool true), .t 28], (some (23, true)), [], [], false⟩,
                  ⟨some 30, .pick, [.t 23, .t 29, .c (.bool false)], none, [], [], false⟩,
                  ⟨some 31, .id, [.t 30], none, [], [], false⟩,
                  ⟨some 32, .id, [.t 4], (some (31, true)), [], [], false⟩,
                  ⟨some 33, .bin .lss, [.t 32, .c (.int .u8 97)], (some (31, true)), [], [], false⟩,
                  ⟨some 34, .id, [.t 33], (some (31, true)), [], [], false⟩,
                  ⟨some 35, .id, [.t 4], (some (34, false)), [], [], false⟩,
                  ⟨some 36, .bin .gtr, [.t 35, .c (.int .u8 122)], (some (34, false)), [], [], false⟩,
                  ⟨some 37, .pick, [.t 34, .c (.bool true), .t 36], (some (31, true)), [], [], false⟩,
                  ⟨some 38, .pick, [.t 31, .t 37, .c (.bool false)], none, [], [], false⟩])
                (.cond (.t 38)
                  (.seq
                    (.ops [
                      ⟨some 2, .id, [.c (.bool false)], none, [], [], false⟩])
                    .ret)
                  .skip)))))
        (.ops [
          ⟨some 39, .bin .add, [.t 15, .c (.int .i64 1)], none, [], [], false⟩,
          ⟨some 15, .id, [.t 39], none, [], [], false⟩]))))
def f_goods_Name_H0 (t0 t14 t15 : AV) : List AV := [t0, .dead, .dead, .dead, .dead, .dead, .dead, .dead, .dead, .dead, .dead, .dead, .dead, .dead, t14, t15, .dead, .dead, .dead, .dead, .dead, .dead, .dead, .dead, .dead, .dead, .dead, .dead, .dead, .dead, .dead, .dead, .dead, .dead, .dead, .dead, .dead, .dead, .dead, .dead]
def f_goods_Name_B : ICode :=
  (.seq
    (.ops [
      ⟨some 2, .id, [.c (.bool false)], none, [], [], false⟩])
    (.seq
      (.seq
        (.ops [
          ⟨some 5, .id, [.t 0], none, [], [], false⟩,
          ⟨some 6, .lenStr, [.t 5], none, [], [], false⟩,
          ⟨some 7, .bin .lss, [.t 6, .c (.int .i64 1)], none, [], [], false⟩,
          ⟨some 8, .id, [.t 7], none, [], [], false⟩,
          ⟨some 9, .id, [.t 0], (some (8, false)), [], [], false⟩,
          ⟨some 10, .lenStr, [.t 9], (some (8, false)), [], [], false⟩,
          ⟨some 11, .bin .gtr, [.t 10, .c (.int .i64 12)], (some (8, false)), [], [], false⟩,
          ⟨some 12, .pick, [.t 8, .c (.bool true), .t 11], none, [], [], false⟩])
        (.cond (.t 12)
          (.seq
            (.ops [
              ⟨some 2, .id, [.c (.bool false)], none, [], [], false⟩])
            .ret)
          .skip))
      (.seq
        (.seq
          (.ops [
            ⟨some 13, .id, [.t 0], none, [], [], false⟩,
            ⟨some 14, .lenStr, [.t 13], none, [], [], false⟩,
            ⟨some 15, .id, [.c (.int .i64 0)], none, [], [], false⟩])
          (.block 0
            (.loop [1, 2, 3, 4, 5, 6, 7, 8, 9, 10, 11, 12, 13, 16, 17, 18, 19, 20, 21, 22, 23, 24, 25, 26, 27, 28, 29, 30, 31, 32, 33, 34, 35, 36, 37, 38, 39] [] f_goods_Name_L0)))
        (.seq
          (.ops [
            ⟨some 2, .id, [.c (.bool true)], none, [], [], false⟩])
          .ret))))
def f_goods_Name : IFn := ⟨40, 0, [.tmp 2], f_goods_Name_B⟩
def f_slices_IndexFunc_scope_names_string__L0 : ICode :=
  (.seq
    (.ops [
      ⟨some 9, .bin .lss, [.t 8, .t 7], none, [], [], false⟩])
    (.seq
      (.cond (.t 9)
        .skip
        (.exit 0))
      (.seq
        (.block 1
          (.seq
            (.ops [
              ⟨some 10, .id, [.t 8], none, [], [], false⟩,
              ⟨some 5, .id, [.t 10], none, [], [], false⟩])
            (.seq
              (.ops [
                ⟨some 11, .id, [.t 1], none, [], [], false⟩,
                ⟨some 12, .id, [.t 0], none, [], [], false⟩,
                ⟨some 13, .id, [.t 5], none, [], [], false⟩,
                ⟨some 14, .indexAddr 1, [.t 12, .t 13], none, [], [], false⟩,
                ⟨some 15, .load 1 false, [.t 14], none, [], [], false⟩,
                ⟨some 16, .callV [], [.t 11, .t 15], none, [], [], false⟩])
              (.cond (.t 16)
                (.seq
                  (.ops [
                    ⟨some 17, .id, [.t 5], none, [], [], false⟩,
                    ⟨some 4, .id, [.t 17], none, [], [], false⟩])
                  .ret)
                .skip))))
        (.ops [
          ⟨some 18, .bin .add, [.t 8, .c (.int .i64 1)], none, [], [], false⟩,
          ⟨some 8, .id, [.t 18], none, [], [], false⟩]))))
def f_slices_IndexFunc_scope_names_string__H0 (t0 t1 t7 t8 : AV) : List AV := [t0, t1, .dead, .dead, .dead, .dead, .dead, t7, t8, .dead, .dead, .dead, .dead, .dead, .dead, .dead, .dead, .dead, .dead]
def f_slices_IndexFunc_scope_names_string__B : ICode :=
  (.seq
    (.ops [
      ⟨some 4, .id, [.c (.int .i64 0)], none, [], [], false⟩])
    (.seq
      (.seq
        (.ops [
          ⟨some 6, .id, [.t 0], none, [], [], false⟩,
          ⟨some 7, .lenSlice, [.t 6], none, [], [], false⟩,
          ⟨some 8, .id, [.c (.int .i64 0)], none, [], [], false⟩])
        (.block 0
          (.loop [2, 3, 4, 5, 6, 9, 10, 11, 12, 13, 14, 15, 16, 17, 18] [] f_slices_IndexFunc_scope_names_string__L0)))
      (.seq
        (.ops [
          ⟨some 4, .id, [.c (.int .i64 (-1))], none, [], [], false⟩])
        .ret)))
def f_slices_IndexFunc_scope_names_string_ : IFn := ⟨19, 0, [.tmp 4], f_slices_IndexFunc_scope_names_string__B⟩
def f_slices_Index_scope_names_string__L0 : ICode :=
  (.seq
    (.ops [
      ⟨some 9, .bin .lss, [.t 8, .t 7], none, [], [], false⟩])
    (.seq
      (.cond (.t 9)
        .skip
        (.exit 0))
      (.seq
        (.block 1
          (.seq
            (.ops [
              ⟨some 10, .id, [.t 8], none, [], [], false⟩,
              ⟨some 5, .id, [.t 10], none, [], [], false⟩])
            (.seq
              (.ops [
                ⟨some 11, .id, [.t 1], none, [], [], false⟩,
                ⟨some 12, .id, [.t 0], none, [], [], false⟩,
                ⟨some 13, .id, [.t 5], none, [], [], false⟩,
                ⟨some 14, .indexAddr 1, [.t 12, .t 13], none, [], [], false⟩,
                ⟨some 15, .load 1 false, [.t 14], none, [], [], false⟩,
                ⟨some 16, .bin .eql, [.t 11, .t 15], none, [], [], false⟩])
              (.cond (.t 16)
                (.seq
                  (.ops [
                    ⟨some 17, .id, [.t 5], none, [], [], false⟩,
                    ⟨some 4, .id, [.t 17], none, [], [], false⟩])
                  .ret)
                .skip))))
        (.ops [
          ⟨some 18, .bin .add, [.t 8, .c (.int .i64 1)], none, [], [], false⟩,
          ⟨some 8, .id, [.t 18], none, [], [], false⟩]))))
def f_slices_Index_scope_names_string__H0 (t0 t1 t7 t8 : AV) : List AV := [t0, t1, .dead, .dead, .dead, .dead, .dead, t7, t8, .dead, .dead, .dead, .dead, .dead, .dead, .dead, .dead, .dead, .dead]
def f_slices_Index_scope_names_string__B : ICode :=
  (.seq
    (.ops [
      ⟨some 4, .id, [.c (.int .i64 0)], none, [], [], false⟩])
    (.seq
      (.seq
        (.ops [
          ⟨some 6, .id, [.t 0], none, [], [], false⟩,
          ⟨some 7, .lenSlice, [.t 6], none, [], [], false⟩,
          ⟨some 8, .id, [.c (.int .i64 0)], none, [], [], false⟩])
        (.block 0
          (.loop [2, 3, 4, 5, 6, 9, 10, 11, 12, 13, 14, 15, 16, 17, 18] [] f_slices_Index_scope_names_string__L0)))
      (.seq
        (.ops [
          ⟨some 4, .id, [.c (.int .i64 (-1))], none, [], [], false⟩])
        .ret)))
def f_slices_Index_scope_names_string_ : IFn := ⟨19, 0, [.tmp 4], f_slices_Index_scope_names_string__B⟩

end Go.AM

/- Names. -/
namespace Go.AM
variable {prog : String → Option IFn}

/-- May it stand in a name? -/
def nameB (c : UInt8) : Bool := c.toNat == 45 || (decide (48 ≤ c.toNat) && decide (c.toNat ≤ 57)) || (decide (97 ≤ c.toNat) && decide (c.toNat ≤ 122))
def nameOK (s : List UInt8) : Bool := decide (1 ≤ s.length) && decide (s.length ≤ 12) && s.all nameB

theorem all_of {α : Type} {p : α → Bool} {xs : List α} (h : ∀ (j : Nat) x, xs[j]? = some x → p x = true) : xs.all p = true := by
  rw [List.all_eq_true]
  intro x hx
  obtain ⟨j, hj⟩ := List.mem_iff_getElem?.1 hx
  exact h j x hj
theorem all_bad {α : Type} {p : α → Bool} {xs : List α} {j : Nat} {x : α} (hx : xs[j]? = some x) (hp : p x = false) : xs.all p = false := by
  cases h : xs.all p with
  | false => rfl
  | true =>
    have := List.all_eq_true.1 h x (List.mem_of_getElem? hx)
    rw [hp] at this; cases this

theorem goodsName_spec (hf : prog "haberdash/goods.Name" = some f_goods_Name) {G} {s : List UInt8} :
    Ev prog (.call "haberdash/goods.Name" [.v (str s)] G) (.ret (.v (.bool (nameOK s))) G) := by
  refine call_of_fin hf ?_
  simp only [f_goods_Name_B, enter, List.length_cons, List.length_nil, List.replicate, Nat.reduceAdd, Nat.reduceSub, List.cons_append, List.nil_append]
  simp (disch := first | (simp only [ne_eq, reduceCtorEq, not_false_eq_true, implies_true]; done) | omega) only [WS, St.guard, St.put, evalO, reduceCtorEq, reduceIte, Nat.reduceAdd, Nat.reduceEqDiff, lenStr_str]
  by_cases h1 : s.length < 1
  · have e : nameOK s = false := by unfold nameOK; rw [decide_eq_false (by omega)]; rfl
    simp (disch := first | (simp only [ne_eq, reduceCtorEq, not_false_eq_true, implies_true]; done) | omega) only [WS, St.guard, St.put, evalO, reduceCtorEq, reduceIte, Nat.reduceAdd, Nat.reduceEqDiff, show ((s.length : Int) < 1) from by omega, decide_true, fin_tmp, leave_v, e]
    simp
  simp (disch := first | (simp only [ne_eq, reduceCtorEq, not_false_eq_true, implies_true]; done) | omega) only [WS, St.guard, St.put, evalO, reduceCtorEq, reduceIte, Nat.reduceAdd, Nat.reduceEqDiff, show ¬ ((s.length : Int) < 1) from by omega, decide_false, lenStr_str]
  by_cases h2 : 12 < s.length
  · have e : nameOK s = false := by unfold nameOK; rw [decide_eq_false (p := s.length ≤ 12) (by omega), Bool.and_false]; rfl
    simp (disch := first | (simp only [ne_eq, reduceCtorEq, not_false_eq_true, implies_true]; done) | omega) only [WS, St.guard, St.put, evalO, reduceCtorEq, reduceIte, Nat.reduceAdd, Nat.reduceEqDiff, show ((s.length : Int) > 12) from by omega, decide_true, fin_tmp, leave_v, e]
    simp
  simp (disch := first | (simp only [ne_eq, reduceCtorEq, not_false_eq_true, implies_true]; done) | omega) only [WS, St.guard, St.put, evalO, reduceCtorEq, reduceIte, Nat.reduceAdd, Nat.reduceEqDiff, show ¬ ((s.length : Int) > 12) from by omega, decide_false, lenStr_str]
  have e : nameOK s = s.all nameB := by unfold nameOK; rw [decide_eq_true (by omega), decide_eq_true (by omega)]; rfl
  rw [e]
  refine WC_countP (fun i => ∀ (j : Nat) x, j < i → s[j]? = some x → nameB x = true) (fun i => ⟨f_goods_Name_H0 (.v (str s)) (.v (.int .i64 s.length)) (.v (.int .i64 (i : Nat))), ⟨G, []⟩⟩) s.length ?_ (fun j x h => by omega) (fun i hi hp => ?_) (fun hp => ?_)
  · simp only [clear_nil, List.foldl_cons, List.foldl_nil, Option.some.injEq, List.map_cons, List.map_nil, List.getD_cons_zero, List.getD_cons_succ, List.set_cons_zero, List.set_cons_succ, Option.map_some, Option.bind_some, ne_eq, reduceCtorEq, not_false_eq_true, implies_true, beq_self_eq_true, BEq.rfl, if_true, if_false, Bool.false_eq_true, not_true_eq_false, Option.some.injEq, reduceIte, Bool.not_true, Bool.not_false, beq_true, beq_false, Bool.true_and, Bool.and_true, Bool.false_and, Bool.and_false, true_and, List.getElem?_cons_zero, List.getElem?_cons_succ, List.length_cons, List.length_nil, Nat.reduceAdd]; rfl
  · have hlt' : (i : Int) < (s.length : Int) := by omega
    have hx : s[i]? = some s[i] := List.getElem?_eq_getElem hi
    have hb : ∀ h : Hp, prim h .indexStr [.v (str s), .v (.int .i64 (i : Int))] = some (.v (.int .u8 (s[i].toNat : Int)), h) := fun h => by
      rw [indexStr_str hi, List.getD_eq_getElem?_getD, hx]; rfl
    simp (disch := first | (simp only [ne_eq, reduceCtorEq, not_false_eq_true, implies_true]; done) | omega) only [f_goods_Name_L0, f_goods_Name_H0, WS, St.guard, St.put, evalO, reduceCtorEq, reduceIte, Nat.reduceAdd, Nat.reduceEqDiff, hlt', decide_true, hb]
    have hbad : nameB s[i] = false → s.all nameB = false := all_bad hx
    have hgood : nameB s[i] = true → ∀ (j : Nat) x, j < i + 1 → s[j]? = some x → nameB x = true := fun h j x hj hjx => by
      by_cases hji : j < i
      · exact hp j x hji hjx
      · obtain rfl : j = i := by omega
        rw [hx] at hjx; cases hjx; exact h
    have hN : nameB s[i] = (s[i].toNat == 45 || (decide (48 ≤ s[i].toNat) && decide (s[i].toNat ≤ 57)) || (decide (97 ≤ s[i].toNat) && decide (s[i].toNat ≤ 122))) := rfl
    generalize s[i].toNat = n at *
    by_cases c1 : n = 45
    · have f1 : ((n : Int) != 45) = false := by rw [bne_eq_false_iff_eq]; omega
      simp (disch := first | (simp only [ne_eq, reduceCtorEq, not_false_eq_true, implies_true]; done) | omega) only [WS, St.guard, St.put, evalO, reduceCtorEq, reduceIte, Nat.reduceAdd, Nat.reduceEqDiff, f1, vBin_add_i64, clear_nil, List.foldl_cons, List.foldl_nil, Option.some.injEq]
      exact ⟨rfl, hgood (by rw [hN, c1]; rfl)⟩
    have f1 : ((n : Int) != 45) = true := by rw [bne_iff_ne]; omega
    by_cases c2 : 48 ≤ n ∧ n ≤ 57
    · simp (disch := first | (simp only [ne_eq, reduceCtorEq, not_false_eq_true, implies_true]; done) | omega) only [WS, St.guard, St.put, evalO, reduceCtorEq, reduceIte, Nat.reduceAdd, Nat.reduceEqDiff, f1, show ¬ ((n : Int) < 48) from by omega, show ¬ ((n : Int) > 57) from by omega, decide_false, vBin_add_i64, clear_nil, List.foldl_cons, List.foldl_nil, Option.some.injEq]
      exact ⟨rfl, hgood (by rw [hN]; simp; omega)⟩
    by_cases c3 : 97 ≤ n ∧ n ≤ 122
    · simp (disch := first | (simp only [ne_eq, reduceCtorEq, not_false_eq_true, implies_true]; done) | omega) only [WS, St.guard, St.put, evalO, reduceCtorEq, reduceIte, Nat.reduceAdd, Nat.reduceEqDiff, f1, show ¬ ((n : Int) < 48) from by omega, show (n : Int) > 57 from by omega, show ¬ ((n : Int) < 97) from by omega, show ¬ ((n : Int) > 122) from by omega, decide_false, decide_true, vBin_add_i64, clear_nil, List.foldl_cons, List.foldl_nil, Option.some.injEq]
      exact ⟨rfl, hgood (by rw [hN]; simp; omega)⟩
    have hb := hbad (by rw [hN]; simp; omega)
    by_cases c4 : n < 48
    · simp (disch := first | (simp only [ne_eq, reduceCtorEq, not_false_eq_true, implies_true]; done) | omega) only [WS, St.guard, St.put, evalO, reduceCtorEq, reduceIte, Nat.reduceAdd, Nat.reduceEqDiff, f1, show (n : Int) < 48 from by omega, show (n : Int) < 97 from by omega, decide_true, fin_tmp, leave_v, hb]
      simp
    by_cases c5 : n < 97
    · simp (disch := first | (simp only [ne_eq, reduceCtorEq, not_false_eq_true, implies_true]; done) | omega) only [WS, St.guard, St.put, evalO, reduceCtorEq, reduceIte, Nat.reduceAdd, Nat.reduceEqDiff, f1, show ¬ ((n : Int) < 48) from by omega, show (n : Int) > 57 from by omega, show (n : Int) < 97 from by omega, decide_false, decide_true, fin_tmp, leave_v, hb]
      simp
    · simp (disch := first | (simp only [ne_eq, reduceCtorEq, not_false_eq_true, implies_true]; done) | omega) only [WS, St.guard, St.put, evalO, reduceCtorEq, reduceIte, Nat.reduceAdd, Nat.reduceEqDiff, f1, show ¬ ((n : Int) < 48) from by omega, show (n : Int) > 57 from by omega, show ¬ ((n : Int) < 97) from by omega, show (n : Int) > 122 from by omega, decide_false, decide_true, fin_tmp, leave_v, hb]
      simp
  · simp (disch := first | (simp only [ne_eq, reduceCtorEq, not_false_eq_true, implies_true]; done) | omega) only [f_goods_Name_L0, f_goods_Name_H0, WS, St.guard, St.put, evalO, reduceCtorEq, reduceIte, Nat.reduceAdd, Nat.reduceEqDiff, decide_false, fin_tmp, leave_v]
    rw [all_of fun j x hx => hp j x (lt_of_get hx) hx]
    simp

theorem refName_spec (hf : prog "haberdash/haberdashref10.Name" = some f_ref10_Name) {G} {s : List UInt8} (hs : s.length ≤ 9223372036854775807) :
    Ev prog (.call "haberdash/haberdashref10.Name" [.v (str s)] G) (.ret (.v (.bool (nameOK s))) G) := by
  refine call_of_fin hf ?_
  simp only [f_ref10_Name_B, enter, List.length_cons, List.length_nil, List.replicate, Nat.reduceAdd, Nat.reduceSub, List.cons_append, List.nil_append]
  simp (disch := first | (simp only [ne_eq, reduceCtorEq, not_false_eq_true, implies_true]; done) | omega) only [WS, St.guard, St.put, evalO, reduceCtorEq, reduceIte, Nat.reduceAdd, Nat.reduceEqDiff]
  refine WC_countP (fun i => ∀ (j : Nat) x, j < i → s[j]? = some x → nameB x = true) (fun i => ⟨f_ref10_Name_H0 (.v (str s)) (.v (.int .i64 (i : Nat))), ⟨G, []⟩⟩) s.length ?_ (fun j x h => by omega) (fun i hi hp => ?_) (fun hp => ?_)
  · simp only [clear_nil, List.foldl_cons, List.foldl_nil, Option.some.injEq, List.map_cons, List.map_nil, List.getD_cons_zero, List.getD_cons_succ, List.set_cons_zero, List.set_cons_succ, Option.map_some, Option.bind_some, ne_eq, reduceCtorEq, not_false_eq_true, implies_true, beq_self_eq_true, BEq.rfl, if_true, if_false, Bool.false_eq_true, not_true_eq_false, Option.some.injEq, reduceIte, Bool.not_true, Bool.not_false, beq_true, beq_false, Bool.true_and, Bool.and_true, Bool.false_and, Bool.and_false, true_and, List.getElem?_cons_zero, List.getElem?_cons_succ, List.length_cons, List.length_nil, Nat.reduceAdd]; rfl
  · have hlt' : (i : Int) < (s.length : Int) := by omega
    have hx : s[i]? = some s[i] := List.getElem?_eq_getElem hi
    have hb : ∀ h : Hp, prim h .indexStr [.v (str s), .v (.int .i64 (i : Int))] = some (.v (.int .u8 (s[i].toNat : Int)), h) := fun h => by
      rw [indexStr_str hi, List.getD_eq_getElem?_getD, hx]; rfl
    simp (disch := first | (simp only [ne_eq, reduceCtorEq, not_false_eq_true, implies_true]; done) | omega) only [f_ref10_Name_L0, f_ref10_Name_H0, WS, St.guard, St.put, evalO, reduceCtorEq, reduceIte, Nat.reduceAdd, Nat.reduceEqDiff, lenStr_str, hlt', decide_true, hb]
    have hbad : nameB s[i] = false → nameOK s = false := fun h => by unfold nameOK; rw [all_bad hx h, Bool.and_false]
    have hgood : nameB s[i] = true → ∀ (j : Nat) x, j < i + 1 → s[j]? = some x → nameB x = true := fun h j x hj hjx => by
      by_cases hji : j < i
      · exact hp j x hji hjx
      · obtain rfl : j = i := by omega
        rw [hx] at hjx; cases hjx; exact h
    have hN : nameB s[i] = (s[i].toNat == 45 || (decide (48 ≤ s[i].toNat) && decide (s[i].toNat ≤ 57)) || (decide (97 ≤ s[i].toNat) && decide (s[i].toNat ≤ 122))) := rfl
    generalize s[i].toNat = n at *
    by_cases c3 : 97 ≤ n ∧ n ≤ 122
    · simp (disch := first | (simp only [ne_eq, reduceCtorEq, not_false_eq_true, implies_true]; done) | omega) only [WS, St.guard, St.put, evalO, reduceCtorEq, reduceIte, Nat.reduceAdd, Nat.reduceEqDiff, show (n : Int) ≥ 97 from by omega, show (n : Int) ≤ 122 from by omega, decide_true, vBin_add_i64, clear_nil, List.foldl_cons, List.foldl_nil, Option.some.injEq]
      exact ⟨rfl, hgood (by rw [hN]; simp; omega)⟩
    by_cases c2 : 48 ≤ n ∧ n ≤ 57
    · simp (disch := first | (simp only [ne_eq, reduceCtorEq, not_false_eq_true, implies_true]; done) | omega) only [WS, St.guard, St.put, evalO, reduceCtorEq, reduceIte, Nat.reduceAdd, Nat.reduceEqDiff, show ¬ ((n : Int) ≥ 97) from by omega, show (n : Int) ≥ 48 from by omega, show (n : Int) ≤ 57 from by omega, decide_true, decide_false, vBin_add_i64, clear_nil, List.foldl_cons, List.foldl_nil, Option.some.injEq]
      exact ⟨rfl, hgood (by rw [hN]; simp; omega)⟩
    by_cases c1 : n = 45
    · have f1 : ((n : Int) == 45) = true := by rw [beq_iff_eq]; omega
      simp (disch := first | (simp only [ne_eq, reduceCtorEq, not_false_eq_true, implies_true]; done) | omega) only [WS, St.guard, St.put, evalO, reduceCtorEq, reduceIte, Nat.reduceAdd, Nat.reduceEqDiff, show ¬ ((n : Int) ≥ 97) from by omega, show ¬ ((n : Int) ≥ 48) from by omega, f1, decide_true, decide_false, vBin_add_i64, clear_nil, List.foldl_cons, List.foldl_nil, Option.some.injEq]
      exact ⟨rfl, hgood (by rw [hN, c1]; rfl)⟩
    have f1 : ((n : Int) == 45) = false := by rw [beq_eq_false_iff_ne]; omega
    have hb := hbad (by rw [hN]; simp; omega)
    by_cases c4 : n < 48
    · simp (disch := first | (simp only [ne_eq, reduceCtorEq, not_false_eq_true, implies_true]; done) | omega) only [WS, St.guard, St.put, evalO, reduceCtorEq, reduceIte, Nat.reduceAdd, Nat.reduceEqDiff, show ¬ ((n : Int) ≥ 97) from by omega, show ¬ ((n : Int) ≥ 48) from by omega, f1, decide_true, decide_false, fin_tmp, leave_v, hb]
      simp
    by_cases c5 : n < 97
    · simp (disch := first | (simp only [ne_eq, reduceCtorEq, not_false_eq_true, implies_true]; done) | omega) only [WS, St.guard, St.put, evalO, reduceCtorEq, reduceIte, Nat.reduceAdd, Nat.reduceEqDiff, show ¬ ((n : Int) ≥ 97) from by omega, show (n : Int) ≥ 48 from by omega, show ¬ ((n : Int) ≤ 57) from by omega, f1, decide_true, decide_false, fin_tmp, leave_v, hb]
      simp
    · simp (disch := first | (simp only [ne_eq, reduceCtorEq, not_false_eq_true, implies_true]; done) | omega) only [WS, St.guard, St.put, evalO, reduceCtorEq, reduceIte, Nat.reduceAdd, Nat.reduceEqDiff, show (n : Int) ≥ 97 from by omega, show ¬ ((n : Int) ≤ 122) from by omega, show (n : Int) ≥ 48 from by omega, show ¬ ((n : Int) ≤ 57) from by omega, f1, decide_true, decide_false, fin_tmp, leave_v, hb]
      simp
  · simp (disch := first | (simp only [ne_eq, reduceCtorEq, not_false_eq_true, implies_true]; done) | omega) only [f_ref10_Name_L0, f_ref10_Name_H0, WS, St.guard, St.put, evalO, reduceCtorEq, reduceIte, Nat.reduceAdd, Nat.reduceEqDiff, lenStr_str, decide_false]
    have e : nameOK s = (decide (1 ≤ s.length) && decide (s.length ≤ 12)) := by unfold nameOK; rw [all_of fun j x hx => hp j x (lt_of_get hx) hx, Bool.and_true]
    by_cases h1 : (s.length : Int) ≥ 1
    · simp (disch := first | (simp only [ne_eq, reduceCtorEq, not_false_eq_true, implies_true]; done) | omega) only [WS, St.guard, St.put, evalO, reduceCtorEq, reduceIte, Nat.reduceAdd, Nat.reduceEqDiff, h1, decide_true, lenStr_str, fin_tmp, leave_v, e]
      rw [decide_eq_true (p := 1 ≤ s.length) (by omega), Bool.true_and, show decide ((s.length : Int) ≤ 12) = decide (s.length ≤ 12) from by rw [decide_eq_decide]; omega]
      simp
    · simp (disch := first | (simp only [ne_eq, reduceCtorEq, not_false_eq_true, implies_true]; done) | omega) only [WS, St.guard, St.put, evalO, reduceCtorEq, reduceIte, Nat.reduceAdd, Nat.reduceEqDiff, h1, decide_false, fin_tmp, leave_v, e]
      rw [decide_eq_false (p := 1 ≤ s.length) (by omega)]
      simp
end Go.AM

/- Lists of names: do they rise; is one in them. -/
namespace Go.AM
variable {prog : String → Option IFn}

abbrev Txt := List UInt8
def sEnc : Enc Txt := ⟨fun s => [.v (str s)], 1, false, fun _ => rfl, by omega, .inr rfl, fun _ => rfl, fun _ s => ⟨.v (str s), rfl, rfl⟩⟩
theorem sEnc_av (s : Txt) : sEnc.av s = .v (str s) := rfl

theorem less_total : ∀ (a b : Txt), (!(Op.bytesLess a b)) = (Op.bytesLess b a || b == a)
  | [], [] => rfl
  | [], _ :: _ => rfl
  | _ :: _, [] => rfl
  | a :: x, b :: y => by
    have ih := less_total x y
    simp only [Op.bytesLess]
    by_cases h1 : a < b
    · have h2 : ¬ b < a := fun h => by have := UInt8.lt_iff_toNat_lt.1 h; have := UInt8.lt_iff_toNat_lt.1 h1; omega
      have h3 : b ≠ a := fun h => by rw [h] at h1; exact absurd (UInt8.lt_iff_toNat_lt.1 h1) (by omega)
      simp [h1, h2, h3]
    · by_cases h2 : b < a
      · have h3 : a ≠ b := fun h => by rw [h] at h2; exact absurd (UInt8.lt_iff_toNat_lt.1 h2) (by omega)
        simp [h1, h2, h3]
      · have h3 : a = b := UInt8.toNat_inj.1 (by
          have a1 : ¬ a.toNat < b.toNat := fun h => h1 (UInt8.lt_iff_toNat_lt.2 h)
          have a2 : ¬ b.toNat < a.toNat := fun h => h2 (UInt8.lt_iff_toNat_lt.2 h)
          omega)
        subst h3
        simpa [h1] using ih

/-- Each lower than the next. -/
def rise : List Txt → Bool
  | a :: b :: r => Op.bytesLess a b && rise (b :: r)
  | _ => true
theorem rise_of : ∀ {xs : List Txt}, (∀ (i : Nat) a b, xs[i]? = some a → xs[i + 1]? = some b → Op.bytesLess a b = true) → rise xs = true
  | [], _ => rfl
  | [_], _ => rfl
  | a :: b :: r, h => by
    rw [rise, h 0 a b rfl rfl, Bool.true_and]
    exact rise_of fun i x y h1 h2 => h (i + 1) x y (by simpa using h1) (by simpa using h2)
theorem rise_at : ∀ {xs : List Txt} {i : Nat} {a b}, rise xs = true → xs[i]? = some a → xs[i + 1]? = some b → Op.bytesLess a b = true
  | [], i, a, b, _, h, _ => by simp at h
  | [_], i, a, b, _, _, h => by simp at h
  | x :: y :: r, 0, a, b, h, h1, h2 => by
    simp only [rise, Bool.and_eq_true] at h
    simp at h1 h2; subst h1; subst h2; exact h.1
  | x :: y :: r, i + 1, a, b, h, h1, h2 => by
    simp only [rise, Bool.and_eq_true] at h
    exact rise_at (i := i) h.2 (by simpa using h1) (by simpa using h2)
theorem rise_bad {xs : List Txt} {i : Nat} {a b} (h1 : xs[i]? = some a) (h2 : xs[i + 1]? = some b) (h : Op.bytesLess a b = false) : rise xs = false := by
  cases hr : rise xs with
  | false => rfl
  | true => have := rise_at hr h1 h2; rw [h] at this; cases this

theorem Rise_spec (hf : prog "haberdash/goods.Rise" = some f_goods_Rise) {G a} {xs : List Txt} (v : ∀ L, TView sEnc ⟨G, L⟩ a xs) (hl : xs.length ≤ maxLen) :
    Ev prog (.call "haberdash/goods.Rise" [a] G) (.ret (.v (.bool (rise xs))) G) := by
  have hml : xs.length ≤ 9223372036854775807 := hl
  refine call_of_fin hf ?_
  simp only [f_goods_Rise_B, enter, List.length_cons, List.length_nil, List.replicate, Nat.reduceAdd, Nat.reduceSub, List.cons_append, List.nil_append]
  simp (disch := first | (simp only [ne_eq, reduceCtorEq, not_false_eq_true, implies_true]; done) | omega) only [WS, St.guard, St.put, evalO, reduceCtorEq, reduceIte, Nat.reduceAdd, Nat.reduceEqDiff, (v _).lenSlice]
  refine WC_countP (fun i => ∀ (j : Nat) x y, j + 1 < i → xs[j]? = some x → xs[j + 1]? = some y → Op.bytesLess x y = true) (fun i => ⟨f_goods_Rise_H0 a (.v (.int .i64 xs.length)) (.v (.int .i64 (i : Nat))), ⟨G, []⟩⟩) xs.length ?_ (fun j x y h => by omega) (fun i hi hp => ?_) (fun hp => ?_)
  · simp only [clear_nil, List.foldl_cons, List.foldl_nil, Option.some.injEq, List.map_cons, List.map_nil, List.getD_cons_zero, List.getD_cons_succ, List.set_cons_zero, List.set_cons_succ, Option.map_some, Option.bind_some, ne_eq, reduceCtorEq, not_false_eq_true, implies_true, beq_self_eq_true, BEq.rfl, if_true, if_false, Bool.false_eq_true, not_true_eq_false, Option.some.injEq, reduceIte, Bool.not_true, Bool.not_false, beq_true, beq_false, Bool.true_and, Bool.and_true, Bool.false_and, Bool.and_false, true_and, List.getElem?_cons_zero, List.getElem?_cons_succ, List.length_cons, List.length_nil, Nat.reduceAdd]; rfl
  · have hlt' : (i : Int) < (xs.length : Int) := by omega
    have hx : xs[i]? = some xs[i] := List.getElem?_eq_getElem hi
    have vi := (v []).index (k := .i64) hi
    have vl := (v []).load hx
    simp only [show sEnc.esz = 1 from rfl, show sEnc.agg = false from rfl, sEnc_av] at vi vl
    simp (disch := first | (simp only [ne_eq, reduceCtorEq, not_false_eq_true, implies_true]; done) | omega) only [f_goods_Rise_L0, f_goods_Rise_H0, WS, St.guard, St.put, evalO, reduceCtorEq, reduceIte, Nat.reduceAdd, Nat.reduceEqDiff, hlt', decide_true]
    cases i with
    | zero =>
      simp (disch := first | (simp only [ne_eq, reduceCtorEq, not_false_eq_true, implies_true]; done) | omega) only [WS, St.guard, St.put, evalO, reduceCtorEq, reduceIte, Nat.reduceAdd, Nat.reduceEqDiff, show ¬ (((0 : Nat) : Int) > 0) from by omega, decide_false, vBin_add_i64, clear_nil, List.foldl_cons, List.foldl_nil, Option.some.injEq]
      exact ⟨rfl, fun j x y h => by omega⟩
    | succ k =>
      have hk : k < xs.length := by omega
      have hx0 : xs[k]? = some xs[k] := List.getElem?_eq_getElem hk
      have vi0 := (v []).index (k := .i64) hk
      have vl0 := (v []).load hx0
      simp only [show sEnc.esz = 1 from rfl, show sEnc.agg = false from rfl, sEnc_av] at vi0 vl0
      have e1 : ((k + 1 : Nat) : Int) - 1 = (k : Int) := by omega
      simp (disch := first | (simp only [ne_eq, reduceCtorEq, not_false_eq_true, implies_true]; done) | omega) only [WS, St.guard, St.put, evalO, reduceCtorEq, reduceIte, Nat.reduceAdd, Nat.reduceEqDiff, show (((k + 1 : Nat) : Int) > 0) from by omega, decide_true, vBin_sub_i64, e1, vi0, vl0, vi, vl, vBin_geq_str]
      cases hless : Op.bytesLess xs[k] xs[k + 1]
      · simp (disch := first | (simp only [ne_eq, reduceCtorEq, not_false_eq_true, implies_true]; done) | omega) only [WS, St.guard, St.put, evalO, reduceCtorEq, reduceIte, Nat.reduceAdd, Nat.reduceEqDiff, fin_tmp, leave_v, rise_bad hx0 hx hless]
        simp
      · simp (disch := first | (simp only [ne_eq, reduceCtorEq, not_false_eq_true, implies_true]; done) | omega) only [WS, St.guard, St.put, evalO, reduceCtorEq, reduceIte, Nat.reduceAdd, Nat.reduceEqDiff, vBin_add_i64, clear_nil, List.foldl_cons, List.foldl_nil, Option.some.injEq]
        refine ⟨rfl, fun j x y hj h1 h2 => ?_⟩
        by_cases hjk : j + 1 < k + 1
        · exact hp j x y hjk h1 h2
        · obtain rfl : j = k := by omega
          rw [hx0] at h1; rw [hx] at h2; cases h1; cases h2; exact hless
  · simp (disch := first | (simp only [ne_eq, reduceCtorEq, not_false_eq_true, implies_true]; done) | omega) only [f_goods_Rise_L0, f_goods_Rise_H0, WS, St.guard, St.put, evalO, reduceCtorEq, reduceIte, Nat.reduceAdd, Nat.reduceEqDiff, decide_false, fin_tmp, leave_v]
    rw [rise_of fun i x y h1 h2 => hp i x y (lt_of_get h2) h1 h2]
    simp
end Go.AM

/- Lists of names: places; what may be; what is there. -/
namespace Go.AM
variable {prog : String → Option IFn}

theorem sEnc_row1 : sEnc.esz = 1 ∧ sEnc.agg = false := ⟨rfl, rfl⟩
theorem sView_at {G L a} {xs : List Txt} (v : TView sEnc ⟨G, L⟩ a xs) {i : Nat} (hi : i < xs.length) :
    prim ⟨G, L⟩ (.indexAddr 1) [a, .v (.int .i64 (i : Int))] = some (elemPtr a 1 i, ⟨G, L⟩) ∧ prim ⟨G, L⟩ (.load 1 false) [elemPtr a 1 i] = some (.v (str xs[i]), ⟨G, L⟩) :=
  ⟨v.index hi, v.load (List.getElem?_eq_getElem hi)⟩

theorem mem_of_at {xs : List Txt} {i : Nat} {x : Txt} (h : xs[i]? = some x) : x ∈ xs := List.mem_of_getElem? h
theorem not_mem_of {xs : List Txt} {x : Txt} (h : ∀ (j : Nat) y, xs[j]? = some y → y ≠ x) : x ∉ xs := fun hx => by
  obtain ⟨j, hj⟩ := List.mem_iff_getElem?.1 hx
  exact h j x hj rfl

theorem Index_spec (hf : prog "slices.Index[haberdash/scope.names,string]" = some f_slices_Index_scope_names_string_) {G a} {xs : List Txt} {x : Txt} (v : ∀ L, TView sEnc ⟨G, L⟩ a xs) (hl : xs.length ≤ maxLen) :
    ∃ n : Int, Ev prog (.call "slices.Index[haberdash/scope.names,string]" [a, .v (str x)] G) (.ret (.v (.int .i64 n)) G) ∧ decide (n ≥ 0) = decide (x ∈ xs) := by
  have hml : xs.length ≤ 9223372036854775807 := hl
  obtain ⟨r, G2, he, n, rfl, rfl, hr⟩ := call_ex (prog := prog) (P := fun r G2 => ∃ n : Int, r = .v (.int .i64 n) ∧ G2 = G ∧ decide (n ≥ 0) = decide (x ∈ xs)) hf (args := [a, .v (str x)]) (G := G) (by
    simp only [f_slices_Index_scope_names_string__B, enter, List.length_cons, List.length_nil, List.replicate, Nat.reduceAdd, Nat.reduceSub, List.cons_append, List.nil_append]
    simp (disch := first | (simp only [ne_eq, reduceCtorEq, not_false_eq_true, implies_true]; done) | omega) only [WS, St.guard, St.put, evalO, reduceCtorEq, reduceIte, Nat.reduceAdd, Nat.reduceEqDiff, (v _).lenSlice]
    refine WC_countP (fun i => ∀ (j : Nat) y, j < i → xs[j]? = some y → y ≠ x) (fun i => ⟨f_slices_Index_scope_names_string__H0 a (.v (str x)) (.v (.int .i64 xs.length)) (.v (.int .i64 (i : Nat))), ⟨G, []⟩⟩) xs.length ?_ (fun j y h => by omega) (fun i hi hp => ?_) (fun hp => ?_)
    · simp only [clear_nil, List.foldl_cons, List.foldl_nil, Option.some.injEq, List.map_cons, List.map_nil, List.getD_cons_zero, List.getD_cons_succ, List.set_cons_zero, List.set_cons_succ, Option.map_some, Option.bind_some, ne_eq, reduceCtorEq, not_false_eq_true, implies_true, beq_self_eq_true, BEq.rfl, if_true, if_false, Bool.false_eq_true, not_true_eq_false, Option.some.injEq, reduceIte, Bool.not_true, Bool.not_false, beq_true, beq_false, Bool.true_and, Bool.and_true, Bool.false_and, Bool.and_false, true_and, List.getElem?_cons_zero, List.getElem?_cons_succ, List.length_cons, List.length_nil, Nat.reduceAdd]; rfl
    · have hlt' : (i : Int) < (xs.length : Int) := by omega
      have hx : xs[i]? = some xs[i] := List.getElem?_eq_getElem hi
      have vi := (sView_at (v []) hi).1
      have vl := (sView_at (v []) hi).2
      simp (disch := first | (simp only [ne_eq, reduceCtorEq, not_false_eq_true, implies_true]; done) | omega) only [f_slices_Index_scope_names_string__L0, f_slices_Index_scope_names_string__H0, WS, St.guard, St.put, evalO, reduceCtorEq, reduceIte, Nat.reduceAdd, Nat.reduceEqDiff, hlt', decide_true, vi, vl, vBin_eql_str]
      by_cases hc : x = xs[i]
      · simp (disch := first | (simp only [ne_eq, reduceCtorEq, not_false_eq_true, implies_true]; done) | omega) only [WS, St.guard, St.put, evalO, reduceCtorEq, reduceIte, Nat.reduceAdd, Nat.reduceEqDiff, decide_eq_true hc, fin_tmp, leave_v]
        refine ⟨by simp, _, _, rfl, i, rfl, rfl, ?_⟩
        have : x ∈ xs := by rw [hc]; exact mem_of_at hx
        rw [decide_eq_true this, decide_eq_true (by omega)]
      · simp (disch := first | (simp only [ne_eq, reduceCtorEq, not_false_eq_true, implies_true]; done) | omega) only [WS, St.guard, St.put, evalO, reduceCtorEq, reduceIte, Nat.reduceAdd, Nat.reduceEqDiff, decide_eq_false hc, vBin_add_i64, clear_nil, List.foldl_cons, List.foldl_nil, Option.some.injEq]
        refine ⟨rfl, fun j y hj h1 => ?_⟩
        by_cases hji : j < i
        · exact hp j y hji h1
        · obtain rfl : j = i := by omega
          rw [hx] at h1; cases h1; exact fun h => hc h.symm
    · simp (disch := first | (simp only [ne_eq, reduceCtorEq, not_false_eq_true, implies_true]; done) | omega) only [f_slices_Index_scope_names_string__L0, f_slices_Index_scope_names_string__H0, WS, St.guard, St.put, evalO, reduceCtorEq, reduceIte, Nat.reduceAdd, Nat.reduceEqDiff, decide_false, fin_tmp, leave_v]
      refine ⟨by simp, _, _, rfl, -1, rfl, rfl, ?_⟩
      have : x ∉ xs := not_mem_of fun j y h => hp j y (lt_of_get h) h
      rw [decide_eq_false this]; rfl)
  exact ⟨n, he, hr⟩

theorem IndexFunc_spec (hf : prog "slices.IndexFunc[haberdash/scope.names,string]" = some f_slices_IndexFunc_scope_names_string_) {G a fv} {xs : List Txt} (p : Txt → Bool) (v : ∀ L, TView sEnc ⟨G, L⟩ a xs) (hl : xs.length ≤ maxLen)
    (hc : ∀ (i : Nat) x, xs[i]? = some x → Ev prog (.op (.callV []) [fv, .v (str x)] ⟨G, []⟩) (.val (.v (.bool (p x))) ⟨G, []⟩)) :
    ∃ n : Int, Ev prog (.call "slices.IndexFunc[haberdash/scope.names,string]" [a, fv] G) (.ret (.v (.int .i64 n)) G) ∧ decide (n ≥ 0) = xs.any p := by
  have hml : xs.length ≤ 9223372036854775807 := hl
  obtain ⟨r, G2, he, n, rfl, rfl, hr⟩ := call_ex (prog := prog) (P := fun r G2 => ∃ n : Int, r = .v (.int .i64 n) ∧ G2 = G ∧ decide (n ≥ 0) = xs.any p) hf (args := [a, fv]) (G := G) (by
    simp only [f_slices_IndexFunc_scope_names_string__B, enter, List.length_cons, List.length_nil, List.replicate, Nat.reduceAdd, Nat.reduceSub, List.cons_append, List.nil_append]
    simp (disch := first | (simp only [ne_eq, reduceCtorEq, not_false_eq_true, implies_true]; done) | omega) only [WS, St.guard, St.put, evalO, reduceCtorEq, reduceIte, Nat.reduceAdd, Nat.reduceEqDiff, (v _).lenSlice]
    refine WC_countP (fun i => ∀ (j : Nat) y, j < i → xs[j]? = some y → p y = false) (fun i => ⟨f_slices_IndexFunc_scope_names_string__H0 a fv (.v (.int .i64 xs.length)) (.v (.int .i64 (i : Nat))), ⟨G, []⟩⟩) xs.length ?_ (fun j y h => by omega) (fun i hi hp => ?_) (fun hp => ?_)
    · simp only [clear_nil, List.foldl_cons, List.foldl_nil, Option.some.injEq, List.map_cons, List.map_nil, List.getD_cons_zero, List.getD_cons_succ, List.set_cons_zero, List.set_cons_succ, Option.map_some, Option.bind_some, ne_eq, reduceCtorEq, not_false_eq_true, implies_true, beq_self_eq_true, BEq.rfl, if_true, if_false, Bool.false_eq_true, not_true_eq_false, Option.some.injEq, reduceIte, Bool.not_true, Bool.not_false, beq_true, beq_false, Bool.true_and, Bool.and_true, Bool.false_and, Bool.and_false, true_and, List.getElem?_cons_zero, List.getElem?_cons_succ, List.length_cons, List.length_nil, Nat.reduceAdd]; rfl
    · have hlt' : (i : Int) < (xs.length : Int) := by omega
      have hx : xs[i]? = some xs[i] := List.getElem?_eq_getElem hi
      have vi := (sView_at (v []) hi).1
      have vl := (sView_at (v []) hi).2
      simp (disch := first | (simp only [ne_eq, reduceCtorEq, not_false_eq_true, implies_true]; done) | omega) only [f_slices_IndexFunc_scope_names_string__L0, f_slices_IndexFunc_scope_names_string__H0, WS, St.guard, St.put, evalO, reduceCtorEq, reduceIte, Nat.reduceAdd, Nat.reduceEqDiff, hlt', decide_true, vi, vl]
      refine ⟨_, _, hc i _ hx, ?_⟩
      cases hpx : p xs[i]
      · simp (disch := first | (simp only [ne_eq, reduceCtorEq, not_false_eq_true, implies_true]; done) | omega) only [WS, St.guard, St.put, evalO, reduceCtorEq, reduceIte, Nat.reduceAdd, Nat.reduceEqDiff, vBin_add_i64, clear_nil, List.foldl_cons, List.foldl_nil, Option.some.injEq]
        refine ⟨rfl, fun j y hj h1 => ?_⟩
        by_cases hji : j < i
        · exact hp j y hji h1
        · obtain rfl : j = i := by omega
          rw [hx] at h1; cases h1; exact hpx
      · simp (disch := first | (simp only [ne_eq, reduceCtorEq, not_false_eq_true, implies_true]; done) | omega) only [WS, St.guard, St.put, evalO, reduceCtorEq, reduceIte, Nat.reduceAdd, Nat.reduceEqDiff, fin_tmp, leave_v]
        refine ⟨by simp, _, _, rfl, i, rfl, rfl, ?_⟩
        rw [decide_eq_true (by omega)]
        exact (List.any_eq_true.2 ⟨_, mem_of_at hx, hpx⟩).symm
    · simp (disch := first | (simp only [ne_eq, reduceCtorEq, not_false_eq_true, implies_true]; done) | omega) only [f_slices_IndexFunc_scope_names_string__L0, f_slices_IndexFunc_scope_names_string__H0, WS, St.guard, St.put, evalO, reduceCtorEq, reduceIte, Nat.reduceAdd, Nat.reduceEqDiff, decide_false, fin_tmp, leave_v]
      refine ⟨by simp, _, _, rfl, -1, rfl, rfl, ?_⟩
      have : xs.any p = false := by
        rw [List.any_eq_false]
        intro x hx
        obtain ⟨j, hj⟩ := List.mem_iff_getElem?.1 hx
        rw [hp j x (lt_of_get hj) hj]; simp
      rw [this]; rfl)
  exact ⟨n, he, hr⟩

theorem refhas_spec (hf : prog "haberdash/haberdashref10.has" = some f_ref10_has) {G a} {xs : List Txt} {x : Txt} (v : ∀ L, TView sEnc ⟨G, L⟩ a xs) (hl : xs.length ≤ maxLen) :
    Ev prog (.call "haberdash/haberdashref10.has" [a, .v (str x)] G) (.ret (.v (.bool (decide (x ∈ xs)))) G) := by
  have hml : xs.length ≤ 9223372036854775807 := hl
  refine call_of_fin hf ?_
  simp only [f_ref10_has_B, enter, List.length_cons, List.length_nil, List.replicate, Nat.reduceAdd, Nat.reduceSub, List.cons_append, List.nil_append]
  simp (disch := first | (simp only [ne_eq, reduceCtorEq, not_false_eq_true, implies_true]; done) | omega) only [WS, St.guard, St.put, evalO, reduceCtorEq, reduceIte, Nat.reduceAdd, Nat.reduceEqDiff]
  refine WC_countP (fun i => ∀ (j : Nat) y, j < i → xs[j]? = some y → y ≠ x) (fun i => ⟨f_ref10_has_H0 a (.v (str x)) (.v (.int .i64 (i : Nat))), ⟨G, []⟩⟩) xs.length ?_ (fun j y h => by omega) (fun i hi hp => ?_) (fun hp => ?_)
  · simp only [clear_nil, List.foldl_cons, List.foldl_nil, Option.some.injEq, List.map_cons, List.map_nil, List.getD_cons_zero, List.getD_cons_succ, List.set_cons_zero, List.set_cons_succ, Option.map_some, Option.bind_some, ne_eq, reduceCtorEq, not_false_eq_true, implies_true, beq_self_eq_true, BEq.rfl, if_true, if_false, Bool.false_eq_true, not_true_eq_false, Option.some.injEq, reduceIte, Bool.not_true, Bool.not_false, beq_true, beq_false, Bool.true_and, Bool.and_true, Bool.false_and, Bool.and_false, true_and, List.getElem?_cons_zero, List.getElem?_cons_succ, List.length_cons, List.length_nil, Nat.reduceAdd]; rfl
  · have hlt' : (i : Int) < (xs.length : Int) := by omega
    have hx : xs[i]? = some xs[i] := List.getElem?_eq_getElem hi
    have vi := (sView_at (v []) hi).1
    have vl := (sView_at (v []) hi).2
    simp (disch := first | (simp only [ne_eq, reduceCtorEq, not_false_eq_true, implies_true]; done) | omega) only [f_ref10_has_L0, f_ref10_has_H0, WS, St.guard, St.put, evalO, reduceCtorEq, reduceIte, Nat.reduceAdd, Nat.reduceEqDiff, (v _).lenSlice, hlt', decide_true, vi, vl, vBin_eql_str]
    by_cases hc : xs[i] = x
    · have : x ∈ xs := by rw [← hc]; exact mem_of_at hx
      simp (disch := first | (simp only [ne_eq, reduceCtorEq, not_false_eq_true, implies_true]; done) | omega) only [WS, St.guard, St.put, evalO, reduceCtorEq, reduceIte, Nat.reduceAdd, Nat.reduceEqDiff, decide_eq_true hc, fin_tmp, leave_v, decide_eq_true this]
      simp
    · simp (disch := first | (simp only [ne_eq, reduceCtorEq, not_false_eq_true, implies_true]; done) | omega) only [WS, St.guard, St.put, evalO, reduceCtorEq, reduceIte, Nat.reduceAdd, Nat.reduceEqDiff, decide_eq_false hc, vBin_add_i64, clear_nil, List.foldl_cons, List.foldl_nil, Option.some.injEq]
      refine ⟨rfl, fun j y hj h1 => ?_⟩
      by_cases hji : j < i
      · exact hp j y hji h1
      · obtain rfl : j = i := by omega
        rw [hx] at h1; cases h1; exact hc
  · have : x ∉ xs := not_mem_of fun j y h => hp j y (lt_of_get h) h
    simp (disch := first | (simp only [ne_eq, reduceCtorEq, not_false_eq_true, implies_true]; done) | omega) only [f_ref10_has_L0, f_ref10_has_H0, WS, St.guard, St.put, evalO, reduceCtorEq, reduceIte, Nat.reduceAdd, Nat.reduceEqDiff, (v _).lenSlice, decide_false, fin_tmp, leave_v, decide_eq_false this]
    simp
end Go.AM

/- Scopes: which may be; what they have. -/
namespace Go.AM
variable {prog : String → Option IFn}

structure ScopeLib (prog : String → Option IFn) : Prop where
  name : prog "haberdash/goods.Name" = some f_goods_Name
  rname : prog "haberdash/haberdashref10.Name" = some f_ref10_Name
  riseF : prog "haberdash/goods.Rise" = some f_goods_Rise
  idx : prog "slices.Index[haberdash/scope.names,string]" = some f_slices_Index_scope_names_string_
  idxF : prog "slices.IndexFunc[haberdash/scope.names,string]" = some f_slices_IndexFunc_scope_names_string_
  cont : prog "slices.Contains[haberdash/scope.names,string]" = some f_slices_Contains_scope_names_string_
  contF : prog "slices.ContainsFunc[haberdash/scope.names,string]" = some f_slices_ContainsFunc_scope_names_string_
  nright : prog "(haberdash/scope.names).right" = some f__scope_names__right
  nright1 : prog "(haberdash/scope.names).right$1" = some f__scope_names__right_1
  nhas : prog "(haberdash/scope.names).has" = some f__scope_names__has
  right : prog "haberdash/scope.Right" = some f_scope_Right
  has : prog "haberdash/scope.Has" = some f_scope_Has
  rnames : prog "haberdash/haberdashref10.names" = some f_ref10_names
  rhas : prog "haberdash/haberdashref10.has" = some f_ref10_has
  rscope : prog "haberdash/haberdashref10.Scope" = some f_ref10_Scope
  rHas : prog "haberdash/haberdashref10.Has" = some f_ref10_Has

theorem nhas_spec (H : ScopeLib prog) {G a} {xs : List Txt} {x : Txt} (v : ∀ L, TView sEnc ⟨G, L⟩ a xs) (hl : xs.length ≤ maxLen) :
    Ev prog (.call "(haberdash/scope.names).has" [a, .v (str x)] G) (.ret (.v (.bool (decide (x ∈ xs)))) G) := by
  refine call_of_fin H.nhas ?_
  simp only [f__scope_names__has_B, enter, List.length_cons, List.length_nil, List.replicate, Nat.reduceAdd, Nat.reduceSub, List.cons_append, List.nil_append]
  simp (disch := first | (simp only [ne_eq, reduceCtorEq, not_false_eq_true, implies_true]; done) | omega) only [WS, St.guard, St.put, evalO, reduceCtorEq, reduceIte, Nat.reduceAdd, Nat.reduceEqDiff]
  have hc : ∀ {G a} , (∀ L, TView sEnc ⟨G, L⟩ a xs) → Ev prog (.call "slices.Contains[haberdash/scope.names,string]" [a, .v (str x)] G) (.ret (.v (.bool (decide (x ∈ xs)))) G) := fun {G a} v => by
    refine call_of_fin H.cont ?_
    simp only [f_slices_Contains_scope_names_string__B, enter, List.length_cons, List.length_nil, List.replicate, Nat.reduceAdd, Nat.reduceSub, List.cons_append, List.nil_append]
    simp (disch := first | (simp only [ne_eq, reduceCtorEq, not_false_eq_true, implies_true]; done) | omega) only [WS, St.guard, St.put, evalO, reduceCtorEq, reduceIte, Nat.reduceAdd, Nat.reduceEqDiff]
    obtain ⟨n, he, hn⟩ := Index_spec (prog := prog) H.idx (x := x) ((v []).into) hl
    rw [WP_p (x := .int .i64 n) (by exact he) (by exact trivial)]
    simp (disch := first | (simp only [ne_eq, reduceCtorEq, not_false_eq_true, implies_true]; done) | omega) only [WS, St.guard, St.put, evalO, reduceCtorEq, reduceIte, Nat.reduceAdd, Nat.reduceEqDiff, hn, fin_tmp, leave_v]
    simp
  rw [WP_p (x := .bool (decide (x ∈ xs))) (by exact hc ((v []).into)) (by exact trivial)]
  simp (disch := first | (simp only [ne_eq, reduceCtorEq, not_false_eq_true, implies_true]; done) | omega) only [WS, St.guard, St.put, evalO, reduceCtorEq, reduceIte, Nat.reduceAdd, Nat.reduceEqDiff, fin_tmp, leave_v]
  simp

def namesOK (xs : List Txt) : Bool := decide (xs.length ≤ 20) && (rise xs && xs.all nameOK)

theorem nright_spec (H : ScopeLib prog) {G a} {xs : List Txt} (v : ∀ L, TView sEnc ⟨G, L⟩ a xs) (hl : xs.length ≤ maxLen) :
    Ev prog (.call "(haberdash/scope.names).right" [a] G) (.ret (.v (.bool (namesOK xs))) G) := by
  refine call_of_fin H.nright ?_
  have h1 : ∀ {G} (x : Txt), Ev prog (.call "(haberdash/scope.names).right$1" [.v (str x)] G) (.ret (.v (.bool (!(nameOK x)))) G) := fun {G} x => by
    refine call_of_fin H.nright1 ?_
    simp only [f__scope_names__right_1_B, enter, List.length_cons, List.length_nil, List.replicate, Nat.reduceAdd, Nat.reduceSub, List.cons_append, List.nil_append]
    simp (disch := first | (simp only [ne_eq, reduceCtorEq, not_false_eq_true, implies_true]; done) | omega) only [WS, St.guard, St.put, evalO, reduceCtorEq, reduceIte, Nat.reduceAdd, Nat.reduceEqDiff]
    rw [WP_p (x := .bool (nameOK x)) (by exact goodsName_spec H.name) (by exact trivial)]
    simp (disch := first | (simp only [ne_eq, reduceCtorEq, not_false_eq_true, implies_true]; done) | omega) only [WS, St.guard, St.put, evalO, reduceCtorEq, reduceIte, Nat.reduceAdd, Nat.reduceEqDiff, fin_tmp, leave_v]
    simp
  have hc : ∀ {G a} , (∀ L, TView sEnc ⟨G, L⟩ a xs) → Ev prog (.call "slices.ContainsFunc[haberdash/scope.names,string]" [a, .fn "(haberdash/scope.names).right$1" [] []] G) (.ret (.v (.bool (!(xs.all nameOK)))) G) := fun {G a} v => by
    refine call_of_fin H.contF ?_
    simp only [f_slices_ContainsFunc_scope_names_string__B, enter, List.length_cons, List.length_nil, List.replicate, Nat.reduceAdd, Nat.reduceSub, List.cons_append, List.nil_append]
    simp (disch := first | (simp only [ne_eq, reduceCtorEq, not_false_eq_true, implies_true]; done) | omega) only [WS, St.guard, St.put, evalO, reduceCtorEq, reduceIte, Nat.reduceAdd, Nat.reduceEqDiff]
    obtain ⟨n, he, hn⟩ := IndexFunc_spec (prog := prog) H.idxF (fv := .fn "(haberdash/scope.names).right$1" [] []) (fun x => !(nameOK x)) ((v []).into) hl (fun i x hx => by
      refine .opCallV (r := .v (.bool (!(nameOK x)))) (G2 := (⟨(⟨G, []⟩ : Hp).into, []⟩ : Hp).into) rfl ?_ (back_pure rfl)
      exact h1 x)
    rw [WP_p (x := .int .i64 n) (by exact he) (by exact trivial)]
    have e : (xs.any fun x => !(nameOK x)) = !(xs.all nameOK) := by rw [List.not_all_eq_any_not]
    simp (disch := first | (simp only [ne_eq, reduceCtorEq, not_false_eq_true, implies_true]; done) | omega) only [WS, St.guard, St.put, evalO, reduceCtorEq, reduceIte, Nat.reduceAdd, Nat.reduceEqDiff, hn, e, fin_tmp, leave_v]
    simp
  simp only [f__scope_names__right_B, enter, List.length_cons, List.length_nil, List.replicate, Nat.reduceAdd, Nat.reduceSub, List.cons_append, List.nil_append]
  simp (disch := first | (simp only [ne_eq, reduceCtorEq, not_false_eq_true, implies_true]; done) | omega) only [WS, St.guard, St.put, evalO, reduceCtorEq, reduceIte, Nat.reduceAdd, Nat.reduceEqDiff, (v _).lenSlice]
  by_cases h20 : (xs.length : Int) ≤ 20
  · have e20 : decide (xs.length ≤ 20) = true := decide_eq_true (by omega)
    simp (disch := first | (simp only [ne_eq, reduceCtorEq, not_false_eq_true, implies_true]; done) | omega) only [WS, St.guard, St.put, evalO, reduceCtorEq, reduceIte, Nat.reduceAdd, Nat.reduceEqDiff, h20, decide_true]
    rw [WP_p (x := .bool (rise xs)) (by exact Rise_spec H.riseF ((v []).into) hl) (by exact trivial)]
    cases hr : rise xs
    · simp (disch := first | (simp only [ne_eq, reduceCtorEq, not_false_eq_true, implies_true]; done) | omega) only [WS, St.guard, St.put, evalO, reduceCtorEq, reduceIte, Nat.reduceAdd, Nat.reduceEqDiff, fin_tmp, leave_v, namesOK, e20, hr]
      simp
    · simp (disch := first | (simp only [ne_eq, reduceCtorEq, not_false_eq_true, implies_true]; done) | omega) only [WS, St.guard, St.put, evalO, reduceCtorEq, reduceIte, Nat.reduceAdd, Nat.reduceEqDiff]
      rw [WP_p (x := .bool (!(xs.all nameOK))) (by exact hc ((v []).into)) (by exact trivial)]
      simp (disch := first | (simp only [ne_eq, reduceCtorEq, not_false_eq_true, implies_true]; done) | omega) only [WS, St.guard, St.put, evalO, reduceCtorEq, reduceIte, Nat.reduceAdd, Nat.reduceEqDiff, fin_tmp, leave_v, namesOK, e20, hr, Bool.not_not]
      simp
  · have e20 : decide (xs.length ≤ 20) = false := decide_eq_false (by omega)
    simp (disch := first | (simp only [ne_eq, reduceCtorEq, not_false_eq_true, implies_true]; done) | omega) only [WS, St.guard, St.put, evalO, reduceCtorEq, reduceIte, Nat.reduceAdd, Nat.reduceEqDiff, h20, decide_false, fin_tmp, leave_v, namesOK, e20]
    simp

theorem rnames_spec (H : ScopeLib prog) {G a} {xs : List Txt} (v : ∀ L, TView sEnc ⟨G, L⟩ a xs) (hl : xs.length ≤ maxLen) (hx : ∀ x ∈ xs, x.length ≤ maxLen) :
    Ev prog (.call "haberdash/haberdashref10.names" [a, .v (.int .i64 20)] G) (.ret (.v (.bool (namesOK xs))) G) := by
  have hml : xs.length ≤ 9223372036854775807 := hl
  refine call_of_fin H.rnames ?_
  simp only [f_ref10_names_B, enter, List.length_cons, List.length_nil, List.replicate, Nat.reduceAdd, Nat.reduceSub, List.cons_append, List.nil_append]
  simp (disch := first | (simp only [ne_eq, reduceCtorEq, not_false_eq_true, implies_true]; done) | omega) only [WS, St.guard, St.put, evalO, reduceCtorEq, reduceIte, Nat.reduceAdd, Nat.reduceEqDiff]
  refine WC_countP (fun i => (∀ (j : Nat) x, j < i → xs[j]? = some x → nameOK x = true) ∧ ∀ (j : Nat) x y, j + 1 < i → xs[j]? = some x → xs[j + 1]? = some y → Op.bytesLess x y = true) (fun i => ⟨f_ref10_names_H0 a (.v (.int .i64 20)) (.v (.int .i64 (i : Nat))), ⟨G, []⟩⟩) xs.length ?_ ⟨fun j x h => by omega, fun j x y h => by omega⟩ (fun i hi hp => ?_) (fun hp => ?_)
  · simp only [clear_nil, List.foldl_cons, List.foldl_nil, Option.some.injEq, List.map_cons, List.map_nil, List.getD_cons_zero, List.getD_cons_succ, List.set_cons_zero, List.set_cons_succ, Option.map_some, Option.bind_some, ne_eq, reduceCtorEq, not_false_eq_true, implies_true, beq_self_eq_true, BEq.rfl, if_true, if_false, Bool.false_eq_true, not_true_eq_false, Option.some.injEq, reduceIte, Bool.not_true, Bool.not_false, beq_true, beq_false, Bool.true_and, Bool.and_true, Bool.false_and, Bool.and_false, true_and, List.getElem?_cons_zero, List.getElem?_cons_succ, List.length_cons, List.length_nil, Nat.reduceAdd]; rfl
  · have hlt' : (i : Int) < (xs.length : Int) := by omega
    have hxi : xs[i]? = some xs[i] := List.getElem?_eq_getElem hi
    have vi := (sView_at (v []) hi).1
    have vl := (sView_at (v []) hi).2
    simp (disch := first | (simp only [ne_eq, reduceCtorEq, not_false_eq_true, implies_true]; done) | omega) only [f_ref10_names_L0, f_ref10_names_H0, WS, St.guard, St.put, evalO, reduceCtorEq, reduceIte, Nat.reduceAdd, Nat.reduceEqDiff, (v _).lenSlice, hlt', decide_true, vi, vl]
    refine WDP_r (r := .v (.bool (nameOK xs[i]))) (fun X _ => by exact refName_spec H.rname (hx _ (mem_of_at hxi))) rfl (by exact trivial) ?_
    cases hn : nameOK xs[i]
    · have : namesOK xs = false := by unfold namesOK; rw [all_bad hxi hn]; simp
      simp (disch := first | (simp only [ne_eq, reduceCtorEq, not_false_eq_true, implies_true]; done) | omega) only [WS, St.guard, St.put, evalO, reduceCtorEq, reduceIte, Nat.reduceAdd, Nat.reduceEqDiff, fin_tmp, leave_v, this]
      simp
    have g1 : ∀ (j : Nat) x, j < i + 1 → xs[j]? = some x → nameOK x = true := fun j x hj h1 => by
      by_cases hji : j < i
      · exact hp.1 j x hji h1
      · obtain rfl : j = i := by omega
        rw [hxi] at h1; cases h1; exact hn
    simp (disch := first | (simp only [ne_eq, reduceCtorEq, not_false_eq_true, implies_true]; done) | omega) only [WS, St.guard, St.put, evalO, reduceCtorEq, reduceIte, Nat.reduceAdd, Nat.reduceEqDiff]
    cases i with
    | zero =>
      simp (disch := first | (simp only [ne_eq, reduceCtorEq, not_false_eq_true, implies_true]; done) | omega) only [WS, St.guard, St.put, evalO, reduceCtorEq, reduceIte, Nat.reduceAdd, Nat.reduceEqDiff, show ¬ (((0 : Nat) : Int) > 0) from by omega, decide_false, vBin_add_i64, clear_nil, List.foldl_cons, List.foldl_nil, Option.some.injEq]
      exact ⟨rfl, g1, fun j x y h => by omega⟩
    | succ k =>
      have hk : k < xs.length := by omega
      have hx0 : xs[k]? = some xs[k] := List.getElem?_eq_getElem hk
      have vi0 := (sView_at (v []) hk).1
      have vl0 := (sView_at (v []) hk).2
      have e1 : ((k + 1 : Nat) : Int) - 1 = (k : Int) := by omega
      simp (disch := first | (simp only [ne_eq, reduceCtorEq, not_false_eq_true, implies_true]; done) | omega) only [WS, St.guard, St.put, evalO, reduceCtorEq, reduceIte, Nat.reduceAdd, Nat.reduceEqDiff, show (((k + 1 : Nat) : Int) > 0) from by omega, decide_true, vBin_sub_i64, e1, vi0, vl0, vi, vl, vBin_leq_str, ← less_total xs[k] xs[k + 1]]
      cases hless : Op.bytesLess xs[k] xs[k + 1]
      · have : namesOK xs = false := by unfold namesOK; rw [rise_bad hx0 hxi hless]; simp
        simp (disch := first | (simp only [ne_eq, reduceCtorEq, not_false_eq_true, implies_true]; done) | omega) only [WS, St.guard, St.put, evalO, reduceCtorEq, reduceIte, Nat.reduceAdd, Nat.reduceEqDiff, fin_tmp, leave_v, this]
        simp
      · simp (disch := first | (simp only [ne_eq, reduceCtorEq, not_false_eq_true, implies_true]; done) | omega) only [WS, St.guard, St.put, evalO, reduceCtorEq, reduceIte, Nat.reduceAdd, Nat.reduceEqDiff, vBin_add_i64, clear_nil, List.foldl_cons, List.foldl_nil, Option.some.injEq]
        refine ⟨rfl, g1, fun j x y hj h1 h2 => ?_⟩
        by_cases hjk : j + 1 < k + 1
        · exact hp.2 j x y hjk h1 h2
        · obtain rfl : j = k := by omega
          rw [hx0] at h1; rw [hxi] at h2; cases h1; cases h2; exact hless
  · have e : namesOK xs = decide ((xs.length : Int) ≤ 20) := by
      unfold namesOK
      rw [rise_of fun i x y h1 h2 => hp.2 i x y (lt_of_get h2) h1 h2, all_of fun j x h => hp.1 j x (lt_of_get h) h, Bool.and_true, Bool.and_true, decide_eq_decide]
      omega
    simp (disch := first | (simp only [ne_eq, reduceCtorEq, not_false_eq_true, implies_true]; done) | omega) only [f_ref10_names_L0, f_ref10_names_H0, WS, St.guard, St.put, evalO, reduceCtorEq, reduceIte, Nat.reduceAdd, Nat.reduceEqDiff, (v _).lenSlice, decide_false, fin_tmp, leave_v, e]
    simp
end Go.AM
