import Derived.Test.YtlcbfbopnegmnaaAMA
import Derived.Test.YtlcbfbopnegmnaaCrc
import Derived.Test.YtlcbfbopnegmnaaLeafA
import Derived.Test.YtlcbfbopnegmnaaHelp
import Derived.Test.YtlcbfbopnegmnaaScopeA
import Derived.Test.YtlcbfbopnegmnaaSortA
import Derived.Test.YtlcbfbopnegmnaaGoodsA
import Derived.Test.YtlcbfbopnegmnaaLeafC
import Derived.Test.YtlcbfbopnegmnaaLawGoods
set_option linter.unusedVariables false
set_option linter.unusedSimpArgs false
namespace Go.AM
def f_law04_PackWrites_L0 : ICode :=
  (.seq
    (.seq
      (.ops [
        ⟨some 13, .id, [.t 4], none, [], [], false⟩,
        ⟨some 14, .id, [.t 0], none, [], [], false⟩,
        ⟨some 15, .lenSlice, [.t 14], none, [], [], false⟩,
        ⟨some 16, .bin .lss, [.t 13, .t 15], none, [], [], false⟩])
      (.cond (.t 16)
        .skip
        (.exit 0)))
    (.seq
      (.block 1
        (.seq
          (.ops [
            ⟨some 19, .id, [.t 0], none, [], [], false⟩,
            ⟨some 20, .id, [.t 4], none, [], [], false⟩,
            ⟨some 21, .indexAddr 6, [.t 19, .t 20], none, [], [], false⟩,
            ⟨some 22, .load 6 true, [.t 21], none, [], [], false⟩,
            ⟨some 23, .call "(haberdash/haberdashlaw04.Step).kind" [], [.t 22], none, [], [], false⟩])
          (.block 2
            (.seq
              (.ops [
                ⟨some 32, .bin .eql, [.t 23, .c (.int .i64 0)], none, [], [], false⟩,
                ⟨some 31, .id, [.t 32], none, [], [], false⟩])
              (.cond (.t 31)
                (.ops [
                  ⟨some 33, .id, [.t 3], none, [], [], false⟩,
                  ⟨some 34, .id, [.t 0], none, [], [], false⟩,
                  ⟨some 35, .id, [.t 4], none, [], [], false⟩,
                  ⟨some 36, .indexAddr 6, [.t 34, .t 35], none, [], [], false⟩,
                  ⟨some 37, .fieldAddr 3, [.t 36], none, [], [], false⟩,
                  ⟨some 38, .load 1 false, [.t 37], none, [], [], false⟩,
                  ⟨some 39, .call "(*haberdash/pack.Writer).Num" [], [.t 33, .t 38], none, [], [], false⟩])
                (.seq
                  (.ops [
                    ⟨some 41, .bin .eql, [.t 23, .c (.int .i64 1)], none, [], [], false⟩,
                    ⟨some 40, .id, [.t 41], none, [], [], false⟩])
                  (.cond (.t 40)
                    (.ops [
                      ⟨some 42, .id, [.t 3], none, [], [], false⟩,
                      ⟨some 43, .id, [.t 0], none, [], [], false⟩,
                      ⟨some 44, .id, [.t 4], none, [], [], false⟩,
                      ⟨some 45, .indexAddr 6, [.t 43, .t 44], none, [], [], false⟩,
                      ⟨some 46, .fieldAddr 4, [.t 45], none, [], [], false⟩,
                      ⟨some 47, .load 1 false, [.t 46], none, [], [], false⟩,
                      ⟨some 48, .call "(*haberdash/pack.Writer).Text" [], [.t 42, .t 47], none, [], [], false⟩])
                    (.ops [
                      ⟨some 24, .id, [.t 3], none, [], [], false⟩,
                      ⟨some 25, .id, [.t 0], none, [], [], false⟩,
                      ⟨some 26, .id, [.t 4], none, [], [], false⟩,
                      ⟨some 27, .indexAddr 6, [.t 25, .t 26], none, [], [], false⟩,
                      ⟨some 28, .fieldAddr 5, [.t 27], none, [], [], false⟩,
                      ⟨some 29, .load 1 false, [.t 28], none, [], [], false⟩,
                      ⟨some 30, .call "(*haberdash/pack.Writer).Flag" [], [.t 24, .t 29], none, [], [], false⟩]))))))))
      (.ops [
        ⟨some 17, .id, [.t 4], none, [], [], false⟩,
        ⟨some 18, .bin .add, [.t 17, .c (.int .i64 1)], none, [], [], false⟩,
        ⟨some 4, .id, [.t 18], none, [], [], false⟩])))
def f_law04_PackWrites_B : ICode :=
  (.seq
    (.ops [
      ⟨some 2, .id, [.c (.bool false)], none, [], [], false⟩])
    (.seq
      (.seq
        (.ops [
          ⟨some 7, .id, [.t 0], none, [], [], false⟩,
          ⟨some 8, .call "haberdash/haberdashlaw04.few" [], [.t 7], none, [], [], false⟩,
          ⟨some 9, .un .not, [.t 8], none, [], [], false⟩])
        (.cond (.t 9)
          (.seq
            (.ops [
              ⟨some 10, .call "haberdash/haberdashlaw04.awake" [], [], none, [], [], false⟩,
              ⟨some 2, .id, [.t 10], none, [], [], false⟩])
            .ret)
          .skip))
      (.seq
        (.ops [
          ⟨some 11, .build [(.slice none 0 0)] [], [], none, [], [], false⟩,
          ⟨some 12, .boxK 1 [(0, 0, 1)], [.t 11], none, [], [], false⟩,
          ⟨some 3, .id, [.t 12], none, [], [], false⟩])
        (.seq
          (.seq
            (.ops [
              ⟨some 4, .id, [.c (.int .i64 0)], none, [], [], false⟩])
            (.block 0
              (.loop [1, 2, 5, 6, 7, 8, 9, 10, 11, 12, 13, 14, 15, 16, 17, 18, 19, 20, 21, 22, 23, 24, 25, 26, 27, 28, 29, 30, 31, 32, 33, 34, 35, 36, 37, 38, 39, 40, 41, 42, 43, 44, 45, 46, 47, 48, 49, 50, 51, 52, 53, 54, 55, 56, 57, 58, 59, 60, 61, 62, 63, 64, 65, 66, 67] [] f_law04_PackWrites_L0)))
          (.seq
            (.ops [
              ⟨some 49, .id, [.t 3], none, [], [], false⟩,
              ⟨some 50, .call "(*haberdash/pack.Writer).Bytes" [2], [.t 49], none, [], [], false⟩,
              ⟨some 5, .id, [.t 50], none, [], [], false⟩])
            (.seq
              (.ops [
                ⟨some 51, .id, [.t 5], none, [], [], false⟩,
                ⟨some 52, .append 3 false 1 1, [.c (.slice none 0 0), .t 51], none, [], [], false⟩,
                ⟨some 6, .id, [.t 52], none, [], [], false⟩])
              (.seq
                (.ops [
                  ⟨some 53, .id, [.t 5], none, [], [], false⟩,
                  ⟨some 54, .call "haberdash/haberdashhelp.Spoil[byte]" [], [.t 53], none, [], [], false⟩])
                (.seq
                  (.ops [
                    ⟨some 55, .call "haberdash/haberdashlaw04.awake" [], [], none, [], [], false⟩,
                    ⟨some 56, .id, [.t 55], none, [], [], false⟩,
                    ⟨some 57, .id, [.t 6], (some (56, true)), [], [], false⟩,
                    ⟨some 58, .id, [.t 0], (some (56, true)), [], [], false⟩,
                    ⟨some 59, .call "haberdash/haberdashlaw04.write" [4], [.t 58], (some (56, true)), [], [], false⟩,
                    ⟨some 60, .call "haberdash/haberdashhelp.Bytes" [], [.t 57, .t 59], (some (56, true)), [], [], false⟩,
                    ⟨some 61, .pick, [.t 56, .t 60, .c (.bool false)], none, [], [], false⟩,
                    ⟨some 62, .id, [.t 61], none, [], [], false⟩,
                    ⟨some 63, .id, [.t 3], (some (62, true)), [], [], false⟩,
                    ⟨some 64, .call "(*haberdash/pack.Writer).Bytes" [5], [.t 63], (some (62, true)), [], [], false⟩,
                    ⟨some 65, .id, [.t 6], (some (62, true)), [], [], false⟩,
                    ⟨some 66, .call "haberdash/haberdashhelp.Bytes" [], [.t 64, .t 65], (some (62, true)), [], [], false⟩,
                    ⟨some 67, .pick, [.t 62, .t 66, .c (.bool false)], none, [], [], false⟩,
                    ⟨some 2, .id, [.t 67], none, [], [], false⟩])
                  .ret))))))))
def f_law04_PackWrites : IFn := ⟨68, 6, [.tmp 2], f_law04_PackWrites_B⟩
def f_law04_PackBack_L0 : ICode :=
  (.seq
    (.seq
      (.ops [
        ⟨some 28, .id, [.t 6], none, [], [], false⟩,
        ⟨some 29, .id, [.t 0], none, [], [], false⟩,
        ⟨some 30, .lenSlice, [.t 29], none, [], [], false⟩,
        ⟨some 31, .bin .lss, [.t 28, .t 30], none, [], [], false⟩])
      (.cond (.t 31)
        .skip
        (.exit 0)))
    (.seq
      (.block 1
        (.seq
          (.ops [
            ⟨some 34, .id, [.t 0], none, [], [], false⟩,
            ⟨some 35, .id, [.t 6], none, [], [], false⟩,
            ⟨some 36, .indexAddr 6, [.t 34, .t 35], none, [], [], false⟩,
            ⟨some 37, .load 6 true, [.t 36], none, [], [], false⟩,
            ⟨some 38, .call "(haberdash/haberdashlaw04.Step).kind" [], [.t 37], none, [], [], false⟩])
          (.block 2
            (.seq
              (.ops [
                ⟨some 48, .bin .eql, [.t 38, .c (.int .i64 0)], none, [], [], false⟩,
                ⟨some 47, .id, [.t 48], none, [], [], false⟩])
              (.cond (.t 47)
                (.seq
                  (.ops [
                    ⟨some 49, .id, [.t 0], none, [], [], false⟩,
                    ⟨some 50, .id, [.t 6], none, [], [], false⟩,
                    ⟨some 51, .indexAddr 6, [.t 49, .t 50], none, [], [], false⟩,
                    ⟨some 52, .fieldAddr 3, [.t 51], none, [], [], false⟩,
                    ⟨some 53, .load 1 false, [.t 52], none, [], [], false⟩,
                    ⟨some 54, .max, [.t 53, .c (.int .i64 0)], none, [], [], false⟩,
                    ⟨some 7, .id, [.t 54], none, [], [], false⟩])
                  (.seq
                    (.ops [
                      ⟨some 55, .id, [.t 5], none, [], [], false⟩,
                      ⟨some 56, .id, [.t 7], none, [], [], false⟩,
                      ⟨some 57, .call "(*haberdash/pack.Reader).Num" [], [.t 55, .c (.int .i64 0), .t 56], none, [], [], false⟩,
                      ⟨some 58, .id, [.t 7], none, [], [], false⟩,
                      ⟨some 59, .bin .neq, [.t 57, .t 58], none, [], [], false⟩])
                    (.cond (.t 59)
                      (.seq
                        (.ops [
                          ⟨some 4, .id, [.c (.bool false)], none, [], [], false⟩])
                        .ret)
                      .skip)))
                (.seq
                  (.ops [
                    ⟨some 61, .bin .eql, [.t 38, .c (.int .i64 1)], none, [], [], false⟩,
                    ⟨some 60, .id, [.t 61], none, [], [], false⟩])
                  (.cond (.t 60)
                    (.seq
                      (.draw [
                        ⟨some 62, .id, [.t 5], none, [], [], false⟩,
                        ⟨some 63, .call "(*haberdash/pack.Reader).Text" [], [.t 62, .c (.int .i64 300)], none, [], [2, 3], false⟩,
                        ⟨some 64, .id, [.t 0], none, [], [], false⟩,
                        ⟨some 65, .id, [.t 6], none, [], [], false⟩,
                        ⟨some 66, .indexAddr 6, [.t 64, .t 65], none, [], [], false⟩,
                        ⟨some 67, .fieldAddr 4, [.t 66], none, [], [], false⟩,
                        ⟨some 68, .load 1 false, [.t 67], none, [2, 3], [], false⟩,
                        ⟨some 69, .bin .neq, [.t 63, .t 68], none, [], [], false⟩])
                      (.cond (.t 69)
                        (.seq
                          (.ops [
                            ⟨some 4, .id, [.c (.bool false)], none, [], [], false⟩])
                          .ret)
                        .skip))
                    (.seq
                      (.draw [
                        ⟨some 39, .id, [.t 5], none, [], [], false⟩,
                        ⟨some 40, .call "(*haberdash/pack.Reader).Flag" [], [.t 39], none, [], [2, 3], false⟩,
                        ⟨some 41, .id, [.t 0], none, [], [], false⟩,
                        ⟨some 42, .id, [.t 6], none, [], [], false⟩,
                        ⟨some 43, .indexAddr 6, [.t 41, .t 42], none, [], [], false⟩,
                        ⟨some 44, .fieldAddr 5, [.t 43], none, [], [], false⟩,
                        ⟨some 45, .load 1 false, [.t 44], none, [2, 3], [], false⟩,
                        ⟨some 46, .eqBool true, [.t 40, .t 45], none, [], [], false⟩])
                      (.cond (.t 46)
                        (.seq
                          (.ops [
                            ⟨some 4, .id, [.c (.bool false)], none, [], [], false⟩])
                          .ret)
                        .skip)))))))))
      (.ops [
        ⟨some 32, .id, [.t 6], none, [], [], false⟩,
        ⟨some 33, .bin .add, [.t 32, .c (.int .i64 1)], none, [], [], false⟩,
        ⟨some 6, .id, [.t 33], none, [], [], false⟩])))
def f_law04_PackBack_H0 (t0 t1 t5 t6 : AV) : List AV := [t0, t1, .dead, .dead, .dead, t5, t6, .dead, .dead, .dead, .dead, .dead, .dead, .dead, .dead, .dead, .dead, .dead, .dead, .dead, .dead, .dead, .dead, .dead, .dead, .dead, .dead, .dead, .dead, .dead, .dead, .dead, .dead, .dead, .dead, .dead, .dead, .dead, .dead, .dead, .dead, .dead, .dead, .dead, .dead, .dead, .dead, .dead, .dead, .dead, .dead, .dead, .dead, .dead, .dead, .dead, .dead, .dead, .dead, .dead, .dead, .dead, .dead, .dead, .dead, .dead, .dead, .dead, .dead, .dead, .dead, .dead, .dead, .dead, .dead, .dead, .dead, .dead, .dead, .dead, .dead, .dead]
def f_law04_PackBack_B : ICode :=
  (.seq
    (.ops [
      ⟨some 4, .id, [.c (.bool false)], none, [], [], false⟩])
    (.seq
      (.seq
        (.ops [
          ⟨some 8, .id, [.t 0], none, [], [], false⟩,
          ⟨some 9, .call "haberdash/haberdashlaw04.few" [], [.t 8], none, [], [], false⟩,
          ⟨some 10, .un .not, [.t 9], none, [], [], false⟩,
          ⟨some 11, .id, [.t 10], none, [], [], false⟩,
          ⟨some 12, .id, [.t 1], (some (11, false)), [], [], false⟩,
          ⟨some 13, .lenSlice, [.t 12], (some (11, false)), [], [], false⟩,
          ⟨some 14, .bin .gtr, [.t 13, .c (.int .i64 100)], (some (11, false)), [], [], false⟩,
          ⟨some 15, .pick, [.t 11, .c (.bool true), .t 14], none, [], [], false⟩])
        (.cond (.t 15)
          (.seq
            (.ops [
              ⟨some 16, .call "haberdash/haberdashlaw04.awake" [], [], none, [], [], false⟩,
              ⟨some 4, .id, [.t 16], none, [], [], false⟩])
            .ret)
          .skip))
      (.seq
        (.ops [
          ⟨some 17, .id, [.t 0], none, [], [], false⟩,
          ⟨some 18, .call "haberdash/haberdashlaw04.write" [0], [.t 17], none, [], [], false⟩,
          ⟨some 19, .id, [.t 1], none, [], [], false⟩,
          ⟨some 20, .append 1 false 1 1, [.t 18, .t 19], none, [], [], false⟩,
          ⟨some 21, .call "haberdash/pack.Read" [2, 3], [.t 20], none, [], [], false⟩,
          ⟨some 5, .id, [.t 21], none, [], [], false⟩])
        (.seq
          (.seq
            (.ops [
              ⟨some 22, .call "haberdash/haberdashlaw04.awake" [], [], none, [], [], false⟩,
              ⟨some 23, .un .not, [.t 22], none, [], [], false⟩,
              ⟨some 24, .id, [.t 23], none, [], [], false⟩,
              ⟨some 25, .id, [.t 5], (some (24, false)), [], [], false⟩,
              ⟨some 26, .eqNil false .ptr, [.t 25, .c (.pointer none)], (some (24, false)), [], [], false⟩,
              ⟨some 27, .pick, [.t 24, .c (.bool true), .t 26], none, [], [], false⟩])
            (.cond (.t 27)
              (.seq
                (.ops [
                  ⟨some 4, .id, [.c (.bool false)], none, [], [], false⟩])
                .ret)
              .skip))
          (.seq
            (.seq
              (.ops [
                ⟨some 6, .id, [.c (.int .i64 0)], none, [], [], false⟩])
              (.block 0
                (.loop [2, 3, 4, 7, 8, 9, 10, 11, 12, 13, 14, 15, 16, 17, 18, 19, 20, 21, 22, 23, 24, 25, 26, 27, 28, 29, 30, 31, 32, 33, 34, 35, 36, 37, 38, 39, 40, 41, 42, 43, 44, 45, 46, 47, 48, 49, 50, 51, 52, 53, 54, 55, 56, 57, 58, 59, 60, 61, 62, 63, 64, 65, 66, 67, 68, 69, 70, 71, 72, 73, 74, 75, 76, 77, 78, 79, 80, 81] [] f_law04_PackBack_L0)))
            (.seq
              (.ops [
                ⟨some 70, .id, [.t 5], none, [], [], false⟩,
                ⟨some 71, .call "(*haberdash/pack.Reader).Err" [], [.t 70], none, [], [], false⟩,
                ⟨some 72, .bin .eql, [.t 71, .c (.int .i64 0)], none, [], [], false⟩,
                ⟨some 73, .id, [.t 72], none, [], [], false⟩,
                ⟨some 74, .id, [.t 5], (some (73, true)), [], [], false⟩,
                ⟨some 75, .call "(*haberdash/pack.Reader).End" [], [.t 74], (some (73, true)), [], [], false⟩,
                ⟨some 76, .bin .eql, [.t 75, .c (.int .i64 0)], (some (73, true)), [], [], false⟩,
                ⟨some 77, .id, [.t 1], (some (73, true)), [], [], false⟩,
                ⟨some 78, .lenSlice, [.t 77], (some (73, true)), [], [], false⟩,
                ⟨some 79, .bin .eql, [.t 78, .c (.int .i64 0)], (some (73, true)), [], [], false⟩,
                ⟨some 80, .eqBool false, [.t 76, .t 79], (some (73, true)), [], [], false⟩,
                ⟨some 81, .pick, [.t 73, .t 80, .c (.bool false)], none, [], [], false⟩,
                ⟨some 4, .id, [.t 81], none, [], [], false⟩])
              .ret))))))
def f_law04_PackBack : IFn := ⟨82, 4, [.tmp 4], f_law04_PackBack_B⟩
def f_law04_PackCut_B : ICode :=
  (.seq
    (.ops [
      ⟨some 6, .id, [.c (.bool false)], none, [], [], false⟩])
    (.seq
      (.seq
        (.ops [
          ⟨some 13, .id, [.t 1], none, [], [], false⟩,
          ⟨some 14, .lenStr, [.t 13], none, [], [], false⟩,
          ⟨some 15, .bin .gtr, [.t 14, .c (.int .i64 200)], none, [], [], false⟩])
        (.cond (.t 15)
          (.seq
            (.ops [
              ⟨some 16, .call "haberdash/haberdashlaw04.awake" [], [], none, [], [], false⟩,
              ⟨some 6, .id, [.t 16], none, [], [], false⟩])
            .ret)
          .skip))
      (.seq
        (.ops [
          ⟨some 17, .id, [.t 0], none, [], [], false⟩,
          ⟨some 18, .max, [.t 17, .c (.int .i64 0)], none, [], [], false⟩,
          ⟨some 0, .id, [.t 18], none, [], [], false⟩])
        (.seq
          (.ops [
            ⟨some 19, .id, [.t 0], none, [], [], false⟩,
            ⟨some 20, .call "haberdash/haberdashref04.Num" [0], [.t 19], none, [], [], false⟩,
            ⟨some 21, .id, [.t 1], none, [], [], false⟩,
            ⟨some 22, .call "haberdash/haberdashref04.Text" [1], [.t 21], none, [], [], false⟩,
            ⟨some 23, .append 2 false 1 1, [.t 20, .t 22], none, [], [], false⟩,
            ⟨some 7, .id, [.t 23], none, [], [], false⟩])
          (.seq
            (.ops [
              ⟨some 24, .id, [.t 2], none, [], [], false⟩,
              ⟨some 25, .convInt .u64, [.t 24], none, [], [], false⟩,
              ⟨some 26, .id, [.t 7], none, [], [], false⟩,
              ⟨some 27, .lenSlice, [.t 26], none, [], [], false⟩,
              ⟨some 28, .convInt .u64, [.t 27], none, [], [], false⟩,
              ⟨some 29, .bin .rem, [.t 25, .t 28], none, [], [], false⟩,
              ⟨some 30, .convInt .i64, [.t 29], none, [], [], false⟩,
              ⟨some 8, .id, [.t 30], none, [], [], false⟩])
            (.seq
              (.ops [
                ⟨some 31, .id, [.t 7], none, [], [], false⟩,
                ⟨some 32, .id, [.t 8], none, [], [], false⟩,
                ⟨some 33, .slice 1 false true false, [.t 31, .t 32], none, [], [], false⟩,
                ⟨some 34, .call "haberdash/pack.Read" [3, 4], [.t 33], none, [], [], false⟩,
                ⟨some 9, .id, [.t 34], none, [], [], false⟩])
              (.seq
                (.seq
                  (.ops [
                    ⟨some 35, .call "haberdash/haberdashlaw04.awake" [], [], none, [], [], false⟩,
                    ⟨some 36, .un .not, [.t 35], none, [], [], false⟩,
                    ⟨some 37, .id, [.t 36], none, [], [], false⟩,
                    ⟨some 38, .id, [.t 9], (some (37, false)), [], [], false⟩,
                    ⟨some 39, .eqNil false .ptr, [.t 38, .c (.pointer none)], (some (37, false)), [], [], false⟩,
                    ⟨some 40, .pick, [.t 37, .c (.bool true), .t 39], none, [], [], false⟩])
                  (.cond (.t 40)
                    (.seq
                      (.ops [
                        ⟨some 6, .id, [.c (.bool false)], none, [], [], false⟩])
                      .ret)
                    .skip))
                (.seq
                  (.ops [
                    ⟨some 41, .id, [.t 0], none, [], [], false⟩,
                    ⟨some 42, .call "haberdash/haberdashref04.Num" [5], [.t 41], none, [], [], false⟩,
                    ⟨some 43, .lenSlice, [.t 42], none, [], [], false⟩,
                    ⟨some 10, .id, [.t 43], none, [], [], false⟩])
                  (.seq
                    (.ops [
                      ⟨some 44, .id, [.t 9], none, [], [], false⟩,
                      ⟨some 45, .id, [.t 0], none, [], [], false⟩,
                      ⟨some 46, .call "(*haberdash/pack.Reader).Num" [], [.t 44, .c (.int .i64 0), .t 45], none, [], [], false⟩,
                      ⟨some 47, .id, [.t 9], none, [], [], false⟩,
                      ⟨some 48, .call "(*haberdash/pack.Reader).Text" [], [.t 47, .c (.int .i64 200)], none, [], [], false⟩,
                      ⟨some 11, .id, [.t 46], none, [], [], false⟩,
                      ⟨some 12, .id, [.t 48], none, [], [], false⟩])
                    (.seq
                      (.ops [
                        ⟨some 49, .id, [.t 9], none, [], [], false⟩,
                        ⟨some 50, .call "(*haberdash/pack.Reader).Err" [], [.t 49], none, [], [], false⟩,
                        ⟨some 51, .bin .eql, [.t 50, .c (.int .i64 3)], none, [], [], false⟩,
                        ⟨some 52, .id, [.t 51], none, [], [], false⟩,
                        ⟨some 53, .id, [.t 9], (some (52, true)), [], [], false⟩,
                        ⟨some 54, .call "(*haberdash/pack.Reader).End" [], [.t 53], (some (52, true)), [], [], false⟩,
                        ⟨some 55, .bin .eql, [.t 54, .c (.int .i64 3)], (some (52, true)), [], [], false⟩,
                        ⟨some 56, .pick, [.t 52, .t 55, .c (.bool false)], none, [], [], false⟩,
                        ⟨some 57, .id, [.t 56], none, [], [], false⟩,
                        ⟨some 58, .id, [.t 12], (some (57, true)), [], [], false⟩,
                        ⟨some 59, .bin .eql, [.t 58, .c (.string ⟨#[]⟩)], (some (57, true)), [], [], false⟩,
                        ⟨some 60, .pick, [.t 57, .t 59, .c (.bool false)], none, [], [], false⟩,
                        ⟨some 61, .id, [.t 60], none, [], [], false⟩,
                        ⟨some 62, .id, [.t 11], (some (61, true)), [], [], false⟩,
                        ⟨some 63, .id, [.t 0], (some (61, true)), [], [], false⟩,
                        ⟨some 64, .bin .eql, [.t 62, .t 63], (some (61, true)), [], [], false⟩,
                        ⟨some 65, .id, [.t 8], (some (61, true)), [], [], false⟩,
                        ⟨some 66, .id, [.t 10], (some (61, true)), [], [], false⟩,
                        ⟨some 67, .bin .geq, [.t 65, .t 66], (some (61, true)), [], [], false⟩,
                        ⟨some 68, .id, [.t 67], (some (61, true)), [], [], false⟩,
                        ⟨some 69, .id, [.t 0], (some (68, false)), [], [], false⟩,
                        ⟨some 70, .bin .eql, [.t 69, .c (.int .i64 0)], (some (68, false)), [], [], false⟩,
                        ⟨some 71, .pick, [.t 68, .c (.bool true), .t 70], (some (61, true)), [], [], false⟩,
                        ⟨some 72, .eqBool false, [.t 64, .t 71], (some (61, true)), [], [], false⟩,
                        ⟨some 73, .pick, [.t 61, .t 72, .c (.bool false)], none, [], [], false⟩,
                        ⟨some 74, .id, [.t 73], none, [], [], false⟩,
                        ⟨some 75, .id, [.t 8], (some (74, true)), [], [], false⟩,
                        ⟨some 76, .id, [.t 10], (some (74, true)), [], [], false⟩,
                        ⟨some 77, .bin .geq, [.t 75, .t 76], (some (74, true)), [], [], false⟩,
                        ⟨some 78, .id, [.t 77], (some (74, true)), [], [], false⟩,
                        ⟨some 79, .id, [.t 11], (some (78, false)), [], [], false⟩,
                        ⟨some 80, .bin .eql, [.t 79, .c (.int .i64 0)], (some (78, false)), [], [], false⟩,
                        ⟨some 81, .pick, [.t 78, .c (.bool true), .t 80], (some (74, true)), [], [], false⟩,
                        ⟨some 82, .pick, [.t 74, .t 81, .c (.bool false)], none, [], [], false⟩,
                        ⟨some 83, .id, [.t 82], none, [], [], false⟩,
                        ⟨some 84, .id, [.t 9], (some (83, true)), [], [], false⟩,
                        ⟨some 85, .call "(*haberdash/pack.Reader).Flag" [], [.t 84], (some (83, true)), [], [], false⟩,
                        ⟨some 86, .un .not, [.t 85], (some (83, true)), [], [], false⟩,
                        ⟨some 87, .pick, [.t 83, .t 86, .c (.bool false)], none, [], [], false⟩,
                        ⟨some 88, .id, [.t 87], none, [], [], false⟩,
                        ⟨some 89, .id, [.t 9], (some (88, true)), [], [], false⟩,
                        ⟨some 90, .call "(*haberdash/pack.Reader).Num" [], [.t 89, .c (.int .i64 0), .c (.int .i64 9)], (some (88, true)), [], [], false⟩,
                        ⟨some 91, .bin .eql, [.t 90, .c (.int .i64 0)], (some (88, true)), [], [], false⟩,
                        ⟨some 92, .pick, [.t 88, .t 91, .c (.bool false)], none, [], [], false⟩,
                        ⟨some 6, .id, [.t 92], none, [], [], false⟩])
                      .ret))))))))))
def f_law04_PackCut : IFn := ⟨93, 6, [.tmp 6], f_law04_PackCut_B⟩
def f_law04_PackForms_L0 : ICode :=
  (.seq
    (.seq
      (.ops [
        ⟨some 36, .id, [.t 10], none, [], [], false⟩,
        ⟨some 37, .id, [.t 1], none, [], [], false⟩,
        ⟨some 38, .bin .lss, [.t 36, .t 37], none, [], [], false⟩])
      (.cond (.t 38)
        .skip
        (.exit 0)))
    (.seq
      (.block 1
        (.ops [
          ⟨some 41, .id, [.t 9], none, [], [], false⟩,
          ⟨some 42, .buildSlice 1 false 1 1 [(.int .u8 0)] [(0, 1)], [.c (.int .u8 128)], none, [], [], false⟩,
          ⟨some 43, .append 2 false 1 1, [.t 41, .t 42], none, [], [], false⟩,
          ⟨some 9, .id, [.t 43], none, [], [], false⟩]))
      (.ops [
        ⟨some 39, .id, [.t 10], none, [], [], false⟩,
        ⟨some 40, .bin .add, [.t 39, .c (.int .i64 1)], none, [], [], false⟩,
        ⟨some 10, .id, [.t 40], none, [], [], false⟩])))
def f_law04_PackForms_H0 (t0 t1 t2 t3 t9 t10 : AV) : List AV := [t0, t1, t2, t3, .dead, .dead, .dead, .dead, .dead, t9, t10, .dead, .dead, .dead, .dead, .dead, .dead, .dead, .dead, .dead, .dead, .dead, .dead, .dead, .dead, .dead, .dead, .dead, .dead, .dead, .dead, .dead, .dead, .dead, .dead, .dead, .dead, .dead, .dead, .dead, .dead, .dead, .dead, .dead, .dead, .dead, .dead, .dead, .dead, .dead, .dead, .dead, .dead, .dead, .dead, .dead, .dead, .dead, .dead, .dead, .dead, .dead, .dead, .dead, .dead, .dead, .dead, .dead, .dead, .dead, .dead, .dead, .dead, .dead, .dead, .dead, .dead, .dead, .dead, .dead, .dead, .dead, .dead, .dead, .dead, .dead, .dead, .dead, .dead, .dead, .dead, .dead, .dead, .dead, .dead, .dead, .dead, .dead, .dead, .dead, .dead, .dead, .dead, .dead, .dead, .dead, .dead, .dead, .dead, .dead]
def f_law04_PackForms_B : ICode :=
  (.seq
    (.ops [
      ⟨some 8, .id, [.c (.bool false)], none, [], [], false⟩])
    (.seq
      (.ops [
        ⟨some 16, .id, [.t 0], none, [], [], false⟩,
        ⟨some 17, .max, [.t 16, .c (.int .i64 0)], none, [], [], false⟩,
        ⟨some 18, .id, [.t 1], none, [], [], false⟩,
        ⟨some 19, .convInt .u64, [.t 18], none, [], [], false⟩,
        ⟨some 20, .bin .rem, [.t 19, .c (.int .u64 12)], none, [], [], false⟩,
        ⟨some 21, .convInt .i64, [.t 20], none, [], [], false⟩,
        ⟨some 0, .id, [.t 17], none, [], [], false⟩,
        ⟨some 1, .id, [.t 21], none, [], [], false⟩])
      (.seq
        (.ops [
          ⟨some 22, .id, [.t 0], none, [], [], false⟩,
          ⟨some 23, .call "haberdash/haberdashref04.Num" [0], [.t 22], none, [], [], false⟩,
          ⟨some 9, .id, [.t 23], none, [], [], false⟩])
        (.seq
          (.ops [
            ⟨some 24, .id, [.t 9], none, [], [], false⟩,
            ⟨some 25, .id, [.t 9], none, [], [], false⟩,
            ⟨some 26, .lenSlice, [.t 25], none, [], [], false⟩,
            ⟨some 27, .bin .sub, [.t 26, .c (.int .i64 1)], none, [], [], false⟩,
            ⟨some 28, .id, [.t 9], none, [], [], false⟩,
            ⟨some 29, .id, [.t 9], none, [], [], false⟩,
            ⟨some 30, .lenSlice, [.t 29], none, [], [], false⟩,
            ⟨some 31, .bin .sub, [.t 30, .c (.int .i64 1)], none, [], [], false⟩,
            ⟨some 32, .indexAddr 1, [.t 28, .t 31], none, [], [], false⟩,
            ⟨some 33, .load 1 false, [.t 32], none, [], [], false⟩,
            ⟨some 34, .bin .add, [.t 33, .c (.int .u8 128)], none, [], [], false⟩,
            ⟨some 35, .indexAddr 1, [.t 24, .t 27], none, [], [], false⟩,
            ⟨none, .store 1 false, [.t 35, .t 34], none, [], [], false⟩])
          (.seq
            (.seq
              (.ops [
                ⟨some 10, .id, [.c (.int .i64 0)], none, [], [], false⟩])
              (.block 0
                (.loop [4, 5, 6, 7, 8, 11, 12, 13, 14, 15, 16, 17, 18, 19, 20, 21, 22, 23, 24, 25, 26, 27, 28, 29, 30, 31, 32, 33, 34, 35, 36, 37, 38, 39, 40, 41, 42, 43, 44, 45, 46, 47, 48, 49, 50, 51, 52, 53, 54, 55, 56, 57, 58, 59, 60, 61, 62, 63, 64, 65, 66, 67, 68, 69, 70, 71, 72, 73, 74, 75, 76, 77, 78, 79, 80, 81, 82, 83, 84, 85, 86, 87, 88, 89, 90, 91, 92, 93, 94, 95, 96, 97, 98, 99, 100, 101, 102, 103, 104, 105, 106, 107, 108, 109] [1, 2] f_law04_PackForms_L0)))
            (.seq
              (.ops [
                ⟨some 44, .id, [.t 9], none, [], [], false⟩,
                ⟨some 45, .buildSlice 3 false 1 1 [(.int .u8 0)] [(0, 1)], [.c (.int .u8 0)], none, [], [], false⟩,
                ⟨some 46, .append 4 false 1 1, [.t 44, .t 45], none, [], [], false⟩,
                ⟨some 47, .call "haberdash/pack.Read" [5, 6], [.t 46], none, [], [], false⟩,
                ⟨some 11, .id, [.t 47], none, [], [], false⟩])
              (.seq
                (.ops [
                  ⟨some 48, .id, [.t 0], none, [], [], false⟩,
                  ⟨some 49, .call "haberdash/haberdashref04.Num" [7], [.t 48], none, [], [], false⟩,
                  ⟨some 50, .call "haberdash/pack.Read" [8, 9], [.t 49], none, [], [], false⟩,
                  ⟨some 12, .id, [.t 50], none, [], [], false⟩])
                (.seq
                  (.seq
                    (.ops [
                      ⟨some 51, .call "haberdash/haberdashlaw04.awake" [], [], none, [], [], false⟩,
                      ⟨some 52, .un .not, [.t 51], none, [], [], false⟩,
                      ⟨some 53, .id, [.t 52], none, [], [], false⟩,
                      ⟨some 54, .id, [.t 11], (some (53, false)), [], [], false⟩,
                      ⟨some 55, .eqNil false .ptr, [.t 54, .c (.pointer none)], (some (53, false)), [], [], false⟩,
                      ⟨some 56, .pick, [.t 53, .c (.bool true), .t 55], none, [], [], false⟩,
                      ⟨some 57, .id, [.t 56], none, [], [], false⟩,
                      ⟨some 58, .id, [.t 12], (some (57, false)), [], [], false⟩,
                      ⟨some 59, .eqNil false .ptr, [.t 58, .c (.pointer none)], (some (57, false)), [], [], false⟩,
                      ⟨some 60, .pick, [.t 57, .c (.bool true), .t 59], none, [], [], false⟩])
                    (.cond (.t 60)
                      (.seq
                        (.ops [
                          ⟨some 8, .id, [.c (.bool false)], none, [], [], false⟩])
                        .ret)
                      .skip))
                  (.seq
                    (.ops [
                      ⟨some 61, .id, [.t 11], none, [], [], false⟩,
                      ⟨some 62, .call "(*haberdash/pack.Reader).Num" [], [.t 61, .c (.int .i64 0), .c (.int .i64 9223372036854775807)], none, [], [], false⟩,
                      ⟨some 63, .id, [.t 12], none, [], [], false⟩,
                      ⟨some 64, .id, [.t 2], none, [], [], false⟩,
                      ⟨some 65, .id, [.t 3], none, [], [], false⟩,
                      ⟨some 66, .call "(*haberdash/pack.Reader).Num" [], [.t 63, .t 64, .t 65], none, [], [], false⟩,
                      ⟨some 13, .id, [.t 62], none, [], [], false⟩,
                      ⟨some 14, .id, [.t 66], none, [], [], false⟩])
                    (.seq
                      (.ops [
                        ⟨some 67, .id, [.t 0], none, [], [], false⟩,
                        ⟨some 68, .id, [.t 2], none, [], [], false⟩,
                        ⟨some 69, .bin .geq, [.t 67, .t 68], none, [], [], false⟩,
                        ⟨some 70, .id, [.t 69], none, [], [], false⟩,
                        ⟨some 71, .id, [.t 0], (some (70, true)), [], [], false⟩,
                        ⟨some 72, .id, [.t 3], (some (70, true)), [], [], false⟩,
                        ⟨some 73, .bin .leq, [.t 71, .t 72], (some (70, true)), [], [], false⟩,
                        ⟨some 74, .pick, [.t 70, .t 73, .c (.bool false)], none, [], [], false⟩,
                        ⟨some 15, .id, [.t 74], none, [], [], false⟩])
                      (.seq
                        (.ops [
                          ⟨some 75, .id, [.t 13], none, [], [], false⟩,
                          ⟨some 76, .bin .eql, [.t 75, .c (.int .i64 0)], none, [], [], false⟩,
                          ⟨some 77, .id, [.t 76], none, [], [], false⟩,
                          ⟨some 78, .id, [.t 11], (some (77, true)), [], [], false⟩,
                          ⟨some 79, .call "(*haberdash/pack.Reader).Err" [], [.t 78], (some (77, true)), [], [], false⟩,
                          ⟨some 80, .bin .eql, [.t 79, .c (.int .i64 4)], (some (77, true)), [], [], false⟩,
                          ⟨some 81, .pick, [.t 77, .t 80, .c (.bool false)], none, [], [], false⟩,
                          ⟨some 82, .id, [.t 81], none, [], [], false⟩,
                          ⟨some 83, .id, [.t 12], (some (82, true)), [], [], false⟩,
                          ⟨some 84, .call "(*haberdash/pack.Reader).Err" [], [.t 83], (some (82, true)), [], [], false⟩,
                          ⟨some 85, .bin .eql, [.t 84, .c (.int .i64 0)], (some (82, true)), [], [], false⟩,
                          ⟨some 86, .id, [.t 15], (some (82, true)), [], [], false⟩,
                          ⟨some 87, .eqBool false, [.t 85, .t 86], (some (82, true)), [], [], false⟩,
                          ⟨some 88, .pick, [.t 82, .t 87, .c (.bool false)], none, [], [], false⟩,
                          ⟨some 89, .id, [.t 88], none, [], [], false⟩,
                          ⟨some 90, .id, [.t 12], (some (89, true)), [], [], false⟩,
                          ⟨some 91, .call "(*haberdash/pack.Reader).Err" [], [.t 90], (some (89, true)), [], [], false⟩,
                          ⟨some 92, .bin .eql, [.t 91, .c (.int .i64 4)], (some (89, true)), [], [], false⟩,
                          ⟨some 93, .id, [.t 15], (some (89, true)), [], [], false⟩,
                          ⟨some 94, .un .not, [.t 93], (some (89, true)), [], [], false⟩,
                          ⟨some 95, .eqBool false, [.t 92, .t 94], (some (89, true)), [], [], false⟩,
                          ⟨some 96, .pick, [.t 89, .t 95, .c (.bool false)], none, [], [], false⟩,
                          ⟨some 97, .id, [.t 96], none, [], [], false⟩,
                          ⟨some 98, .id, [.t 14], (some (97, true)), [], [], false⟩,
                          ⟨some 99, .id, [.t 0], (some (97, true)), [], [], false⟩,
                          ⟨some 100, .bin .eql, [.t 98, .t 99], (some (97, true)), [], [], false⟩,
                          ⟨some 101, .id, [.t 100], (some (97, true)), [], [], false⟩,
                          ⟨some 102, .id, [.t 15], (some (101, false)), [], [], false⟩,
                          ⟨some 103, .un .not, [.t 102], (some (101, false)), [], [], false⟩,
                          ⟨some 104, .id, [.t 103], (some (101, false)), [], [], false⟩,
                          ⟨some 105, .id, [.t 14], (some (104, true)), [], [], false⟩,
                          ⟨some 106, .bin .eql, [.t 105, .c (.int .i64 0)], (some (104, true)), [], [], false⟩,
                          ⟨some 107, .pick, [.t 104, .t 106, .c (.bool false)], (some (101, false)), [], [], false⟩,
                          ⟨some 108, .pick, [.t 101, .c (.bool true), .t 107], (some (97, true)), [], [], false⟩,
                          ⟨some 109, .pick, [.t 97, .t 108, .c (.bool false)], none, [], [], false⟩,
                          ⟨some 8, .id, [.t 109], none, [], [], false⟩])
                        .ret)))))))))))
def f_law04_PackForms : IFn := ⟨110, 10, [.tmp 8], f_law04_PackForms_B⟩
def f_law04_PackNil_B : ICode :=
  (.seq
    (.ops [
      ⟨some 6, .id, [.c (.bool false)], none, [], [], false⟩])
    (.seq
      (.ops [
        ⟨some 7, .id, [.c (.pointer none)], none, [], [], false⟩])
      (.seq
        (.ops [
          ⟨some 8, .id, [.c (.pointer none)], none, [], [], false⟩])
        (.seq
          (.ops [
            ⟨some 9, .id, [.t 7], none, [], [], false⟩,
            ⟨some 10, .id, [.t 0], none, [], [], false⟩,
            ⟨some 11, .call "(*haberdash/pack.Writer).Num" [], [.t 9, .t 10], none, [], [], false⟩])
          (.seq
            (.ops [
              ⟨some 12, .id, [.t 7], none, [], [], false⟩,
              ⟨some 13, .id, [.t 1], none, [], [], false⟩,
              ⟨some 14, .call "(*haberdash/pack.Writer).Text" [], [.t 12, .t 13], none, [], [], false⟩])
            (.seq
              (.ops [
                ⟨some 15, .id, [.t 7], none, [], [], false⟩,
                ⟨some 16, .id, [.t 2], none, [], [], false⟩,
                ⟨some 17, .call "(*haberdash/pack.Writer).Flag" [], [.t 15, .t 16], none, [], [], false⟩])
              (.seq
                (.ops [
                  ⟨some 18, .call "haberdash/haberdashlaw04.awake" [], [], none, [], [], false⟩,
                  ⟨some 19, .id, [.t 18], none, [], [], false⟩,
                  ⟨some 20, .id, [.t 7], (some (19, true)), [], [], false⟩,
                  ⟨some 21, .call "(*haberdash/pack.Writer).Bytes" [0], [.t 20], (some (19, true)), [], [], false⟩,
                  ⟨some 22, .lenSlice, [.t 21], (some (19, true)), [], [], false⟩,
                  ⟨some 23, .bin .eql, [.t 22, .c (.int .i64 0)], (some (19, true)), [], [], false⟩,
                  ⟨some 24, .pick, [.t 19, .t 23, .c (.bool false)], none, [], [], false⟩,
                  ⟨some 25, .id, [.t 24], none, [], [], false⟩,
                  ⟨some 26, .id, [.t 8], (some (25, true)), [], [], false⟩,
                  ⟨some 27, .id, [.t 0], (some (25, true)), [], [], false⟩,
                  ⟨some 28, .id, [.t 0], (some (25, true)), [], [], false⟩,
                  ⟨some 29, .call "(*haberdash/pack.Reader).Num" [], [.t 26, .t 27, .t 28], (some (25, true)), [], [], false⟩,
                  ⟨some 30, .bin .eql, [.t 29, .c (.int .i64 0)], (some (25, true)), [], [], false⟩,
                  ⟨some 31, .pick, [.t 25, .t 30, .c (.bool false)], none, [], [], false⟩,
                  ⟨some 32, .id, [.t 31], none, [], [], false⟩,
                  ⟨some 33, .id, [.t 8], (some (32, true)), [], [], false⟩,
                  ⟨some 34, .call "(*haberdash/pack.Reader).Text" [], [.t 33, .c (.int .i64 9)], (some (32, true)), [], [], false⟩,
                  ⟨some 35, .bin .eql, [.t 34, .c (.string ⟨#[]⟩)], (some (32, true)), [], [], false⟩,
                  ⟨some 36, .pick, [.t 32, .t 35, .c (.bool false)], none, [], [], false⟩,
                  ⟨some 37, .id, [.t 36], none, [], [], false⟩,
                  ⟨some 38, .id, [.t 8], (some (37, true)), [], [], false⟩,
                  ⟨some 39, .call "(*haberdash/pack.Reader).Flag" [], [.t 38], (some (37, true)), [], [], false⟩,
                  ⟨some 40, .un .not, [.t 39], (some (37, true)), [], [], false⟩,
                  ⟨some 41, .pick, [.t 37, .t 40, .c (.bool false)], none, [], [], false⟩,
                  ⟨some 42, .id, [.t 41], none, [], [], false⟩,
                  ⟨some 43, .id, [.t 8], (some (42, true)), [], [], false⟩,
                  ⟨some 44, .call "(*haberdash/pack.Reader).Err" [], [.t 43], (some (42, true)), [], [], false⟩,
                  ⟨some 45, .bin .eql, [.t 44, .c (.int .i64 1)], (some (42, true)), [], [], false⟩,
                  ⟨some 46, .pick, [.t 42, .t 45, .c (.bool false)], none, [], [], false⟩,
                  ⟨some 47, .id, [.t 46], none, [], [], false⟩,
                  ⟨some 48, .id, [.t 8], (some (47, true)), [], [], false⟩,
                  ⟨some 49, .call "(*haberdash/pack.Reader).End" [], [.t 48], (some (47, true)), [], [], false⟩,
                  ⟨some 50, .bin .eql, [.t 49, .c (.int .i64 1)], (some (47, true)), [], [], false⟩,
                  ⟨some 51, .pick, [.t 47, .t 50, .c (.bool false)], none, [], [], false⟩,
                  ⟨some 6, .id, [.t 51], none, [], [], false⟩])
                .ret)))))))
def f_law04_PackNil : IFn := ⟨52, 1, [.tmp 6], f_law04_PackNil_B⟩
def f_law04_few_L0 : ICode :=
  (.seq
    (.seq
      (.ops [
        ⟨some 4, .id, [.t 3], none, [], [], false⟩,
        ⟨some 5, .id, [.t 0], none, [], [], false⟩,
        ⟨some 6, .lenSlice, [.t 5], none, [], [], false⟩,
        ⟨some 7, .bin .lss, [.t 4, .t 6], none, [], [], false⟩])
      (.cond (.t 7)
        .skip
        (.exit 0)))
    (.seq
      (.block 1
        (.seq
          (.ops [
            ⟨some 10, .id, [.t 0], none, [], [], false⟩,
            ⟨some 11, .id, [.t 3], none, [], [], false⟩,
            ⟨some 12, .indexAddr 6, [.t 10, .t 11], none, [], [], false⟩,
            ⟨some 13, .fieldAddr 4, [.t 12], none, [], [], false⟩,
            ⟨some 14, .load 1 false, [.t 13], none, [], [], false⟩,
            ⟨some 15, .lenStr, [.t 14], none, [], [], false⟩,
            ⟨some 16, .bin .gtr, [.t 15, .c (.int .i64 300)], none, [], [], false⟩])
          (.cond (.t 16)
            (.seq
              (.ops [
                ⟨some 2, .id, [.c (.bool false)], none, [], [], false⟩])
              .ret)
            .skip)))
      (.ops [
        ⟨some 8, .id, [.t 3], none, [], [], false⟩,
        ⟨some 9, .bin .add, [.t 8, .c (.int .i64 1)], none, [], [], false⟩,
        ⟨some 3, .id, [.t 9], none, [], [], false⟩])))
def f_law04_few_H0 (t0 t3 : AV) : List AV := [t0, .dead, .dead, t3, .dead, .dead, .dead, .dead, .dead, .dead, .dead, .dead, .dead, .dead, .dead, .dead, .dead, .dead, .dead, .dead]
def f_law04_few_B : ICode :=
  (.seq
    (.ops [
      ⟨some 2, .id, [.c (.bool false)], none, [], [], false⟩])
    (.seq
      (.seq
        (.ops [
          ⟨some 3, .id, [.c (.int .i64 0)], none, [], [], false⟩])
        (.block 0
          (.loop [1, 2, 4, 5, 6, 7, 8, 9, 10, 11, 12, 13, 14, 15, 16, 17, 18, 19] [] f_law04_few_L0)))
      (.seq
        (.ops [
          ⟨some 17, .id, [.t 0], none, [], [], false⟩,
          ⟨some 18, .lenSlice, [.t 17], none, [], [], false⟩,
          ⟨some 19, .bin .leq, [.t 18, .c (.int .i64 40)], none, [], [], false⟩,
          ⟨some 2, .id, [.t 19], none, [], [], false⟩])
        .ret)))
def f_law04_few : IFn := ⟨20, 0, [.tmp 2], f_law04_few_B⟩
def f_law04_awake_B : ICode :=
  (.seq
    (.ops [
      ⟨some 0, .id, [.c (.bool false)], none, [], [], false⟩])
    (.seq
      (.ops [
        ⟨some 3, .build [(.slice none 0 0)] [], [], none, [], [], false⟩,
        ⟨some 4, .boxK 1 [(0, 0, 1)], [.t 3], none, [], [], false⟩,
        ⟨some 1, .id, [.t 4], none, [], [], false⟩])
      (.seq
        (.ops [
          ⟨some 5, .id, [.t 1], none, [], [], false⟩,
          ⟨some 6, .call "(*haberdash/pack.Writer).Num" [], [.t 5, .c (.int .i64 300)], none, [], [], false⟩])
        (.seq
          (.ops [
            ⟨some 7, .id, [.t 1], none, [], [], false⟩,
            ⟨some 8, .call "(*haberdash/pack.Writer).Text" [], [.t 7, .c (.string ⟨#[97, 98]⟩)], none, [], [], false⟩])
          (.seq
            (.ops [
              ⟨some 9, .buildSlice 2 false 1 2 [(.int .u8 0)] [(0, 1), (1, 1)], [.c (.int .u8 172), .c (.int .u8 2)], none, [], [], false⟩,
              ⟨some 10, .call "haberdash/pack.Read" [3, 4], [.t 9], none, [], [], false⟩,
              ⟨some 2, .id, [.t 10], none, [], [], false⟩])
            (.seq
              (.ops [
                ⟨some 11, .id, [.t 1], none, [], [], false⟩,
                ⟨some 12, .call "(*haberdash/pack.Writer).Bytes" [5], [.t 11], none, [], [], false⟩,
                ⟨some 13, .buildSlice 6 false 1 5 [(.int .u8 0)] [(0, 1), (1, 1), (2, 1), (3, 1), (4, 1)], [.c (.int .u8 172), .c (.int .u8 2), .c (.int .u8 2), .c (.int .u8 97), .c (.int .u8 98)], none, [], [], false⟩,
                ⟨some 14, .call "haberdash/haberdashhelp.Bytes" [], [.t 12, .t 13], none, [], [], false⟩,
                ⟨some 15, .id, [.t 14], none, [], [], false⟩,
                ⟨some 16, .id, [.t 2], (some (15, true)), [], [], false⟩,
                ⟨some 17, .call "(*haberdash/pack.Reader).Num" [], [.t 16, .c (.int .i64 0), .c (.int .i64 300)], (some (15, true)), [], [], false⟩,
                ⟨some 18, .bin .eql, [.t 17, .c (.int .i64 300)], (some (15, true)), [], [], false⟩,
                ⟨some 19, .pick, [.t 15, .t 18, .c (.bool false)], none, [], [], false⟩,
                ⟨some 20, .id, [.t 19], none, [], [], false⟩,
                ⟨some 21, .id, [.t 2], (some (20, true)), [], [], false⟩,
                ⟨some 22, .call "(*haberdash/pack.Reader).End" [], [.t 21], (some (20, true)), [], [], false⟩,
                ⟨some 23, .bin .eql, [.t 22, .c (.int .i64 0)], (some (20, true)), [], [], false⟩,
                ⟨some 24, .pick, [.t 20, .t 23, .c (.bool false)], none, [], [], false⟩,
                ⟨some 0, .id, [.t 24], none, [], [], false⟩])
              .ret))))))
def f_law04_awake : IFn := ⟨25, 7, [.tmp 0], f_law04_awake_B⟩
def f__law04_Step__kind_B : ICode :=
  (.seq
    (.ops [
      ⟨some 1, .box 0, [.t 0], none, [], [], false⟩,
      ⟨some 2, .id, [.c (.int .i64 0)], none, [], [], false⟩])
    (.seq
      (.ops [
        ⟨some 3, .fieldAddr 0, [.t 1], none, [], [], false⟩,
        ⟨some 4, .load 1 false, [.t 3], none, [], [], false⟩,
        ⟨some 5, .convInt .u64, [.t 4], none, [], [], false⟩,
        ⟨some 6, .bin .rem, [.t 5, .c (.int .u64 3)], none, [], [], false⟩,
        ⟨some 7, .convInt .i64, [.t 6], none, [], [], false⟩,
        ⟨some 2, .id, [.t 7], none, [], [], false⟩])
      .ret))
def f__law04_Step__kind : IFn := ⟨8, 1, [.tmp 2], f__law04_Step__kind_B⟩
def f___pack_Writer__Num_L0 : ICode :=
  (.seq
    (.seq
      (.ops [
        ⟨some 8, .id, [.t 1], none, [], [], false⟩,
        ⟨some 9, .bin .geq, [.t 8, .c (.int .i64 128)], none, [], [], false⟩])
      (.cond (.t 9)
        .skip
        (.exit 0)))
    (.seq
      (.block 1
        (.ops [
          ⟨some 12, .id, [.t 0], none, [], [], false⟩,
          ⟨some 13, .id, [.t 0], none, [], [], false⟩,
          ⟨some 14, .nilCheck, [.t 13], none, [], [], false⟩,
          ⟨some 15, .fieldAddr 0, [.t 14], none, [], [], false⟩,
          ⟨some 16, .load 1 false, [.t 15], none, [], [], false⟩,
          ⟨some 17, .id, [.t 1], none, [], [], false⟩,
          ⟨some 18, .bin .and, [.t 17, .c (.int .i64 127)], none, [], [], false⟩,
          ⟨some 19, .convInt .u8, [.t 18], none, [], [], false⟩,
          ⟨some 20, .bin .or, [.t 19, .c (.int .u8 128)], none, [], [], false⟩,
          ⟨some 21, .buildSlice 0 false 1 1 [(.int .u8 0)] [(0, 1)], [.t 20], none, [], [], false⟩,
          ⟨some 22, .append 1 false 1 1, [.t 16, .t 21], none, [], [], false⟩,
          ⟨some 23, .nilCheck, [.t 12], none, [], [], false⟩,
          ⟨some 24, .fieldAddr 0, [.t 23], none, [], [], false⟩,
          ⟨none, .store 1 false, [.t 24, .t 22], none, [], [], false⟩]))
      (.ops [
        ⟨some 10, .id, [.t 1], none, [], [], false⟩,
        ⟨some 11, .bin .shr, [.t 10, .c (.int .u64 7)], none, [], [], false⟩,
        ⟨some 1, .id, [.t 11], none, [], [], false⟩])))
def f___pack_Writer__Num_B : ICode :=
  (.seq
    (.seq
      (.ops [
        ⟨some 4, .id, [.t 0], none, [], [], false⟩,
        ⟨some 5, .eqNil false .ptr, [.t 4, .c (.pointer none)], none, [], [], false⟩])
      (.cond (.t 5)
        .ret
        .skip))
    (.seq
      (.ops [
        ⟨some 6, .id, [.t 1], none, [], [], false⟩,
        ⟨some 7, .max, [.t 6, .c (.int .i64 0)], none, [], [], false⟩,
        ⟨some 1, .id, [.t 7], none, [], [], false⟩])
      (.seq
        (.block 0
          (.loop [2, 3, 4, 5, 6, 7, 8, 9, 10, 11, 12, 13, 14, 15, 16, 17, 18, 19, 20, 21, 22, 23, 24, 25, 26, 27, 28, 29, 30, 31, 32, 33, 34, 35] [0, 1] f___pack_Writer__Num_L0))
        (.ops [
          ⟨some 25, .id, [.t 0], none, [], [], false⟩,
          ⟨some 26, .id, [.t 0], none, [], [], false⟩,
          ⟨some 27, .nilCheck, [.t 26], none, [], [], false⟩,
          ⟨some 28, .fieldAddr 0, [.t 27], none, [], [], false⟩,
          ⟨some 29, .load 1 false, [.t 28], none, [], [], false⟩,
          ⟨some 30, .id, [.t 1], none, [], [], false⟩,
          ⟨some 31, .convInt .u8, [.t 30], none, [], [], false⟩,
          ⟨some 32, .buildSlice 2 false 1 1 [(.int .u8 0)] [(0, 1)], [.t 31], none, [], [], false⟩,
          ⟨some 33, .append 3 false 1 1, [.t 29, .t 32], none, [], [], false⟩,
          ⟨some 34, .nilCheck, [.t 25], none, [], [], false⟩,
          ⟨some 35, .fieldAddr 0, [.t 34], none, [], [], false⟩,
          ⟨none, .store 1 false, [.t 35, .t 33], none, [], [], false⟩]))))
def f___pack_Writer__Num : IFn := ⟨36, 4, [], f___pack_Writer__Num_B⟩
def f___pack_Writer__Text_B : ICode :=
  (.seq
    (.seq
      (.ops [
        ⟨some 4, .id, [.t 0], none, [], [], false⟩,
        ⟨some 5, .eqNil false .ptr, [.t 4, .c (.pointer none)], none, [], [], false⟩])
      (.cond (.t 5)
        .ret
        .skip))
    (.seq
      (.ops [
        ⟨some 6, .id, [.t 0], none, [], [], false⟩,
        ⟨some 7, .id, [.t 1], none, [], [], false⟩,
        ⟨some 8, .lenStr, [.t 7], none, [], [], false⟩,
        ⟨some 9, .call "(*haberdash/pack.Writer).Num" [], [.t 6, .t 8], none, [], [], false⟩])
      (.ops [
        ⟨some 10, .id, [.t 0], none, [], [], false⟩,
        ⟨some 11, .id, [.t 0], none, [], [], false⟩,
        ⟨some 12, .nilCheck, [.t 11], none, [], [], false⟩,
        ⟨some 13, .fieldAddr 0, [.t 12], none, [], [], false⟩,
        ⟨some 14, .load 1 false, [.t 13], none, [], [], false⟩,
        ⟨some 15, .id, [.t 1], none, [], [], false⟩,
        ⟨some 16, .append 0 false 1 1, [.t 14, .t 15], none, [], [], false⟩,
        ⟨some 17, .nilCheck, [.t 10], none, [], [], false⟩,
        ⟨some 18, .fieldAddr 0, [.t 17], none, [], [], false⟩,
        ⟨none, .store 1 false, [.t 18, .t 16], none, [], [], false⟩])))
def f___pack_Writer__Text : IFn := ⟨19, 1, [], f___pack_Writer__Text_B⟩
def f___pack_Writer__Flag_B : ICode :=
  (.seq
    (.ops [
      ⟨some 4, .id, [.t 1], none, [], [], false⟩])
    (.cond (.t 4)
      (.ops [
        ⟨some 5, .id, [.t 0], none, [], [], false⟩,
        ⟨some 6, .call "(*haberdash/pack.Writer).Num" [], [.t 5, .c (.int .i64 1)], none, [], [], false⟩])
      (.ops [
        ⟨some 7, .id, [.t 0], none, [], [], false⟩,
        ⟨some 8, .call "(*haberdash/pack.Writer).Num" [], [.t 7, .c (.int .i64 0)], none, [], [], false⟩])))
def f___pack_Writer__Flag : IFn := ⟨9, 0, [], f___pack_Writer__Flag_B⟩
def f___pack_Writer__Bytes_B : ICode :=
  (.seq
    (.ops [
      ⟨some 2, .id, [.c (.slice none 0 0)], none, [], [], false⟩])
    (.seq
      (.seq
        (.ops [
          ⟨some 3, .id, [.t 0], none, [], [], false⟩,
          ⟨some 4, .eqNil false .ptr, [.t 3, .c (.pointer none)], none, [], [], false⟩])
        (.cond (.t 4)
          (.seq
            (.ops [
              ⟨some 2, .id, [.c (.slice none 0 0)], none, [], [], false⟩])
            .ret)
          .skip))
      (.seq
        (.ops [
          ⟨some 5, .id, [.t 0], none, [], [], false⟩,
          ⟨some 6, .nilCheck, [.t 5], none, [], [], false⟩,
          ⟨some 7, .fieldAddr 0, [.t 6], none, [], [], false⟩,
          ⟨some 8, .load 1 false, [.t 7], none, [], [], false⟩,
          ⟨some 9, .call "slices.Clone[[]byte,byte]" [0], [.t 8], none, [], [], false⟩,
          ⟨some 2, .id, [.t 9], none, [], [], false⟩])
        .ret)))
def f___pack_Writer__Bytes : IFn := ⟨10, 1, [.tmp 2], f___pack_Writer__Bytes_B⟩
def f_help_Spoil_byte__L0 : ICode :=
  (.seq
    (.seq
      (.ops [
        ⟨some 4, .id, [.t 3], none, [], [], false⟩,
        ⟨some 5, .id, [.t 0], none, [], [], false⟩,
        ⟨some 6, .lenSlice, [.t 5], none, [], [], false⟩,
        ⟨some 7, .bin .lss, [.t 4, .t 6], none, [], [], false⟩])
      (.cond (.t 7)
        .skip
        (.exit 0)))
    (.seq
      (.block 1
        (.ops [
          ⟨some 10, .id, [.t 0], none, [], [], false⟩,
          ⟨some 11, .id, [.t 3], none, [], [], false⟩,
          ⟨some 12, .id, [.t 2], none, [], [], false⟩,
          ⟨some 13, .indexAddr 1, [.t 10, .t 11], none, [], [], false⟩,
          ⟨none, .store 1 false, [.t 13, .t 12], none, [], [], false⟩]))
      (.ops [
        ⟨some 8, .id, [.t 3], none, [], [], false⟩,
        ⟨some 9, .bin .add, [.t 8, .c (.int .i64 1)], none, [], [], false⟩,
        ⟨some 3, .id, [.t 9], none, [], [], false⟩])))
def f_help_Spoil_byte__B : ICode :=
  (.seq
    (.ops [
      ⟨some 2, .id, [.c (.int .u8 0)], none, [], [], false⟩])
    (.seq
      (.ops [
        ⟨some 3, .id, [.c (.int .i64 0)], none, [], [], false⟩])
      (.block 0
        (.loop [1, 4, 5, 6, 7, 8, 9, 10, 11, 12, 13] [] f_help_Spoil_byte__L0))))
def f_help_Spoil_byte_ : IFn := ⟨14, 0, [], f_help_Spoil_byte__B⟩
def f_law04_write_L0 : ICode :=
  (.seq
    (.seq
      (.ops [
        ⟨some 5, .id, [.t 4], none, [], [], false⟩,
        ⟨some 6, .id, [.t 0], none, [], [], false⟩,
        ⟨some 7, .lenSlice, [.t 6], none, [], [], false⟩,
        ⟨some 8, .bin .lss, [.t 5, .t 7], none, [], [], false⟩])
      (.cond (.t 8)
        .skip
        (.exit 0)))
    (.seq
      (.block 1
        (.seq
          (.ops [
            ⟨some 11, .id, [.t 0], none, [], [], false⟩,
            ⟨some 12, .id, [.t 4], none, [], [], false⟩,
            ⟨some 13, .indexAddr 6, [.t 11, .t 12], none, [], [], false⟩,
            ⟨some 14, .load 6 true, [.t 13], none, [], [], false⟩,
            ⟨some 15, .call "(haberdash/haberdashlaw04.Step).kind" [], [.t 14], none, [], [], false⟩])
          (.block 2
            (.seq
              (.ops [
                ⟨some 25, .bin .eql, [.t 15, .c (.int .i64 0)], none, [], [], false⟩,
                ⟨some 24, .id, [.t 25], none, [], [], false⟩])
              (.cond (.t 24)
                (.ops [
                  ⟨some 26, .id, [.t 3], none, [], [], false⟩,
                  ⟨some 27, .id, [.t 0], none, [], [], false⟩,
                  ⟨some 28, .id, [.t 4], none, [], [], false⟩,
                  ⟨some 29, .indexAddr 6, [.t 27, .t 28], none, [], [], false⟩,
                  ⟨some 30, .fieldAddr 3, [.t 29], none, [], [], false⟩,
                  ⟨some 31, .load 1 false, [.t 30], none, [], [], false⟩,
                  ⟨some 32, .call "haberdash/haberdashref04.Num" [1], [.t 31], none, [], [], false⟩,
                  ⟨some 33, .append 2 false 1 1, [.t 26, .t 32], none, [], [], false⟩,
                  ⟨some 3, .id, [.t 33], none, [], [], false⟩])
                (.seq
                  (.ops [
                    ⟨some 35, .bin .eql, [.t 15, .c (.int .i64 1)], none, [], [], false⟩,
                    ⟨some 34, .id, [.t 35], none, [], [], false⟩])
                  (.cond (.t 34)
                    (.ops [
                      ⟨some 36, .id, [.t 3], none, [], [], false⟩,
                      ⟨some 37, .id, [.t 0], none, [], [], false⟩,
                      ⟨some 38, .id, [.t 4], none, [], [], false⟩,
                      ⟨some 39, .indexAddr 6, [.t 37, .t 38], none, [], [], false⟩,
                      ⟨some 40, .fieldAddr 4, [.t 39], none, [], [], false⟩,
                      ⟨some 41, .load 1 false, [.t 40], none, [], [], false⟩,
                      ⟨some 42, .call "haberdash/haberdashref04.Text" [3], [.t 41], none, [], [], false⟩,
                      ⟨some 43, .append 4 false 1 1, [.t 36, .t 42], none, [], [], false⟩,
                      ⟨some 3, .id, [.t 43], none, [], [], false⟩])
                    (.ops [
                      ⟨some 16, .id, [.t 3], none, [], [], false⟩,
                      ⟨some 17, .id, [.t 0], none, [], [], false⟩,
                      ⟨some 18, .id, [.t 4], none, [], [], false⟩,
                      ⟨some 19, .indexAddr 6, [.t 17, .t 18], none, [], [], false⟩,
                      ⟨some 20, .fieldAddr 5, [.t 19], none, [], [], false⟩,
                      ⟨some 21, .load 1 false, [.t 20], none, [], [], false⟩,
                      ⟨some 22, .call "haberdash/haberdashref04.Flag" [5], [.t 21], none, [], [], false⟩,
                      ⟨some 23, .append 6 false 1 1, [.t 16, .t 22], none, [], [], false⟩,
                      ⟨some 3, .id, [.t 23], none, [], [], false⟩]))))))))
      (.ops [
        ⟨some 9, .id, [.t 4], none, [], [], false⟩,
        ⟨some 10, .bin .add, [.t 9, .c (.int .i64 1)], none, [], [], false⟩,
        ⟨some 4, .id, [.t 10], none, [], [], false⟩])))
def f_law04_write_H0 (t0 t3 t4 : AV) : List AV := [t0, .dead, .dead, t3, t4, .dead, .dead, .dead, .dead, .dead, .dead, .dead, .dead, .dead, .dead, .dead, .dead, .dead, .dead, .dead, .dead, .dead, .dead, .dead, .dead, .dead, .dead, .dead, .dead, .dead, .dead, .dead, .dead, .dead, .dead, .dead, .dead, .dead, .dead, .dead, .dead, .dead, .dead, .dead, .dead]
def f_law04_write_B : ICode :=
  (.seq
    (.ops [
      ⟨some 2, .id, [.c (.slice none 0 0)], none, [], [], false⟩])
    (.seq
      (.ops [
        ⟨some 3, .nilv 0 1, [.c (.slice none 0 0)], none, [], [], false⟩])
      (.seq
        (.seq
          (.ops [
            ⟨some 4, .id, [.c (.int .i64 0)], none, [], [], false⟩])
          (.block 0
            (.loop [1, 2, 5, 6, 7, 8, 9, 10, 11, 12, 13, 14, 15, 16, 17, 18, 19, 20, 21, 22, 23, 24, 25, 26, 27, 28, 29, 30, 31, 32, 33, 34, 35, 36, 37, 38, 39, 40, 41, 42, 43, 44] [1, 2, 3, 4, 5, 6] f_law04_write_L0)))
        (.seq
          (.ops [
            ⟨some 44, .id, [.t 3], none, [], [], false⟩,
            ⟨some 2, .id, [.t 44], none, [], [], false⟩])
          .ret))))
def f_law04_write : IFn := ⟨45, 7, [.tmp 2], f_law04_write_B⟩
def f_pack_Read_B : ICode :=
  (.seq
    (.ops [
      ⟨some 2, .id, [.c (.pointer none)], none, [], [], false⟩])
    (.seq
      (.ops [
        ⟨some 3, .id, [.t 0], none, [], [], false⟩,
        ⟨some 4, .call "slices.Clone[[]byte,byte]" [0], [.t 3], none, [], [], false⟩,
        ⟨some 5, .build [(.slice none 0 0), (.int .i64 0)] [(0, 1)], [.t 4], none, [], [], false⟩,
        ⟨some 6, .box 1, [.t 5], none, [], [], false⟩,
        ⟨some 2, .id, [.t 6], none, [], [], false⟩])
      .ret))
def f_pack_Read : IFn := ⟨7, 2, [.tmp 2], f_pack_Read_B⟩
def f___pack_Reader__Num_L0 : ICode :=
  (.seq
    (.ops [
      ⟨some 49, .bin .lss, [.t 48, .t 47], none, [], [], false⟩])
    (.seq
      (.cond (.t 49)
        .skip
        (.exit 1))
      (.seq
        (.block 2
          (.seq
            (.ops [
              ⟨some 50, .id, [.t 48], none, [], [], false⟩,
              ⟨some 51, .indexAddr 1, [.t 46, .t 48], none, [], [], false⟩,
              ⟨some 52, .load 1 false, [.t 51], none, [], [], false⟩,
              ⟨some 9, .id, [.t 50], none, [], [], false⟩,
              ⟨some 10, .id, [.t 52], none, [], [], false⟩])
            (.ops [
              ⟨some 53, .id, [.t 8], none, [], [], false⟩,
              ⟨some 54, .id, [.t 10], none, [], [], false⟩,
              ⟨some 55, .bin .and, [.t 54, .c (.int .u8 127)], none, [], [], false⟩,
              ⟨some 56, .convInt .i64, [.t 55], none, [], [], false⟩,
              ⟨some 57, .id, [.t 9], none, [], [], false⟩,
              ⟨some 58, .bin .mul, [.c (.int .i64 7), .t 57], none, [], [], false⟩,
              ⟨some 59, .bin .shl, [.t 56, .t 58], none, [], [], false⟩,
              ⟨some 60, .bin .or, [.t 53, .t 59], none, [], [], false⟩,
              ⟨some 8, .id, [.t 60], none, [], [], false⟩])))
        (.ops [
          ⟨some 61, .bin .add, [.t 48, .c (.int .i64 1)], none, [], [], false⟩,
          ⟨some 48, .id, [.t 61], none, [], [], false⟩]))))
def f___pack_Reader__Num_H0 (t0 t1 t2 t7 t8 t46 t47 t48 : AV) : List AV := [t0, t1, t2, .dead, .dead, .dead, .dead, t7, t8, .dead, .dead, .dead, .dead, .dead, .dead, .dead, .dead, .dead, .dead, .dead, .dead, .dead, .dead, .dead, .dead, .dead, .dead, .dead, .dead, .dead, .dead, .dead, .dead, .dead, .dead, .dead, .dead, .dead, .dead, .dead, .dead, .dead, .dead, .dead, .dead, .dead, t46, t47, t48, .dead, .dead, .dead, .dead, .dead, .dead, .dead, .dead, .dead, .dead, .dead, .dead, .dead, .dead, .dead, .dead, .dead, .dead, .dead, .dead, .dead, .dead, .dead, .dead, .dead, .dead, .dead, .dead, .dead, .dead, .dead, .dead, .dead]
def f___pack_Reader__Num_B : ICode :=
  (.seq
    (.ops [
      ⟨some 6, .id, [.c (.int .i64 0)], none, [], [], false⟩])
    (.seq
      (.seq
        (.ops [
          ⟨some 11, .id, [.t 0], none, [], [], false⟩,
          ⟨some 12, .call "(*haberdash/pack.Reader).Err" [], [.t 11], none, [], [], false⟩,
          ⟨some 13, .bin .neq, [.t 12, .c (.int .i64 0)], none, [], [], false⟩])
        (.cond (.t 13)
          (.seq
            (.ops [
              ⟨some 6, .id, [.c (.int .i64 0)], none, [], [], false⟩])
            .ret)
          .skip))
      (.seq
        (.ops [
          ⟨some 14, .id, [.t 0], none, [], [], false⟩,
          ⟨some 15, .call "(*haberdash/pack.Reader).length" [], [.t 14], none, [], [], false⟩,
          ⟨some 7, .id, [.t 15], none, [], [], false⟩])
        (.seq
          (.block 0
            (.seq
              (.ops [
                ⟨some 17, .id, [.t 7], none, [], [], false⟩,
                ⟨some 18, .bin .lss, [.t 17, .c (.int .i64 0)], none, [], [], false⟩,
                ⟨some 16, .id, [.t 18], none, [], [], false⟩])
              (.cond (.t 16)
                (.seq
                  (.ops [
                    ⟨some 19, .id, [.t 0], none, [], [], false⟩,
                    ⟨some 20, .call "(*haberdash/pack.Reader).fail" [], [.t 19, .c (.int .i64 3)], none, [], [], false⟩,
                    ⟨some 6, .id, [.t 20], none, [], [], false⟩])
                  .ret)
                (.seq
                  (.ops [
                    ⟨some 22, .id, [.t 7], none, [], [], false⟩,
                    ⟨some 23, .bin .eql, [.t 22, .c (.int .i64 0)], none, [], [], false⟩,
                    ⟨some 24, .id, [.t 23], none, [], [], false⟩,
                    ⟨some 25, .id, [.t 7], (some (24, false)), [], [], false⟩,
                    ⟨some 26, .bin .gtr, [.t 25, .c (.int .i64 1)], (some (24, false)), [], [], false⟩,
                    ⟨some 27, .id, [.t 26], (some (24, false)), [], [], false⟩,
                    ⟨some 28, .id, [.t 0], (some (27, true)), [], [], false⟩,
                    ⟨some 29, .nilCheck, [.t 28], (some (27, true)), [], [], false⟩,
                    ⟨some 30, .fieldAddr 0, [.t 29], (some (27, true)), [], [], false⟩,
                    ⟨some 31, .load 1 false, [.t 30], (some (27, true)), [], [], false⟩,
                    ⟨some 32, .id, [.t 7], (some (27, true)), [], [], false⟩,
                    ⟨some 33, .bin .sub, [.t 32, .c (.int .i64 1)], (some (27, true)), [], [], false⟩,
                    ⟨some 34, .indexAddr 1, [.t 31, .t 33], (some (27, true)), [], [], false⟩,
                    ⟨some 35, .load 1 false, [.t 34], (some (27, true)), [], [], false⟩,
                    ⟨some 36, .bin .eql, [.t 35, .c (.int .u8 0)], (some (27, true)), [], [], false⟩,
                    ⟨some 37, .pick, [.t 27, .t 36, .c (.bool false)], (some (24, false)), [], [], false⟩,
                    ⟨some 38, .pick, [.t 24, .c (.bool true), .t 37], none, [], [], false⟩,
                    ⟨some 21, .id, [.t 38], none, [], [], false⟩])
                  (.cond (.t 21)
                    (.seq
                      (.ops [
                        ⟨some 39, .id, [.t 0], none, [], [], false⟩,
                        ⟨some 40, .call "(*haberdash/pack.Reader).fail" [], [.t 39, .c (.int .i64 4)], none, [], [], false⟩,
                        ⟨some 6, .id, [.t 40], none, [], [], false⟩])
                      .ret)
                    .skip)))))
          (.seq
            (.ops [
              ⟨some 8, .id, [.c (.int .i64 0)], none, [], [], false⟩])
            (.seq
              (.seq
                (.ops [
                  ⟨some 41, .id, [.t 0], none, [], [], false⟩,
                  ⟨some 42, .nilCheck, [.t 41], none, [], [], false⟩,
                  ⟨some 43, .fieldAddr 0, [.t 42], none, [], [], false⟩,
                  ⟨some 44, .load 1 false, [.t 43], none, [], [], false⟩,
                  ⟨some 45, .id, [.t 7], none, [], [], false⟩,
                  ⟨some 46, .slice 1 false true false, [.t 44, .t 45], none, [], [], false⟩,
                  ⟨some 47, .lenSlice, [.t 46], none, [], [], false⟩,
                  ⟨some 48, .id, [.c (.int .i64 0)], none, [], [], false⟩])
                (.block 1
                  (.loop [3, 4, 5, 6, 9, 10, 11, 12, 13, 14, 15, 16, 17, 18, 19, 20, 21, 22, 23, 24, 25, 26, 27, 28, 29, 30, 31, 32, 33, 34, 35, 36, 37, 38, 39, 40, 41, 42, 43, 44, 45, 49, 50, 51, 52, 53, 54, 55, 56, 57, 58, 59, 60, 61, 62, 63, 64, 65, 66, 67, 68, 69, 70, 71, 72, 73, 74, 75, 76, 77, 78, 79, 80, 81] [] f___pack_Reader__Num_L0)))
              (.seq
                (.seq
                  (.ops [
                    ⟨some 62, .id, [.t 8], none, [], [], false⟩,
                    ⟨some 63, .id, [.t 1], none, [], [], false⟩,
                    ⟨some 64, .bin .lss, [.t 62, .t 63], none, [], [], false⟩,
                    ⟨some 65, .id, [.t 64], none, [], [], false⟩,
                    ⟨some 66, .id, [.t 8], (some (65, false)), [], [], false⟩,
                    ⟨some 67, .id, [.t 2], (some (65, false)), [], [], false⟩,
                    ⟨some 68, .bin .gtr, [.t 66, .t 67], (some (65, false)), [], [], false⟩,
                    ⟨some 69, .pick, [.t 65, .c (.bool true), .t 68], none, [], [], false⟩])
                  (.cond (.t 69)
                    (.seq
                      (.ops [
                        ⟨some 70, .id, [.t 0], none, [], [], false⟩,
                        ⟨some 71, .call "(*haberdash/pack.Reader).fail" [], [.t 70, .c (.int .i64 4)], none, [], [], false⟩,
                        ⟨some 6, .id, [.t 71], none, [], [], false⟩])
                      .ret)
                    .skip))
                (.seq
                  (.ops [
                    ⟨some 72, .id, [.t 0], none, [], [], false⟩,
                    ⟨some 73, .id, [.t 0], none, [], [], false⟩,
                    ⟨some 74, .nilCheck, [.t 73], none, [], [], false⟩,
                    ⟨some 75, .fieldAddr 0, [.t 74], none, [], [], false⟩,
                    ⟨some 76, .load 1 false, [.t 75], none, [], [], false⟩,
                    ⟨some 77, .id, [.t 7], none, [], [], false⟩,
                    ⟨some 78, .slice 1 true false false, [.t 76, .t 77], none, [], [], false⟩,
                    ⟨some 79, .nilCheck, [.t 72], none, [], [], false⟩,
                    ⟨some 80, .fieldAddr 0, [.t 79], none, [], [], false⟩,
                    ⟨none, .store 1 false, [.t 80, .t 78], none, [], [], false⟩])
                  (.seq
                    (.ops [
                      ⟨some 81, .id, [.t 8], none, [], [], false⟩,
                      ⟨some 6, .id, [.t 81], none, [], [], false⟩])
                    .ret)))))))))
def f___pack_Reader__Num : IFn := ⟨82, 0, [.tmp 6], f___pack_Reader__Num_B⟩
def f___pack_Reader__Text_B : ICode :=
  (.seq
    (.ops [
      ⟨some 4, .id, [.c (.string ⟨#[]⟩)], none, [], [], false⟩])
    (.seq
      (.ops [
        ⟨some 5, .id, [.t 0], none, [], [], false⟩,
        ⟨some 6, .id, [.t 1], none, [], [], false⟩,
        ⟨some 7, .id, [.t 0], none, [], [], false⟩,
        ⟨some 8, .makeFunc "(*haberdash/pack.Reader).Num" 1, [.t 7], none, [], [], false⟩,
        ⟨some 9, .call "(*haberdash/pack.Reader).text" [], [.t 5, .t 6, .t 8], none, [], [], false⟩,
        ⟨some 4, .id, [.t 9], none, [], [], false⟩])
      .ret))
def f___pack_Reader__Text : IFn := ⟨10, 0, [.tmp 4], f___pack_Reader__Text_B⟩
def f___pack_Reader__Flag_B : ICode :=
  (.seq
    (.ops [
      ⟨some 2, .id, [.c (.bool false)], none, [], [], false⟩])
    (.seq
      (.ops [
        ⟨some 3, .id, [.t 0], none, [], [], false⟩,
        ⟨some 4, .call "(*haberdash/pack.Reader).Num" [], [.t 3, .c (.int .i64 0), .c (.int .i64 1)], none, [], [], false⟩,
        ⟨some 5, .bin .eql, [.t 4, .c (.int .i64 1)], none, [], [], false⟩,
        ⟨some 2, .id, [.t 5], none, [], [], false⟩])
      .ret))
def f___pack_Reader__Flag : IFn := ⟨6, 0, [.tmp 2], f___pack_Reader__Flag_B⟩
def f___pack_Reader__Err_B : ICode :=
  (.seq
    (.ops [
      ⟨some 2, .id, [.c (.int .i64 0)], none, [], [], false⟩])
    (.seq
      (.seq
        (.ops [
          ⟨some 3, .id, [.t 0], none, [], [], false⟩,
          ⟨some 4, .eqNil false .ptr, [.t 3, .c (.pointer none)], none, [], [], false⟩])
        (.cond (.t 4)
          (.seq
            (.ops [
              ⟨some 2, .id, [.c (.int .i64 1)], none, [], [], false⟩])
            .ret)
          .skip))
      (.seq
        (.ops [
          ⟨some 5, .id, [.t 0], none, [], [], false⟩,
          ⟨some 6, .nilCheck, [.t 5], none, [], [], false⟩,
          ⟨some 7, .fieldAddr 1, [.t 6], none, [], [], false⟩,
          ⟨some 8, .load 1 false, [.t 7], none, [], [], false⟩,
          ⟨some 2, .id, [.t 8], none, [], [], false⟩])
        .ret)))
def f___pack_Reader__Err : IFn := ⟨9, 0, [.tmp 2], f___pack_Reader__Err_B⟩
def f___pack_Reader__End_B : ICode :=
  (.seq
    (.ops [
      ⟨some 2, .id, [.c (.int .i64 0)], none, [], [], false⟩])
    (.seq
      (.seq
        (.ops [
          ⟨some 4, .id, [.t 0], none, [], [], false⟩,
          ⟨some 5, .call "(*haberdash/pack.Reader).Err" [], [.t 4], none, [], [], false⟩,
          ⟨some 3, .id, [.t 5], none, [], [], false⟩])
        (.seq
          (.ops [
            ⟨some 6, .id, [.t 3], none, [], [], false⟩,
            ⟨some 7, .bin .neq, [.t 6, .c (.int .i64 0)], none, [], [], false⟩])
          (.cond (.t 7)
            (.seq
              (.ops [
                ⟨some 8, .id, [.t 3], none, [], [], false⟩,
                ⟨some 2, .id, [.t 8], none, [], [], false⟩])
              .ret)
            .skip)))
      (.seq
        (.seq
          (.ops [
            ⟨some 9, .id, [.t 0], none, [], [], false⟩,
            ⟨some 10, .nilCheck, [.t 9], none, [], [], false⟩,
            ⟨some 11, .fieldAddr 0, [.t 10], none, [], [], false⟩,
            ⟨some 12, .load 1 false, [.t 11], none, [], [], false⟩,
            ⟨some 13, .lenSlice, [.t 12], none, [], [], false⟩,
            ⟨some 14, .bin .gtr, [.t 13, .c (.int .i64 0)], none, [], [], false⟩])
          (.cond (.t 14)
            (.seq
              (.ops [
                ⟨some 2, .id, [.c (.int .i64 4)], none, [], [], false⟩])
              .ret)
            .skip))
        (.seq
          (.ops [
            ⟨some 2, .id, [.c (.int .i64 0)], none, [], [], false⟩])
          .ret))))
def f___pack_Reader__End : IFn := ⟨15, 0, [.tmp 2], f___pack_Reader__End_B⟩
def f_ref04_Num_L0 : ICode :=
  (.seq
    (.seq
      (.ops [
        ⟨some 6, .id, [.t 0], none, [], [], false⟩,
        ⟨some 7, .bin .geq, [.t 6, .c (.int .i64 128)], none, [], [], false⟩])
      (.cond (.t 7)
        .skip
        (.exit 0)))
    (.block 1
      (.seq
        (.ops [
          ⟨some 8, .id, [.t 3], none, [], [], false⟩,
          ⟨some 9, .id, [.t 0], none, [], [], false⟩,
          ⟨some 10, .bin .rem, [.t 9, .c (.int .i64 128)], none, [], [], false⟩,
          ⟨some 11, .convInt .u8, [.t 10], none, [], [], false⟩,
          ⟨some 12, .bin .add, [.t 11, .c (.int .u8 128)], none, [], [], false⟩,
          ⟨some 13, .buildSlice 1 false 1 1 [(.int .u8 0)] [(0, 1)], [.t 12], none, [], [], false⟩,
          ⟨some 14, .append 2 false 1 1, [.t 8, .t 13], none, [], [], false⟩,
          ⟨some 3, .id, [.t 14], none, [], [], false⟩])
        (.ops [
          ⟨some 15, .id, [.t 0], none, [], [], false⟩,
          ⟨some 16, .bin .quo, [.t 15, .c (.int .i64 128)], none, [], [], false⟩,
          ⟨some 0, .id, [.t 16], none, [], [], false⟩]))))
def f_ref04_Num_H0 (t0 t3 : AV) : List AV := [t0, .dead, .dead, t3, .dead, .dead, .dead, .dead, .dead, .dead, .dead, .dead, .dead, .dead, .dead, .dead, .dead, .dead, .dead, .dead, .dead, .dead]
def f_ref04_Num_B : ICode :=
  (.seq
    (.ops [
      ⟨some 2, .id, [.c (.slice none 0 0)], none, [], [], false⟩])
    (.seq
      (.ops [
        ⟨some 4, .id, [.t 0], none, [], [], false⟩,
        ⟨some 5, .max, [.t 4, .c (.int .i64 0)], none, [], [], false⟩,
        ⟨some 0, .id, [.t 5], none, [], [], false⟩])
      (.seq
        (.ops [
          ⟨some 3, .nilv 0 1, [.c (.slice none 0 0)], none, [], [], false⟩])
        (.seq
          (.block 0
            (.loop [1, 2, 4, 5, 6, 7, 8, 9, 10, 11, 12, 13, 14, 15, 16, 17, 18, 19, 20, 21] [1, 2] f_ref04_Num_L0))
          (.seq
            (.ops [
              ⟨some 17, .id, [.t 3], none, [], [], false⟩,
              ⟨some 18, .id, [.t 0], none, [], [], false⟩,
              ⟨some 19, .convInt .u8, [.t 18], none, [], [], false⟩,
              ⟨some 20, .buildSlice 3 false 1 1 [(.int .u8 0)] [(0, 1)], [.t 19], none, [], [], false⟩,
              ⟨some 21, .append 4 false 1 1, [.t 17, .t 20], none, [], [], false⟩,
              ⟨some 2, .id, [.t 21], none, [], [], false⟩])
            .ret)))))
def f_ref04_Num : IFn := ⟨22, 5, [.tmp 2], f_ref04_Num_B⟩
def f_ref04_Text_B : ICode :=
  (.seq
    (.ops [
      ⟨some 2, .id, [.c (.slice none 0 0)], none, [], [], false⟩])
    (.seq
      (.ops [
        ⟨some 3, .id, [.t 0], none, [], [], false⟩,
        ⟨some 4, .lenStr, [.t 3], none, [], [], false⟩,
        ⟨some 5, .call "haberdash/haberdashref04.Num" [0], [.t 4], none, [], [], false⟩,
        ⟨some 6, .id, [.t 0], none, [], [], false⟩,
        ⟨some 7, .append 1 false 1 1, [.t 5, .t 6], none, [], [], false⟩,
        ⟨some 2, .id, [.t 7], none, [], [], false⟩])
      .ret))
def f_ref04_Text : IFn := ⟨8, 2, [.tmp 2], f_ref04_Text_B⟩
def f_slices_Clone___byte_byte__B : ICode :=
  (.seq
    (.ops [
      ⟨some 2, .id, [.c (.slice none 0 0)], none, [], [], false⟩])
    (.seq
      (.seq
        (.ops [
          ⟨some 3, .id, [.t 0], none, [], [], false⟩,
          ⟨some 4, .eqNil false .slice, [.t 3, .c (.slice none 0 0)], none, [], [], false⟩])
        (.cond (.t 4)
          (.seq
            (.ops [
              ⟨some 2, .id, [.c (.slice none 0 0)], none, [], [], false⟩])
            .ret)
          .skip))
      (.seq
        (.ops [
          ⟨some 5, .buildSlice 0 false 1 0 [(.int .u8 0)] [], [], none, [], [], false⟩,
          ⟨some 6, .id, [.t 0], none, [], [], false⟩,
          ⟨some 7, .append 1 false 1 1, [.t 5, .t 6], none, [], [], false⟩,
          ⟨some 2, .id, [.t 7], none, [], [], false⟩])
        .ret)))
def f_slices_Clone___byte_byte_ : IFn := ⟨8, 2, [.tmp 2], f_slices_Clone___byte_byte__B⟩
def f_ref04_Flag_B : ICode :=
  (.seq
    (.ops [
      ⟨some 2, .id, [.c (.slice none 0 0)], none, [], [], false⟩])
    (.seq
      (.seq
        (.ops [
          ⟨some 3, .id, [.t 0], none, [], [], false⟩])
        (.cond (.t 3)
          (.seq
            (.ops [
              ⟨some 4, .call "haberdash/haberdashref04.Num" [0], [.c (.int .i64 1)], none, [], [], false⟩,
              ⟨some 2, .id, [.t 4], none, [], [], false⟩])
            .ret)
          .skip))
      (.seq
        (.ops [
          ⟨some 5, .call "haberdash/haberdashref04.Num" [1], [.c (.int .i64 0)], none, [], [], false⟩,
          ⟨some 2, .id, [.t 5], none, [], [], false⟩])
        .ret)))
def f_ref04_Flag : IFn := ⟨6, 2, [.tmp 2], f_ref04_Flag_B⟩
def f___pack_Reader__length_L0 : ICode :=
  (.seq
    (.ops [
      ⟨some 11, .bin .lss, [.t 10, .t 9], none, [], [], false⟩])
    (.seq
      (.cond (.t 11)
        .skip
        (.exit 0))
      (.seq
        (.block 1
          (.seq
            (.ops [
              ⟨some 12, .id, [.t 10], none, [], [], false⟩,
              ⟨some 13, .indexAddr 1, [.t 8, .t 10], none, [], [], false⟩,
              ⟨some 14, .load 1 false, [.t 13], none, [], [], false⟩,
              ⟨some 3, .id, [.t 12], none, [], [], false⟩,
              ⟨some 4, .id, [.t 14], none, [], [], false⟩])
            (.seq
              (.seq
                (.ops [
                  ⟨some 15, .id, [.t 4], none, [], [], false⟩,
                  ⟨some 16, .bin .lss, [.t 15, .c (.int .u8 128)], none, [], [], false⟩])
                (.cond (.t 16)
                  (.seq
                    (.ops [
                      ⟨some 17, .id, [.t 3], none, [], [], false⟩,
                      ⟨some 18, .bin .add, [.t 17, .c (.int .i64 1)], none, [], [], false⟩,
                      ⟨some 2, .id, [.t 18], none, [], [], false⟩])
                    .ret)
                  .skip))
              (.seq
                (.ops [
                  ⟨some 19, .id, [.t 3], none, [], [], false⟩,
                  ⟨some 20, .bin .eql, [.t 19, .c (.int .i64 8)], none, [], [], false⟩])
                (.cond (.t 20)
                  (.seq
                    (.ops [
                      ⟨some 2, .id, [.c (.int .i64 0)], none, [], [], false⟩])
                    .ret)
                  .skip)))))
        (.ops [
          ⟨some 21, .bin .add, [.t 10, .c (.int .i64 1)], none, [], [], false⟩,
          ⟨some 10, .id, [.t 21], none, [], [], false⟩]))))
def f___pack_Reader__length_H0 (t8 t9 t10 : AV) : List AV := [.dead, .dead, .dead, .dead, .dead, .dead, .dead, .dead, t8, t9, t10, .dead, .dead, .dead, .dead, .dead, .dead, .dead, .dead, .dead, .dead, .dead]
def f___pack_Reader__length_B : ICode :=
  (.seq
    (.ops [
      ⟨some 2, .id, [.c (.int .i64 0)], none, [], [], false⟩])
    (.seq
      (.seq
        (.ops [
          ⟨some 5, .id, [.t 0], none, [], [], false⟩,
          ⟨some 6, .nilCheck, [.t 5], none, [], [], false⟩,
          ⟨some 7, .fieldAddr 0, [.t 6], none, [], [], false⟩,
          ⟨some 8, .load 1 false, [.t 7], none, [], [], false⟩,
          ⟨some 9, .lenSlice, [.t 8], none, [], [], false⟩,
          ⟨some 10, .id, [.c (.int .i64 0)], none, [], [], false⟩])
        (.block 0
          (.loop [0, 1, 2, 3, 4, 5, 6, 7, 11, 12, 13, 14, 15, 16, 17, 18, 19, 20, 21] [] f___pack_Reader__length_L0)))
      (.seq
        (.ops [
          ⟨some 2, .id, [.c (.int .i64 (-1))], none, [], [], false⟩])
        .ret)))
def f___pack_Reader__length : IFn := ⟨22, 0, [.tmp 2], f___pack_Reader__length_B⟩
def f___pack_Reader__fail_B : ICode :=
  (.seq
    (.ops [
      ⟨some 4, .id, [.c (.int .i64 0)], none, [], [], false⟩])
    (.seq
      (.ops [
        ⟨some 5, .id, [.t 0], none, [], [], false⟩,
        ⟨some 6, .id, [.t 1], none, [], [], false⟩,
        ⟨some 7, .nilCheck, [.t 5], none, [], [], false⟩,
        ⟨some 8, .fieldAddr 1, [.t 7], none, [], [], false⟩,
        ⟨none, .store 1 false, [.t 8, .t 6], none, [], [], false⟩])
      (.seq
        (.ops [
          ⟨some 4, .id, [.c (.int .i64 0)], none, [], [], false⟩])
        .ret)))
def f___pack_Reader__fail : IFn := ⟨9, 0, [.tmp 4], f___pack_Reader__fail_B⟩
def f___pack_Reader__text_B : ICode :=
  (.seq
    (.ops [
      ⟨some 6, .id, [.c (.string ⟨#[]⟩)], none, [], [], false⟩])
    (.seq
      (.ops [
        ⟨some 9, .id, [.t 2], none, [], [], false⟩,
        ⟨some 10, .id, [.t 1], none, [], [], false⟩,
        ⟨some 11, .callV [], [.t 9, .c (.int .i64 0), .t 10], none, [], [], false⟩,
        ⟨some 7, .id, [.t 11], none, [], [], false⟩])
      (.seq
        (.seq
          (.ops [
            ⟨some 12, .id, [.t 0], none, [], [], false⟩,
            ⟨some 13, .call "(*haberdash/pack.Reader).Err" [], [.t 12], none, [], [], false⟩,
            ⟨some 14, .bin .neq, [.t 13, .c (.int .i64 0)], none, [], [], false⟩])
          (.cond (.t 14)
            (.seq
              (.ops [
                ⟨some 6, .id, [.c (.string ⟨#[]⟩)], none, [], [], false⟩])
              .ret)
            .skip))
        (.seq
          (.seq
            (.ops [
              ⟨some 15, .id, [.t 7], none, [], [], false⟩,
              ⟨some 16, .id, [.t 0], none, [], [], false⟩,
              ⟨some 17, .nilCheck, [.t 16], none, [], [], false⟩,
              ⟨some 18, .fieldAddr 0, [.t 17], none, [], [], false⟩,
              ⟨some 19, .load 1 false, [.t 18], none, [], [], false⟩,
              ⟨some 20, .lenSlice, [.t 19], none, [], [], false⟩,
              ⟨some 21, .bin .gtr, [.t 15, .t 20], none, [], [], false⟩])
            (.cond (.t 21)
              (.seq
                (.ops [
                  ⟨some 22, .id, [.t 0], none, [], [], false⟩,
                  ⟨some 23, .call "(*haberdash/pack.Reader).fail" [], [.t 22, .c (.int .i64 3)], none, [], [], false⟩])
                (.seq
                  (.ops [
                    ⟨some 6, .id, [.c (.string ⟨#[]⟩)], none, [], [], false⟩])
                  .ret))
              .skip))
          (.seq
            (.ops [
              ⟨some 24, .id, [.t 0], none, [], [], false⟩,
              ⟨some 25, .nilCheck, [.t 24], none, [], [], false⟩,
              ⟨some 26, .fieldAddr 0, [.t 25], none, [], [], false⟩,
              ⟨some 27, .load 1 false, [.t 26], none, [], [], false⟩,
              ⟨some 28, .id, [.t 7], none, [], [], false⟩,
              ⟨some 29, .slice 1 false true false, [.t 27, .t 28], none, [], [], false⟩,
              ⟨some 30, .bytesStr, [.t 29], none, [], [], false⟩,
              ⟨some 8, .id, [.t 30], none, [], [], false⟩])
            (.seq
              (.ops [
                ⟨some 31, .id, [.t 0], none, [], [], false⟩,
                ⟨some 32, .id, [.t 0], none, [], [], false⟩,
                ⟨some 33, .nilCheck, [.t 32], none, [], [], false⟩,
                ⟨some 34, .fieldAddr 0, [.t 33], none, [], [], false⟩,
                ⟨some 35, .load 1 false, [.t 34], none, [], [], false⟩,
                ⟨some 36, .id, [.t 7], none, [], [], false⟩,
                ⟨some 37, .slice 1 true false false, [.t 35, .t 36], none, [], [], false⟩,
                ⟨some 38, .nilCheck, [.t 31], none, [], [], false⟩,
                ⟨some 39, .fieldAddr 0, [.t 38], none, [], [], false⟩,
                ⟨none, .store 1 false, [.t 39, .t 37], none, [], [], false⟩])
              (.seq
                (.ops [
                  ⟨some 40, .id, [.t 8], none, [], [], false⟩,
                  ⟨some 6, .id, [.t 40], none, [], [], false⟩])
                .ret)))))))
def f___pack_Reader__text : IFn := ⟨41, 0, [.tmp 6], f___pack_Reader__text_B⟩
end Go.AM
namespace Go.AM
variable {prog : String → Option IFn}
def numB (v : Nat) : Txt := if h : v < 128 then [UInt8.ofNat v] else UInt8.ofNat (v % 128 + 128) :: numB (v / 128)
termination_by v
decreasing_by omega
theorem numB_small {v : Nat} (h : v < 128) : numB v = [UInt8.ofNat v] := by rw [numB, dif_pos h]
theorem numB_big {v : Nat} (h : ¬ v < 128) : numB v = UInt8.ofNat (v % 128 + 128) :: numB (v / 128) := by rw [numB, dif_neg h]
theorem numB_len : ∀ (k : Nat) {v : Nat}, v < 128 ^ (k + 1) → (numB v).length ≤ k + 1
  | 0, v, h => by rw [numB_small (by simpa using h)]; simp
  | k + 1, v, h => by
    by_cases hv : v < 128
    · rw [numB_small hv]; simp
    · rw [numB_big hv, List.length_cons]
      have := numB_len k (v := v / 128) (by rw [Nat.pow_succ] at h; omega)
      omega
theorem numB_len9 {v : Nat} (h : v < 2 ^ 63) : (numB v).length ≤ 9 := numB_len 8 (by
  have : (128 : Nat) ^ (8 + 1) = 2 ^ 63 := by decide
  omega)
theorem numB_pos {v : Nat} : 0 < (numB v).length := by
  by_cases hv : v < 128
  · rw [numB_small hv]; simp
  · rw [numB_big hv]; simp
def textB (s : Txt) : Txt := numB s.length ++ s
def flagB (b : Bool) : Txt := if b then numB 1 else numB 0
theorem add128 {v : Nat} : UInt8.ofNat (v % 128) + 128 = UInt8.ofNat (v % 128 + 128) := by
  have : ∀ k : Fin 128, UInt8.ofNat k.val + 128 = UInt8.ofNat (k.val + 128) := by decide
  exact this ⟨v % 128, Nat.mod_lt _ (by omega)⟩
theorem u128 : Value.int .u8 128 = u8 128 := congrArg (Value.int .u8) (by decide : (128 : Int) = (((128 : UInt8).toNat : Nat) : Int))
theorem max0 {v : Int} : (if (0 : Int) > v then (0 : Int) else v) = ((v.toNat : Nat) : Int) := by split <;> omega
theorem quo128 {v : Nat} (h : v < 2 ^ 63) : vBin .quo (.int .i64 (v : Int)) (.int .i64 128) = some (.int .i64 ((v / 128 : Nat) : Int)) := by
  simp only [vBin, ne_eq, not_true_eq_false, if_false]
  rw [if_neg (by decide), show ((v : Int)).tdiv 128 = ((v / 128 : Nat) : Int) from rfl, wrap_i64_nat (by omega)]
theorem rem128 {v : Nat} : vBin .rem (.int .i64 (v : Int)) (.int .i64 128) = some (.int .i64 ((v % 128 : Nat) : Int)) := by
  simp only [vBin, ne_eq, not_true_eq_false, if_false]
  rw [if_neg (by decide)]; rfl
theorem append_b {G L} {site j m : Nat} {bs : Txt} {c : UInt8} {v : Bool} (hL : L[j]? = some (some (dBlk (bs.map byteAV) true v))) (hm : L[m]? = some (some (dBlk [.v (u8 c)] false false))) (hr : bs.length + 1 ≤ room) :
    prim ⟨G, L⟩ (.append site false 1 1) [.own (.l j) bs.length 0 bs.length 1 none, .own (.l m) 1 0 1 1 (some 1)] = some (.own (.l j) (bs.length + 1) 0 (bs.length + 1) 1 none, ⟨G, L.set j (some (dBlk ((bs ++ [c]).map byteAV) true false))⟩) := by
  have := append_one (G := G) (site := site) (bytes := 1) (len := bs.length) (k := 0) hL (by simp) hm rfl (by omega)
  rw [List.map_append]
  exact this
theorem build_u8 {G L} {j : Nat} {z : Value} {b : UInt8} (hL : L[j]? = some none) :
    prim ⟨G, L⟩ (.buildSlice j false 1 1 [z] [(0, 1)]) [.v (u8 b)] = some (.own (.l j) 1 0 1 1 (some 1), ⟨G, L.set j (some (dBlk [.v (u8 b)] false false))⟩) := build_v1 rfl hL
def byteB (bs : Txt) : Option Blk := some (dBlk (bs.map byteAV) true (decide (bs.length = 0)))
theorem refNum_spec (hf : prog "haberdash/haberdashref04.Num" = some f_ref04_Num) {G} {v : Int} (hv : v < 2 ^ 63) :
    Ev prog (.call "haberdash/haberdashref04.Num" [.v (.int .i64 v)] G) (.ret (.own (.o G.length) (numB v.toNat).length 0 (numB v.toNat).length 1 none) (G ++ [some (dBlk ((numB v.toNat).map byteAV) true false)])) := by
  refine call_of_fin hf ?_
  simp only [f_ref04_Num_B, enter, List.length_cons, List.length_nil, List.replicate, Nat.reduceAdd, Nat.reduceSub, List.cons_append, List.nil_append]
  simp (disch := first | (simp only [ne_eq, reduceCtorEq, not_false_eq_true, implies_true, List.getElem?_cons_zero, List.getElem?_cons_succ]; done) | omega) only [WS, St.guard, St.put, evalO, reduceCtorEq, reduceIte, Nat.reduceAdd, Nat.reduceEqDiff, new_s, virtBlk_eq, box_s, box_vs, box_vi, box_vb, px_load_l, px_load_o, loadB_s, storeX, storeB_s, alloc_s, lay, whole, Option.join_some, List.drop_zero, List.drop_succ_cons, List.take_succ_cons, List.take_zero, List.drop_nil, List.nil_append, List.cons_append, Nat.reduceLeDiff, Nat.zero_add, and_self, and_true, cells_int, cells_bool, cells_str, cells_string, cells_agg, cells_own, cells_ro, cells_ptr, cells_nil, AV.lf.lfs, AV.lf, px_build, fills, build_string, build_str, build_int, WDR_some, Nat.reduceLeDiff, Nat.le_refl, Bool.and_self, maxs, max0]
  have hroom : room = 140737488355328 := rfl
  have hn : v.toNat < 2 ^ 63 := by omega
  have hl9 := numB_len9 hn
  generalize v.toNat = n at *
  refine WC_loop (Inv := fun m st => ∃ (out : Txt), out ++ numB m = numB n ∧ m < 2 ^ 63 ∧
      st = ⟨f_ref04_Num_H0 (.v (.int .i64 (m : Nat))) (.own (.l 0) out.length 0 out.length 1 none), ⟨G, [byteB out, none, none, none, none]⟩⟩) n ?_ ?_
  · exact ⟨_, clear_fre (by simp only [clear_nil, List.foldl_cons, List.foldl_nil, Option.some.injEq, List.map_cons, List.map_nil, List.getD_cons_zero, List.getD_cons_succ, List.set_cons_zero, List.set_cons_succ, Option.map_some, Option.bind_some, ne_eq, reduceCtorEq, not_false_eq_true, implies_true, beq_self_eq_true, BEq.rfl, if_true, if_false, Bool.false_eq_true, not_true_eq_false, Option.some.injEq, reduceIte, Bool.not_true, Bool.not_false, beq_true, beq_false, Bool.true_and, Bool.and_true, Bool.false_and, Bool.and_false, true_and, List.getElem?_cons_zero, List.getElem?_cons_succ, List.length_cons, List.length_nil, Nat.reduceAdd]; rfl) (by rfl) (by rfl) (by rfl), [], rfl, hn, rfl⟩
  · rintro m st ⟨out, ho, hm, rfl⟩
    have hol : out.length + (numB m).length = (numB n).length := by rw [← ho, List.length_append]
    have hpos := numB_pos (v := m)
    by_cases hb : m < 128
    · have hge : ¬ ((m : Int) ≥ 128) := by omega
      simp (disch := first | (simp only [ne_eq, reduceCtorEq, not_false_eq_true, implies_true, List.getElem?_cons_zero, List.getElem?_cons_succ]; done) | omega) only [f_ref04_Num_L0, f_ref04_Num_H0, WS, St.guard, St.put, evalO, reduceCtorEq, reduceIte, Nat.reduceAdd, Nat.reduceEqDiff, new_s, virtBlk_eq, box_s, box_vs, box_vi, box_vb, px_load_l, px_load_o, loadB_s, storeX, storeB_s, alloc_s, lay, whole, Option.join_some, List.drop_zero, List.drop_succ_cons, List.take_succ_cons, List.take_zero, List.drop_nil, List.nil_append, List.cons_append, Nat.reduceLeDiff, Nat.zero_add, and_self, and_true, cells_int, cells_bool, cells_str, cells_string, cells_agg, cells_own, cells_ro, cells_ptr, cells_nil, AV.lf.lfs, AV.lf, px_build, fills, build_string, build_str, build_int, WDR_some, Nat.reduceLeDiff, Nat.le_refl, Bool.and_self, hge, decide_false, cvU8, build_u8]
      refine (WR_eq (append_b (j := 0) (m := 3) (bs := out) (c := UInt8.ofNat m) (v := decide (out.length = 0)) (by exact rfl) (by exact rfl) (by omega))).2 ?_
      rw [numB_small hb] at ho
      simp (disch := first | (simp only [ne_eq, reduceCtorEq, not_false_eq_true, implies_true, List.getElem?_cons_zero, List.getElem?_cons_succ]; done) | omega) only [WS, St.guard, St.put, evalO, reduceCtorEq, reduceIte, Nat.reduceAdd, Nat.reduceEqDiff, fin_tmp, or_true]
      rw [ho]
      have : out.length + 1 = (numB n).length := by rw [← ho]; simp
      rw [this]
      exact leave_own1 (by rfl) (by rfl)
    · have hge : (m : Int) ≥ 128 := by omega
      simp (disch := first | (simp only [ne_eq, reduceCtorEq, not_false_eq_true, implies_true, List.getElem?_cons_zero, List.getElem?_cons_succ]; done) | omega) only [f_ref04_Num_L0, f_ref04_Num_H0, WS, St.guard, St.put, evalO, reduceCtorEq, reduceIte, Nat.reduceAdd, Nat.reduceEqDiff, new_s, virtBlk_eq, box_s, box_vs, box_vi, box_vb, px_load_l, px_load_o, loadB_s, storeX, storeB_s, alloc_s, lay, whole, Option.join_some, List.drop_zero, List.drop_succ_cons, List.take_succ_cons, List.take_zero, List.drop_nil, List.nil_append, List.cons_append, Nat.reduceLeDiff, Nat.zero_add, and_self, and_true, cells_int, cells_bool, cells_str, cells_string, cells_agg, cells_own, cells_ro, cells_ptr, cells_nil, AV.lf.lfs, AV.lf, px_build, fills, build_string, build_str, build_int, WDR_some, Nat.reduceLeDiff, Nat.le_refl, Bool.and_self, hge, decide_true, rem128, cvU8, u128, addU8, add128, build_u8]
      refine (WR_eq (append_b (j := 0) (m := 1) (bs := out) (c := UInt8.ofNat (m % 128 + 128)) (v := decide (out.length = 0)) (by exact rfl) (by exact rfl) (by omega))).2 ?_
      simp (disch := first | (simp only [ne_eq, reduceCtorEq, not_false_eq_true, implies_true, List.getElem?_cons_zero, List.getElem?_cons_succ]; done) | omega) only [WS, St.guard, St.put, evalO, reduceCtorEq, reduceIte, Nat.reduceAdd, Nat.reduceEqDiff, new_s, virtBlk_eq, box_s, box_vs, box_vi, box_vb, px_load_l, px_load_o, loadB_s, storeX, storeB_s, alloc_s, lay, whole, Option.join_some, List.drop_zero, List.drop_succ_cons, List.take_succ_cons, List.take_zero, List.drop_nil, List.nil_append, List.cons_append, Nat.reduceLeDiff, Nat.zero_add, and_self, and_true, cells_int, cells_bool, cells_str, cells_string, cells_agg, cells_own, cells_ro, cells_ptr, cells_nil, AV.lf.lfs, AV.lf, px_build, fills, build_string, build_str, build_int, WDR_some, Nat.reduceLeDiff, Nat.le_refl, Bool.and_self, quo128]
      rw [numB_big hb] at ho
      have el : (out ++ [UInt8.ofNat (m % 128 + 128)]).length = out.length + 1 := by simp
      have eB : byteB (out ++ [UInt8.ofNat (m % 128 + 128)]) = some (dBlk ((out ++ [UInt8.ofNat (m % 128 + 128)]).map byteAV) true false) := by unfold byteB; rw [decide_eq_false (by simp)]
      refine ⟨_, m / 128, clear_fre (by simp only [clear_nil, List.foldl_cons, List.foldl_nil, Option.some.injEq, List.map_cons, List.map_nil, List.getD_cons_zero, List.getD_cons_succ, List.set_cons_zero, List.set_cons_succ, Option.map_some, Option.bind_some, ne_eq, reduceCtorEq, not_false_eq_true, implies_true, beq_self_eq_true, BEq.rfl, if_true, if_false, Bool.false_eq_true, not_true_eq_false, Option.some.injEq, reduceIte, Bool.not_true, Bool.not_false, beq_true, beq_false, Bool.true_and, Bool.and_true, Bool.false_and, Bool.and_false, true_and, List.getElem?_cons_zero, List.getElem?_cons_succ, List.length_cons, List.length_nil, Nat.reduceAdd]; rfl) (by rfl) (by rfl) (by rfl), by omega, out ++ [UInt8.ofNat (m % 128 + 128)], by simpa using ho, by omega, ?_⟩
      rw [el, eB]; rfl
end Go.AM
namespace Go.AM
variable {prog : String → Option IFn}
structure PackLib (prog : String → Option IFn) : Prop where
  rnum : prog "haberdash/haberdashref04.Num" = some f_ref04_Num
  rtext : prog "haberdash/haberdashref04.Text" = some f_ref04_Text
  rflag : prog "haberdash/haberdashref04.Flag" = some f_ref04_Flag
  wnum : prog "(*haberdash/pack.Writer).Num" = some f___pack_Writer__Num
  wtext : prog "(*haberdash/pack.Writer).Text" = some f___pack_Writer__Text
  wflag : prog "(*haberdash/pack.Writer).Flag" = some f___pack_Writer__Flag
  wbytes : prog "(*haberdash/pack.Writer).Bytes" = some f___pack_Writer__Bytes
  clone : prog "slices.Clone[[]byte,byte]" = some f_slices_Clone___byte_byte_
  read : prog "haberdash/pack.Read" = some f_pack_Read
  rdnum : prog "(*haberdash/pack.Reader).Num" = some f___pack_Reader__Num
  rdtext : prog "(*haberdash/pack.Reader).Text" = some f___pack_Reader__Text
  rdflag : prog "(*haberdash/pack.Reader).Flag" = some f___pack_Reader__Flag
  rderr : prog "(*haberdash/pack.Reader).Err" = some f___pack_Reader__Err
  rdend : prog "(*haberdash/pack.Reader).End" = some f___pack_Reader__End
  rdlen : prog "(*haberdash/pack.Reader).length" = some f___pack_Reader__length
  rdfail : prog "(*haberdash/pack.Reader).fail" = some f___pack_Reader__fail
  rdtxt : prog "(*haberdash/pack.Reader).text" = some f___pack_Reader__text
theorem append_s {G L} {site j : Nat} {bs s : Txt} {v : Bool} (hL : L[j]? = some (some (dBlk (bs.map byteAV) true v))) (h0 : 0 < bs.length) (hr : bs.length + s.length ≤ room) :
    prim ⟨G, L⟩ (.append site false 1 1) [.own (.l j) bs.length 0 bs.length 1 none, .v (str s)] = some (.own (.l j) (bs ++ s).length 0 (bs ++ s).length 1 none, ⟨G, L.set j (some (dBlk ((bs ++ s).map byteAV) true (v && decide (s = []))))⟩) := by
  have hs : (⟨G, L⟩ : Hp).source (.v (str s)) = some (s.length, s.map byteAV) := by
    show some (_, _) = _
    simp [ByteArray.size]
  simp only [prim, hs, Option.bind_some, Hp.mayFreeze, Bool.false_eq_true, if_false, Hp.append, List.length_map, Nat.mul_one, if_true, Hp.get, hL, Option.join_some, dBlk_cells]
  refine (if_pos ⟨trivial, trivial, hr, by simp [okPut]⟩).trans ?_
  by_cases hs0 : s.length = 0
  · have : s = [] := List.eq_nil_of_length_eq_zero hs0
    subst this
    simp only [List.length_nil, if_true, List.append_nil, decide_true, Bool.and_true]
    rw [set_same hL]
  · have hne : s ≠ [] := fun h => by subst h; simp at hs0
    rw [if_neg hs0, if_neg (by simp [dBlk]), if_neg (by omega)]
    refine (if_pos ⟨trivial, rfl⟩).trans ?_
    rw [List.take_of_length_le (by simp), decide_eq_false hne]
    simp only [dBlk, bytes_lfs, Bool.and_true, Bool.and_false, Hp.put, List.map_append, List.length_append]
theorem refText_spec (H : PackLib prog) {G} {s : Txt} (hs : s.length ≤ 300) :
    Ev prog (.call "haberdash/haberdashref04.Text" [.v (str s)] G) (.ret (.own (.o G.length) (textB s).length 0 (textB s).length 1 none) (G ++ [some (dBlk ((textB s).map byteAV) true false)])) := by
  refine call_of_fin H.rtext ?_
  simp only [f_ref04_Text_B, enter, List.length_cons, List.length_nil, List.replicate, Nat.reduceAdd, Nat.reduceSub, List.cons_append, List.nil_append]
  simp (disch := first | (simp only [ne_eq, reduceCtorEq, not_false_eq_true, implies_true, List.getElem?_cons_zero, List.getElem?_cons_succ]; done) | omega) only [WS, St.guard, St.put, evalO, reduceCtorEq, reduceIte, Nat.reduceAdd, Nat.reduceEqDiff, new_s, virtBlk_eq, box_s, box_vs, box_vi, box_vb, px_load_l, px_load_o, loadB_s, storeX, storeB_s, alloc_s, lay, whole, Option.join_some, List.drop_zero, List.drop_succ_cons, List.take_succ_cons, List.take_zero, List.drop_nil, List.nil_append, List.cons_append, Nat.reduceLeDiff, Nat.zero_add, and_self, and_true, cells_int, cells_bool, cells_str, cells_string, cells_agg, cells_own, cells_ro, cells_ptr, cells_nil, AV.lf.lfs, AV.lf, px_build, fills, build_string, build_str, build_int, WDR_some, Nat.reduceLeDiff, Nat.le_refl, Bool.and_self, lenStr_str]
  have hl := numB_len9 (v := s.length) (by omega)
  have hroom : room = 140737488355328 := rfl
  refine WP_news (by exact refNum_spec H.rnum (by omega)) (data1 dBlk_l) rfl (by decide) rfl (by exact trivial) (by exact ren_own1) ?_
  simp (disch := first | (simp only [ne_eq, reduceCtorEq, not_false_eq_true, implies_true, List.getElem?_cons_zero, List.getElem?_cons_succ]; done) | omega) only [WS, St.guard, St.put, evalO, reduceCtorEq, reduceIte, Nat.reduceAdd, Nat.reduceEqDiff, new_s, virtBlk_eq, box_s, box_vs, box_vi, box_vb, px_load_l, px_load_o, loadB_s, storeX, storeB_s, alloc_s, lay, whole, Option.join_some, List.drop_zero, List.drop_succ_cons, List.take_succ_cons, List.take_zero, List.drop_nil, List.nil_append, List.cons_append, Nat.reduceLeDiff, Nat.zero_add, and_self, and_true, cells_int, cells_bool, cells_str, cells_string, cells_agg, cells_own, cells_ro, cells_ptr, cells_nil, AV.lf.lfs, AV.lf, px_build, fills, build_string, build_str, build_int, WDR_some, Nat.reduceLeDiff, Nat.le_refl, Bool.and_self, putAll, Int.toNat_natCast]
  refine (WR_eq (append_s (j := 0) (bs := numB s.length) (s := s) (v := false) (by exact rfl) numB_pos (by omega))).2 ?_
  simp (disch := first | (simp only [ne_eq, reduceCtorEq, not_false_eq_true, implies_true, List.getElem?_cons_zero, List.getElem?_cons_succ]; done) | omega) only [WS, St.guard, St.put, evalO, reduceCtorEq, reduceIte, Nat.reduceAdd, Nat.reduceEqDiff, fin_tmp, or_true]
  exact leave_own1 (by rfl) (by rfl)
theorem refFlag_spec (H : PackLib prog) {G} {b : Bool} :
    Ev prog (.call "haberdash/haberdashref04.Flag" [.v (.bool b)] G) (.ret (.own (.o G.length) (flagB b).length 0 (flagB b).length 1 none) (G ++ [some (dBlk ((flagB b).map byteAV) true false)])) := by
  refine call_of_fin H.rflag ?_
  simp only [f_ref04_Flag_B, enter, List.length_cons, List.length_nil, List.replicate, Nat.reduceAdd, Nat.reduceSub, List.cons_append, List.nil_append]
  cases b
  · simp (disch := first | (simp only [ne_eq, reduceCtorEq, not_false_eq_true, implies_true, List.getElem?_cons_zero, List.getElem?_cons_succ]; done) | omega) only [WS, St.guard, St.put, evalO, reduceCtorEq, reduceIte, Nat.reduceAdd, Nat.reduceEqDiff, new_s, virtBlk_eq, box_s, box_vs, box_vi, box_vb, px_load_l, px_load_o, loadB_s, storeX, storeB_s, alloc_s, lay, whole, Option.join_some, List.drop_zero, List.drop_succ_cons, List.take_succ_cons, List.take_zero, List.drop_nil, List.nil_append, List.cons_append, Nat.reduceLeDiff, Nat.zero_add, and_self, and_true, cells_int, cells_bool, cells_str, cells_string, cells_agg, cells_own, cells_ro, cells_ptr, cells_nil, AV.lf.lfs, AV.lf, px_build, fills, build_string, build_str, build_int, WDR_some, Nat.reduceLeDiff, Nat.le_refl, Bool.and_self]
    refine WP_news (by exact refNum_spec H.rnum (v := 0) (by omega)) (data1 dBlk_l) rfl (by decide) rfl (by exact trivial) (by exact ren_own1) ?_
    simp (disch := first | (simp only [ne_eq, reduceCtorEq, not_false_eq_true, implies_true, List.getElem?_cons_zero, List.getElem?_cons_succ]; done) | omega) only [WS, St.guard, St.put, evalO, reduceCtorEq, reduceIte, Nat.reduceAdd, Nat.reduceEqDiff, new_s, virtBlk_eq, box_s, box_vs, box_vi, box_vb, px_load_l, px_load_o, loadB_s, storeX, storeB_s, alloc_s, lay, whole, Option.join_some, List.drop_zero, List.drop_succ_cons, List.take_succ_cons, List.take_zero, List.drop_nil, List.nil_append, List.cons_append, Nat.reduceLeDiff, Nat.zero_add, and_self, and_true, cells_int, cells_bool, cells_str, cells_string, cells_agg, cells_own, cells_ro, cells_ptr, cells_nil, AV.lf.lfs, AV.lf, px_build, fills, build_string, build_str, build_int, WDR_some, Nat.reduceLeDiff, Nat.le_refl, Bool.and_self, putAll, fin_tmp, or_true]
    exact leave_own1 (by rfl) (by rfl)
  · simp (disch := first | (simp only [ne_eq, reduceCtorEq, not_false_eq_true, implies_true, List.getElem?_cons_zero, List.getElem?_cons_succ]; done) | omega) only [WS, St.guard, St.put, evalO, reduceCtorEq, reduceIte, Nat.reduceAdd, Nat.reduceEqDiff, new_s, virtBlk_eq, box_s, box_vs, box_vi, box_vb, px_load_l, px_load_o, loadB_s, storeX, storeB_s, alloc_s, lay, whole, Option.join_some, List.drop_zero, List.drop_succ_cons, List.take_succ_cons, List.take_zero, List.drop_nil, List.nil_append, List.cons_append, Nat.reduceLeDiff, Nat.zero_add, and_self, and_true, cells_int, cells_bool, cells_str, cells_string, cells_agg, cells_own, cells_ro, cells_ptr, cells_nil, AV.lf.lfs, AV.lf, px_build, fills, build_string, build_str, build_int, WDR_some, Nat.reduceLeDiff, Nat.le_refl, Bool.and_self]
    refine WP_news (by exact refNum_spec H.rnum (v := 1) (by omega)) (data1 dBlk_l) rfl (by decide) rfl (by exact trivial) (by exact ren_own1) ?_
    simp (disch := first | (simp only [ne_eq, reduceCtorEq, not_false_eq_true, implies_true, List.getElem?_cons_zero, List.getElem?_cons_succ]; done) | omega) only [WS, St.guard, St.put, evalO, reduceCtorEq, reduceIte, Nat.reduceAdd, Nat.reduceEqDiff, new_s, virtBlk_eq, box_s, box_vs, box_vi, box_vb, px_load_l, px_load_o, loadB_s, storeX, storeB_s, alloc_s, lay, whole, Option.join_some, List.drop_zero, List.drop_succ_cons, List.take_succ_cons, List.take_zero, List.drop_nil, List.nil_append, List.cons_append, Nat.reduceLeDiff, Nat.zero_add, and_self, and_true, cells_int, cells_bool, cells_str, cells_string, cells_agg, cells_own, cells_ro, cells_ptr, cells_nil, AV.lf.lfs, AV.lf, px_build, fills, build_string, build_str, build_int, WDR_some, Nat.reduceLeDiff, Nat.le_refl, Bool.and_self, putAll, fin_tmp, or_true]
    exact leave_own1 (by rfl) (by rfl)
variable {G : List (Option Blk)} {p q : Nat} {bs : Txt}
end Go.AM
namespace Go.AM
variable {prog : String → Option IFn}
structure StepD where
  kind : Int
  least : Int
  most : Int
  n : Int
  s : Txt
  is : Bool
def StepD.cells (x : StepD) : List AV := [.v (.int .i64 x.kind), .v (.int .i64 x.least), .v (.int .i64 x.most), .v (.int .i64 x.n), .v (str x.s), .v (.bool x.is)]
def stEnc : Enc StepD := ⟨StepD.cells, 6, true, fun _ => rfl, by omega, .inl rfl, fun _ => rfl, fun h => by cases h⟩
def stepB (x : StepD) : Txt := if umod x.kind 3 = 0 then numB x.n.toNat else if umod x.kind 3 = 1 then textB x.s else flagB x.is
def writeB (xs : List StepD) : Txt := xs.flatMap stepB
def okStep (x : StepD) : Prop := x.n < 2 ^ 63 ∧ x.s.length ≤ 300
theorem stepB_len {x : StepD} (h : okStep x) : (stepB x).length ≤ 309 := by
  have h1 := numB_len9 (v := x.n.toNat) (by have := h.1; omega)
  have h2 := numB_len9 (v := x.s.length) (by have := h.2; omega)
  have h3 := numB_len9 (v := 1) (by omega)
  have h4 := numB_len9 (v := 0) (by omega)
  have h5 := h.2
  unfold stepB
  split
  · omega
  · split
    · unfold textB; rw [List.length_append]; omega
    · unfold flagB; split <;> omega
theorem stepB_pos {x : StepD} : 0 < (stepB x).length := by
  unfold stepB
  split
  · exact numB_pos
  · split
    · unfold textB; rw [List.length_append]; have := numB_pos (v := x.s.length); omega
    · unfold flagB; split <;> exact numB_pos
theorem writeB_len : ∀ {xs : List StepD}, (∀ x ∈ xs, okStep x) → (writeB xs).length ≤ 309 * xs.length
  | [], _ => by simp [writeB]
  | x :: xs, h => by
    have := writeB_len (xs := xs) fun y hy => h y (by simp [hy])
    have := stepB_len (h x (by simp))
    simp only [writeB, List.flatMap_cons, List.length_append, List.length_cons] at *
    omega
structure StAt (h : Hp) (a : AV) (i : Nat) (x : StepD) : Prop where
  ix : prim h (.indexAddr 6) [a, .v (.int .i64 (i : Int))] = some (elemPtr a 6 i, h)
  ld : prim h (.load 6 true) [elemPtr a 6 i] = some (.agg x.cells, h)
  f3 : prim h (.fieldAddr 3) [elemPtr a 6 i] = some (fldPtr a 6 i 3, h)
  f4 : prim h (.fieldAddr 4) [elemPtr a 6 i] = some (fldPtr a 6 i 4, h)
  f5 : prim h (.fieldAddr 5) [elemPtr a 6 i] = some (fldPtr a 6 i 5, h)
  l3 : prim h (.load 1 false) [fldPtr a 6 i 3] = some (.v (.int .i64 x.n), h)
  l4 : prim h (.load 1 false) [fldPtr a 6 i 4] = some (.v (str x.s), h)
  l5 : prim h (.load 1 false) [fldPtr a 6 i 5] = some (.v (.bool x.is), h)
theorem st_at {h : Hp} {a} {xs : List StepD} (v : TView stEnc h a xs) {i : Nat} {x : StepD} (hx : xs[i]? = some x) : StAt h a i x := by
  have hi := lt_of_get hx
  have vv : View h a 6 xs.length (stEnc.row xs) := v
  have ch : ((stEnc.row xs).drop (i * 6)).take 6 = x.cells := stEnc.row_chunk hx
  have hc : ∀ (f : Nat) (y : AV), f < 6 → x.cells[f]? = some y → (stEnc.row xs)[i * 6 + f]? = some y := fun f y hf hy => by
    rw [← ch, List.getElem?_take, if_pos hf, List.getElem?_drop] at hy
    exact hy
  exact ⟨v.index hi, v.load hx, vv.field hi, vv.field hi, vv.field hi, vv.loadF hi (by omega) (hc 3 _ (by omega) rfl), vv.loadF hi (by omega) (hc 4 _ (by omega) rfl), vv.loadF hi (by omega) (hc 5 _ (by omega) rfl)⟩
theorem kind_spec (hf : prog "(haberdash/haberdashlaw04.Step).kind" = some f__law04_Step__kind) {G} {x : StepD} :
    Ev prog (.call "(haberdash/haberdashlaw04.Step).kind" [.agg x.cells] G) (.ret (.v (.int .i64 (umod x.kind 3 : Nat))) G) := by
  refine call_of_fin hf ?_
  have := umod_lt (c := x.kind) (n := 3) (by omega)
  simp only [f__law04_Step__kind_B, enter, List.length_cons, List.length_nil, List.replicate, Nat.reduceAdd, Nat.reduceSub, List.cons_append, List.nil_append, StepD.cells]
  simp (disch := first | (simp only [ne_eq, reduceCtorEq, not_false_eq_true, implies_true, List.getElem?_cons_zero, List.getElem?_cons_succ]; done) | omega) only [WS, St.guard, St.put, evalO, reduceCtorEq, reduceIte, Nat.reduceAdd, Nat.reduceEqDiff, new_s, virtBlk_eq, box_s, box_vs, box_vi, box_vb, px_load_l, px_load_o, loadB_s, storeX, storeB_s, alloc_s, lay, whole, Option.join_some, List.drop_zero, List.drop_succ_cons, List.take_succ_cons, List.take_zero, List.drop_nil, List.nil_append, List.cons_append, Nat.reduceLeDiff, Nat.zero_add, and_self, and_true, cells_int, cells_bool, cells_str, cells_string, cells_agg, cells_own, cells_ro, cells_ptr, cells_nil, AV.lf.lfs, AV.lf, px_build, fills, build_string, build_str, build_int, WDR_some, Nat.reduceLeDiff, Nat.le_refl, Bool.and_self]
  rw [vRem_u64_lit (z := 3) 3 rfl (by omega)]
  simp (disch := first | (simp only [ne_eq, reduceCtorEq, not_false_eq_true, implies_true]; done) | omega) only [WS, St.guard, St.put, evalO, reduceCtorEq, reduceIte, Nat.reduceAdd, Nat.reduceEqDiff, wrap_i64_nat, fin_tmp, leave_v]
  simp
def fewB (xs : List StepD) : Bool := decide (xs.length ≤ 40) && xs.all fun x => decide (x.s.length ≤ 300)
theorem few4_spec (hf : prog "haberdash/haberdashlaw04.few" = some f_law04_few) {G a} {xs : List StepD} (v : ∀ L, TView stEnc ⟨G, L⟩ a xs) (hl : xs.length ≤ maxLen) :
    Ev prog (.call "haberdash/haberdashlaw04.few" [a] G) (.ret (.v (.bool (fewB xs))) G) := by
  have hml : xs.length ≤ 9223372036854775807 := hl
  refine call_of_fin hf ?_
  simp only [f_law04_few_B, enter, List.length_cons, List.length_nil, List.replicate, Nat.reduceAdd, Nat.reduceSub, List.cons_append, List.nil_append]
  simp (disch := first | (simp only [ne_eq, reduceCtorEq, not_false_eq_true, implies_true]; done) | omega) only [WS, St.guard, St.put, evalO, reduceCtorEq, reduceIte, Nat.reduceAdd, Nat.reduceEqDiff]
  refine WC_countP (fun i => ∀ (j : Nat) x, j < i → xs[j]? = some x → decide (x.s.length ≤ 300) = true) (fun i => ⟨f_law04_few_H0 a (.v (.int .i64 (i : Nat))), ⟨G, []⟩⟩) xs.length ?_ (fun j x h => by omega) (fun i hi hp => ?_) (fun hp => ?_)
  · simp only [clear_nil, List.foldl_cons, List.foldl_nil, Option.some.injEq, List.map_cons, List.map_nil, List.getD_cons_zero, List.getD_cons_succ, List.set_cons_zero, List.set_cons_succ, Option.map_some, Option.bind_some, ne_eq, reduceCtorEq, not_false_eq_true, implies_true, beq_self_eq_true, BEq.rfl, if_true, if_false, Bool.false_eq_true, not_true_eq_false, Option.some.injEq, reduceIte, Bool.not_true, Bool.not_false, beq_true, beq_false, Bool.true_and, Bool.and_true, Bool.false_and, Bool.and_false, true_and, List.getElem?_cons_zero, List.getElem?_cons_succ, List.length_cons, List.length_nil, Nat.reduceAdd] <;> rfl
  · have hlt' : (i : Int) < (xs.length : Int) := by omega
    have hx : xs[i]? = some xs[i] := List.getElem?_eq_getElem hi
    generalize xs[i] = x at *
    have q := st_at (v []) hx
    simp (disch := first | (simp only [ne_eq, reduceCtorEq, not_false_eq_true, implies_true, List.getElem?_cons_zero, List.getElem?_cons_succ]; done) | omega) only [f_law04_few_L0, f_law04_few_H0, WS, St.guard, St.put, evalO, reduceCtorEq, reduceIte, Nat.reduceAdd, Nat.reduceEqDiff, (v _).lenSlice, hlt', decide_true, q.ix, q.f4, q.l4, lenStr_str]
    by_cases hc : x.s.length ≤ 300
    · simp (disch := first | (simp only [ne_eq, reduceCtorEq, not_false_eq_true, implies_true]; done) | omega) only [WS, St.guard, St.put, evalO, reduceCtorEq, reduceIte, Nat.reduceAdd, Nat.reduceEqDiff, show ¬ ((x.s.length : Int) > 300) from by omega, decide_false, vBin_add_i64, clear_nil, List.foldl_cons, List.foldl_nil, Option.some.injEq]
      refine ⟨rfl, fun j y hj h1 => ?_⟩
      by_cases hji : j < i
      · exact hp j y hji h1
      · obtain rfl : j = i := by omega
        rw [hx] at h1; cases h1; exact decide_eq_true hc
    · have e : fewB xs = false := by unfold fewB; rw [all_bad hx (decide_eq_false hc), Bool.and_false]
      simp (disch := first | (simp only [ne_eq, reduceCtorEq, not_false_eq_true, implies_true]; done) | omega) only [WS, St.guard, St.put, evalO, reduceCtorEq, reduceIte, Nat.reduceAdd, Nat.reduceEqDiff, show ((x.s.length : Int) > 300) from by omega, decide_true, fin_tmp, leave_v, e]
      simp
  · have e : fewB xs = decide ((xs.length : Int) ≤ 40) := by
      unfold fewB
      rw [all_of fun j x h => hp j x (lt_of_get h) h, Bool.and_true, decide_eq_decide]; omega
    simp (disch := first | (simp only [ne_eq, reduceCtorEq, not_false_eq_true, implies_true]; done) | omega) only [f_law04_few_L0, f_law04_few_H0, WS, St.guard, St.put, evalO, reduceCtorEq, reduceIte, Nat.reduceAdd, Nat.reduceEqDiff, (v _).lenSlice, decide_false, fin_tmp, leave_v, e]
    simp
theorem append_v {G L} {site j : Nat} {bs cs : Txt} {x : AV} {v : Bool} (hL : L[j]? = some (some (dBlk (bs.map byteAV) true v))) (hv : View ⟨G, L⟩ x 1 cs.length (cs.map byteAV)) (h0 : 0 < cs.length) (hr : bs.length + cs.length ≤ room) :
    prim ⟨G, L⟩ (.append site false 1 1) [.own (.l j) bs.length 0 bs.length 1 none, x] = some (.own (.l j) (bs.length + cs.length) 0 (bs.length + cs.length) 1 none, ⟨G, L.set j (some (dBlk ((bs ++ cs).map byteAV) true false))⟩) := by
  have := append_own (G := G) (site := site) (bytes := 1) (len := bs.length) (esz := 1) hL (by simp) hv bytes_lfs h0 (by omega)
  rw [Nat.mul_one, Nat.mul_one] at this
  rw [List.map_append]
  exact this
structure Write4 (prog : String → Option IFn) : Prop extends PackLib prog where
  kind : prog "(haberdash/haberdashlaw04.Step).kind" = some f__law04_Step__kind
  few : prog "haberdash/haberdashlaw04.few" = some f_law04_few
  write : prog "haberdash/haberdashlaw04.write" = some f_law04_write
theorem write_spec (H : Write4 prog) {G a} {xs : List StepD} (v : ∀ L, TView stEnc ⟨G, L⟩ a xs) (hl : xs.length ≤ 40) (hx : ∀ x ∈ xs, okStep x) :
    Ev prog (.call "haberdash/haberdashlaw04.write" [a] G) (.ret (.own (.o G.length) (writeB xs).length 0 (writeB xs).length 1 none) (G ++ [byteB (writeB xs)])) := by
  have na : ∀ ks, noRef ks a = true := fun ks => noRef_out (View.out (v []))
  have hroom : room = 140737488355328 := rfl
  refine call_of_fin H.write ?_
  simp only [f_law04_write_B, enter, List.length_cons, List.length_nil, List.replicate, Nat.reduceAdd, Nat.reduceSub, List.cons_append, List.nil_append]
  simp (disch := first | (simp only [ne_eq, reduceCtorEq, not_false_eq_true, implies_true, List.getElem?_cons_zero, List.getElem?_cons_succ]; done) | omega) only [WS, St.guard, St.put, evalO, reduceCtorEq, reduceIte, Nat.reduceAdd, Nat.reduceEqDiff, new_s, virtBlk_eq, box_s, box_vs, box_vi, box_vb, px_load_l, px_load_o, loadB_s, storeX, storeB_s, alloc_s, lay, whole, Option.join_some, List.drop_zero, List.drop_succ_cons, List.take_succ_cons, List.take_zero, List.drop_nil, List.nil_append, List.cons_append, Nat.reduceLeDiff, Nat.zero_add, and_self, and_true, cells_int, cells_bool, cells_str, cells_string, cells_agg, cells_own, cells_ro, cells_ptr, cells_nil, AV.lf.lfs, AV.lf, px_build, fills, build_string, build_str, build_int, WDR_some, Nat.reduceLeDiff, Nat.le_refl, Bool.and_self]
  refine WC_count (fun i => ⟨f_law04_write_H0 a (.own (.l 0) (writeB (xs.take i)).length 0 (writeB (xs.take i)).length 1 none) (.v (.int .i64 (i : Nat))), ⟨G, [byteB (writeB (xs.take i)), none, none, none, none, none, none]⟩⟩) xs.length ?_ (fun i hi => ?_) ?_
  · exact clear_fre (by simp only [clear_nil, List.foldl_cons, List.foldl_nil, Option.some.injEq, List.map_cons, List.map_nil, List.getD_cons_zero, List.getD_cons_succ, List.set_cons_zero, List.set_cons_succ, Option.map_some, Option.bind_some, ne_eq, reduceCtorEq, not_false_eq_true, implies_true, beq_self_eq_true, BEq.rfl, if_true, if_false, Bool.false_eq_true, not_true_eq_false, Option.some.injEq, reduceIte, Bool.not_true, Bool.not_false, beq_true, beq_false, Bool.true_and, Bool.and_true, Bool.false_and, Bool.and_false, true_and, List.getElem?_cons_zero, List.getElem?_cons_succ, List.length_cons, List.length_nil, Nat.reduceAdd] <;> rfl) (by rfl) (by simp only [f_law04_write_H0, List.all_cons, List.all_nil, noRef_v, noRef_dead, noRef_own, noRef_ptr, noRef_nil, Bool.and_true, Bool.true_and, Bool.and_self, List.contains_cons, List.contains_nil, Bool.or_false, Nat.reduceBEq, Bool.not_false, na]) (by rfl)
  · have hlt' : (i : Int) < (xs.length : Int) := by omega
    have hxi : xs[i]? = some xs[i] := List.getElem?_eq_getElem hi
    have hok := hx _ (List.mem_of_getElem? hxi)
    generalize xs[i] = x at *
    have q := fun L => st_at (v L) hxi
    have hn := hok.1
    have hs := hok.2
    have hnext : writeB (xs.take (i + 1)) = writeB (xs.take i) ++ stepB x := by unfold writeB; rw [List.take_add_one, hxi, List.flatMap_append]; simp
    have hlen : (writeB (xs.take i)).length ≤ 309 * 40 := Nat.le_trans (writeB_len fun y hy => hx y (List.mem_of_mem_take hy)) (by rw [List.length_take]; omega)
    have hsl := stepB_len hok
    have hsp := stepB_pos (x := x)
    generalize writeB (xs.take i) = out at *
    have eB : byteB (out ++ stepB x) = some (dBlk ((out ++ stepB x).map byteAV) true false) := by unfold byteB; rw [decide_eq_false (by rw [List.length_append]; omega)]
    simp (disch := first | (simp only [ne_eq, reduceCtorEq, not_false_eq_true, implies_true, List.getElem?_cons_zero, List.getElem?_cons_succ]; done) | omega) only [f_law04_write_L0, f_law04_write_H0, WS, St.guard, St.put, evalO, reduceCtorEq, reduceIte, Nat.reduceAdd, Nat.reduceEqDiff, (v _).lenSlice, hlt', decide_true, (q _).ix, (q _).ld]
    refine (WP_p (x := .int .i64 (umod x.kind 3 : Nat)) (by exact kind_spec H.kind) (by exact ⟨dBlk_good, trivial⟩)).2 ?_
    have h3 := umod_lt (c := x.kind) (n := 3) (by omega)
    have hsb : stepB x = if umod x.kind 3 = 0 then numB x.n.toNat else if umod x.kind 3 = 1 then textB x.s else flagB x.is := rfl
    rw [hnext]
    generalize umod x.kind 3 = k at *
    rcases (show k = 0 ∨ k = 1 ∨ k = 2 by omega) with rfl | rfl | rfl
    · rw [if_pos rfl] at hsb
      simp (disch := first | (simp only [ne_eq, reduceCtorEq, not_false_eq_true, implies_true, List.getElem?_cons_zero, List.getElem?_cons_succ]; done) | omega) only [WS, St.guard, St.put, evalO, reduceCtorEq, reduceIte, Nat.reduceAdd, Nat.reduceEqDiff, Int.reduceBEq, (q _).ix, (q _).f3, (q _).l3]
      refine WP_news (by exact refNum_spec H.rnum hn) (data1 dBlk_l) rfl (by decide) rfl (by exact ⟨dBlk_good, trivial⟩) (by exact ren_own1) ?_
      rw [← hsb]
      simp (disch := first | (simp only [ne_eq, reduceCtorEq, not_false_eq_true, implies_true, List.getElem?_cons_zero, List.getElem?_cons_succ]; done) | omega) only [WS, St.guard, St.put, evalO, reduceCtorEq, reduceIte, Nat.reduceAdd, Nat.reduceEqDiff, new_s, virtBlk_eq, box_s, box_vs, box_vi, box_vb, px_load_l, px_load_o, loadB_s, storeX, storeB_s, alloc_s, lay, whole, Option.join_some, List.drop_zero, List.drop_succ_cons, List.take_succ_cons, List.take_zero, List.drop_nil, List.nil_append, List.cons_append, Nat.reduceLeDiff, Nat.zero_add, and_self, and_true, cells_int, cells_bool, cells_str, cells_string, cells_agg, cells_own, cells_ro, cells_ptr, cells_nil, AV.lf.lfs, AV.lf, px_build, fills, build_string, build_str, build_int, WDR_some, Nat.reduceLeDiff, Nat.le_refl, Bool.and_self, putAll, byteB]
      refine (WR_eq (append_v (j := 0) (cs := stepB x) (by exact rfl) (by exact own_view1 (j := 1) rfl (by simp) (by simp)) hsp (by omega))).2 ?_
      simp (disch := first | (simp only [ne_eq, reduceCtorEq, not_false_eq_true, implies_true, List.getElem?_cons_zero, List.getElem?_cons_succ]; done) | omega) only [WS, St.guard, St.put, evalO, reduceCtorEq, reduceIte, Nat.reduceAdd, Nat.reduceEqDiff, new_s, virtBlk_eq, box_s, box_vs, box_vi, box_vb, px_load_l, px_load_o, loadB_s, storeX, storeB_s, alloc_s, lay, whole, Option.join_some, List.drop_zero, List.drop_succ_cons, List.take_succ_cons, List.take_zero, List.drop_nil, List.nil_append, List.cons_append, Nat.reduceLeDiff, Nat.zero_add, and_self, and_true, cells_int, cells_bool, cells_str, cells_string, cells_agg, cells_own, cells_ro, cells_ptr, cells_nil, AV.lf.lfs, AV.lf, px_build, fills, build_string, build_str, build_int, WDR_some, Nat.reduceLeDiff, Nat.le_refl, Bool.and_self, vBin_add_i64]
      exact clear_fre (by simp only [clear_nil, List.foldl_cons, List.foldl_nil, Option.some.injEq, List.map_cons, List.map_nil, List.getD_cons_zero, List.getD_cons_succ, List.set_cons_zero, List.set_cons_succ, Option.map_some, Option.bind_some, ne_eq, reduceCtorEq, not_false_eq_true, implies_true, beq_self_eq_true, BEq.rfl, if_true, if_false, Bool.false_eq_true, not_true_eq_false, Option.some.injEq, reduceIte, Bool.not_true, Bool.not_false, beq_true, beq_false, Bool.true_and, Bool.and_true, Bool.false_and, Bool.and_false, true_and, List.getElem?_cons_zero, List.getElem?_cons_succ, List.length_cons, List.length_nil, Nat.reduceAdd, List.length_append] <;> rfl) (by rw [← byteB, eB]; rfl) (by simp only [f_law04_write_H0, List.all_cons, List.all_nil, noRef_v, noRef_dead, noRef_own, noRef_ptr, noRef_nil, Bool.and_true, Bool.true_and, Bool.and_self, List.contains_cons, List.contains_nil, Bool.or_false, Nat.reduceBEq, Bool.not_false, na]) (by rfl)
    · rw [if_neg (by omega), if_pos rfl] at hsb
      simp (disch := first | (simp only [ne_eq, reduceCtorEq, not_false_eq_true, implies_true, List.getElem?_cons_zero, List.getElem?_cons_succ]; done) | omega) only [WS, St.guard, St.put, evalO, reduceCtorEq, reduceIte, Nat.reduceAdd, Nat.reduceEqDiff, Int.reduceBEq, (q _).ix, (q _).f4, (q _).l4]
      refine WP_news (by exact refText_spec H.toPackLib hs) (data1 dBlk_l) rfl (by decide) rfl (by exact ⟨dBlk_good, trivial⟩) (by exact ren_own1) ?_
      rw [← hsb]
      simp (disch := first | (simp only [ne_eq, reduceCtorEq, not_false_eq_true, implies_true, List.getElem?_cons_zero, List.getElem?_cons_succ]; done) | omega) only [WS, St.guard, St.put, evalO, reduceCtorEq, reduceIte, Nat.reduceAdd, Nat.reduceEqDiff, new_s, virtBlk_eq, box_s, box_vs, box_vi, box_vb, px_load_l, px_load_o, loadB_s, storeX, storeB_s, alloc_s, lay, whole, Option.join_some, List.drop_zero, List.drop_succ_cons, List.take_succ_cons, List.take_zero, List.drop_nil, List.nil_append, List.cons_append, Nat.reduceLeDiff, Nat.zero_add, and_self, and_true, cells_int, cells_bool, cells_str, cells_string, cells_agg, cells_own, cells_ro, cells_ptr, cells_nil, AV.lf.lfs, AV.lf, px_build, fills, build_string, build_str, build_int, WDR_some, Nat.reduceLeDiff, Nat.le_refl, Bool.and_self, putAll, byteB]
      refine (WR_eq (append_v (j := 0) (cs := stepB x) (by exact rfl) (by exact own_view1 (j := 3) rfl (by simp) (by simp)) hsp (by omega))).2 ?_
      simp (disch := first | (simp only [ne_eq, reduceCtorEq, not_false_eq_true, implies_true, List.getElem?_cons_zero, List.getElem?_cons_succ]; done) | omega) only [WS, St.guard, St.put, evalO, reduceCtorEq, reduceIte, Nat.reduceAdd, Nat.reduceEqDiff, new_s, virtBlk_eq, box_s, box_vs, box_vi, box_vb, px_load_l, px_load_o, loadB_s, storeX, storeB_s, alloc_s, lay, whole, Option.join_some, List.drop_zero, List.drop_succ_cons, List.take_succ_cons, List.take_zero, List.drop_nil, List.nil_append, List.cons_append, Nat.reduceLeDiff, Nat.zero_add, and_self, and_true, cells_int, cells_bool, cells_str, cells_string, cells_agg, cells_own, cells_ro, cells_ptr, cells_nil, AV.lf.lfs, AV.lf, px_build, fills, build_string, build_str, build_int, WDR_some, Nat.reduceLeDiff, Nat.le_refl, Bool.and_self, vBin_add_i64]
      exact clear_fre (by simp only [clear_nil, List.foldl_cons, List.foldl_nil, Option.some.injEq, List.map_cons, List.map_nil, List.getD_cons_zero, List.getD_cons_succ, List.set_cons_zero, List.set_cons_succ, Option.map_some, Option.bind_some, ne_eq, reduceCtorEq, not_false_eq_true, implies_true, beq_self_eq_true, BEq.rfl, if_true, if_false, Bool.false_eq_true, not_true_eq_false, Option.some.injEq, reduceIte, Bool.not_true, Bool.not_false, beq_true, beq_false, Bool.true_and, Bool.and_true, Bool.false_and, Bool.and_false, true_and, List.getElem?_cons_zero, List.getElem?_cons_succ, List.length_cons, List.length_nil, Nat.reduceAdd, List.length_append] <;> rfl) (by rw [← byteB, eB]; rfl) (by simp only [f_law04_write_H0, List.all_cons, List.all_nil, noRef_v, noRef_dead, noRef_own, noRef_ptr, noRef_nil, Bool.and_true, Bool.true_and, Bool.and_self, List.contains_cons, List.contains_nil, Bool.or_false, Nat.reduceBEq, Bool.not_false, na]) (by rfl)
    · rw [if_neg (by omega), if_neg (by omega)] at hsb
      simp (disch := first | (simp only [ne_eq, reduceCtorEq, not_false_eq_true, implies_true, List.getElem?_cons_zero, List.getElem?_cons_succ]; done) | omega) only [WS, St.guard, St.put, evalO, reduceCtorEq, reduceIte, Nat.reduceAdd, Nat.reduceEqDiff, Int.reduceBEq, (q _).ix, (q _).f5, (q _).l5]
      refine WP_news (by exact refFlag_spec H.toPackLib) (data1 dBlk_l) rfl (by decide) rfl (by exact ⟨dBlk_good, trivial⟩) (by exact ren_own1) ?_
      rw [← hsb]
      simp (disch := first | (simp only [ne_eq, reduceCtorEq, not_false_eq_true, implies_true, List.getElem?_cons_zero, List.getElem?_cons_succ]; done) | omega) only [WS, St.guard, St.put, evalO, reduceCtorEq, reduceIte, Nat.reduceAdd, Nat.reduceEqDiff, new_s, virtBlk_eq, box_s, box_vs, box_vi, box_vb, px_load_l, px_load_o, loadB_s, storeX, storeB_s, alloc_s, lay, whole, Option.join_some, List.drop_zero, List.drop_succ_cons, List.take_succ_cons, List.take_zero, List.drop_nil, List.nil_append, List.cons_append, Nat.reduceLeDiff, Nat.zero_add, and_self, and_true, cells_int, cells_bool, cells_str, cells_string, cells_agg, cells_own, cells_ro, cells_ptr, cells_nil, AV.lf.lfs, AV.lf, px_build, fills, build_string, build_str, build_int, WDR_some, Nat.reduceLeDiff, Nat.le_refl, Bool.and_self, putAll, byteB]
      refine (WR_eq (append_v (j := 0) (cs := stepB x) (by exact rfl) (by exact own_view1 (j := 5) rfl (by simp) (by simp)) hsp (by omega))).2 ?_
      simp (disch := first | (simp only [ne_eq, reduceCtorEq, not_false_eq_true, implies_true, List.getElem?_cons_zero, List.getElem?_cons_succ]; done) | omega) only [WS, St.guard, St.put, evalO, reduceCtorEq, reduceIte, Nat.reduceAdd, Nat.reduceEqDiff, new_s, virtBlk_eq, box_s, box_vs, box_vi, box_vb, px_load_l, px_load_o, loadB_s, storeX, storeB_s, alloc_s, lay, whole, Option.join_some, List.drop_zero, List.drop_succ_cons, List.take_succ_cons, List.take_zero, List.drop_nil, List.nil_append, List.cons_append, Nat.reduceLeDiff, Nat.zero_add, and_self, and_true, cells_int, cells_bool, cells_str, cells_string, cells_agg, cells_own, cells_ro, cells_ptr, cells_nil, AV.lf.lfs, AV.lf, px_build, fills, build_string, build_str, build_int, WDR_some, Nat.reduceLeDiff, Nat.le_refl, Bool.and_self, vBin_add_i64]
      exact clear_fre (by simp only [clear_nil, List.foldl_cons, List.foldl_nil, Option.some.injEq, List.map_cons, List.map_nil, List.getD_cons_zero, List.getD_cons_succ, List.set_cons_zero, List.set_cons_succ, Option.map_some, Option.bind_some, ne_eq, reduceCtorEq, not_false_eq_true, implies_true, beq_self_eq_true, BEq.rfl, if_true, if_false, Bool.false_eq_true, not_true_eq_false, Option.some.injEq, reduceIte, Bool.not_true, Bool.not_false, beq_true, beq_false, Bool.true_and, Bool.and_true, Bool.false_and, Bool.and_false, true_and, List.getElem?_cons_zero, List.getElem?_cons_succ, List.length_cons, List.length_nil, Nat.reduceAdd, List.length_append] <;> rfl) (by rw [← byteB, eB]; rfl) (by simp only [f_law04_write_H0, List.all_cons, List.all_nil, noRef_v, noRef_dead, noRef_own, noRef_ptr, noRef_nil, Bool.and_true, Bool.true_and, Bool.and_self, List.contains_cons, List.contains_nil, Bool.or_false, Nat.reduceBEq, Bool.not_false, na]) (by rfl)
  · simp (disch := first | (simp only [ne_eq, reduceCtorEq, not_false_eq_true, implies_true, List.getElem?_cons_zero, List.getElem?_cons_succ]; done) | omega) only [f_law04_write_L0, f_law04_write_H0, WS, St.guard, St.put, evalO, reduceCtorEq, reduceIte, Nat.reduceAdd, Nat.reduceEqDiff, (v _).lenSlice, decide_false, fin_tmp, or_true, List.take_length]
    exact leave_own1 (by rfl) (by rfl)
end Go.AM
namespace Go.AM
variable {prog : String → Option IFn}
theorem CloneC {nm} (hf : prog nm = some f_bytes_Clone) {G a} {bs : Txt} (w : ∀ L, View ⟨G, L⟩ a 1 bs.length (bs.map byteAV)) (hn : ∀ L, (⟨G, L⟩ : Hp).isNil .slice a = some false) (h0 : 0 < bs.length) (hr : bs.length ≤ room) :
    Ev prog (.call nm [a] G) (.ret (.own (.o G.length) bs.length 0 bs.length 1 none) (G ++ [some (dBlk (bs.map byteAV) true false)])) := by
  refine call_of_fin hf ?_
  simp only [f_bytes_Clone_B, enter, List.length_cons, List.length_nil, List.replicate, Nat.reduceAdd, Nat.reduceSub, List.cons_append, List.nil_append]
  simp (disch := first | (simp only [ne_eq, reduceCtorEq, not_false_eq_true, implies_true]; done) | omega) only [WS, St.guard, St.put, evalO, reduceCtorEq, reduceIte, Nat.reduceAdd, Nat.reduceEqDiff, isNilV, hn]
  rw [build0 rfl]
  simp (disch := first | (simp only [ne_eq, reduceCtorEq, not_false_eq_true, implies_true]; done) | omega) only [WS, St.guard, St.put, evalO, reduceCtorEq, reduceIte, Nat.reduceAdd, Nat.reduceEqDiff]
  rw [append_cap0 (j := 0) (site := 1) rfl rfl (w _) bytes_lfs h0 (by omega)]
  simp (disch := first | (simp only [ne_eq, reduceCtorEq, not_false_eq_true, implies_true]; done) | omega) only [WS, St.guard, St.put, evalO, reduceCtorEq, reduceIte, Nat.reduceAdd, Nat.reduceEqDiff, fin_tmp]
  exact ⟨by simp, leave_own1 (j := 1) rfl rfl⟩
theorem CloneNil {nm} (hf : prog nm = some f_bytes_Clone) {G a} (hn : ∀ L, (⟨G, L⟩ : Hp).isNil .slice a = some true) :
    Ev prog (.call nm [a] G) (.ret (.v (.slice none 0 0)) G) := by
  refine call_of_fin hf ?_
  simp only [f_bytes_Clone_B, enter, List.length_cons, List.length_nil, List.replicate, Nat.reduceAdd, Nat.reduceSub, List.cons_append, List.nil_append]
  simp (disch := first | (simp only [ne_eq, reduceCtorEq, not_false_eq_true, implies_true]; done) | omega) only [WS, St.guard, St.put, evalO, reduceCtorEq, reduceIte, Nat.reduceAdd, Nat.reduceEqDiff, isNilV, hn, fin_tmp, leave_v]
  simp
structure Law4 (prog : String → Option IFn) : Prop extends Write4 prog where
  awake : prog "haberdash/haberdashlaw04.awake" = some f_law04_awake
  bytes : prog "haberdash/haberdashhelp.Bytes" = some f_help_Bytes
def fs4 : List (String × IFn) := [
  ("haberdash/haberdashlaw04.awake", f_law04_awake), ("haberdash/haberdashhelp.Bytes", f_help_Bytes), ("(*haberdash/pack.Writer).Num", f___pack_Writer__Num), ("(*haberdash/pack.Writer).Text", f___pack_Writer__Text),
  ("(*haberdash/pack.Writer).Bytes", f___pack_Writer__Bytes), ("slices.Clone[[]byte,byte]", f_slices_Clone___byte_byte_), ("haberdash/pack.Read", f_pack_Read), ("(*haberdash/pack.Reader).Num", f___pack_Reader__Num),
  ("(*haberdash/pack.Reader).Err", f___pack_Reader__Err), ("(*haberdash/pack.Reader).End", f___pack_Reader__End), ("(*haberdash/pack.Reader).length", f___pack_Reader__length), ("(*haberdash/pack.Reader).fail", f___pack_Reader__fail)]
theorem aw4_6 : run (look fs4) 400 (.call "haberdash/haberdashlaw04.awake" [] (List.replicate 6 none)) = some (.ret (.v (.bool true)) (List.replicate 6 none)) := by kernel_rfl
theorem aw4_4 : run (look fs4) 400 (.call "haberdash/haberdashlaw04.awake" [] (List.replicate 4 none)) = some (.ret (.v (.bool true)) (List.replicate 4 none)) := by kernel_rfl
theorem aw4_10 : run (look fs4) 400 (.call "haberdash/haberdashlaw04.awake" [] (List.replicate 10 none)) = some (.ret (.v (.bool true)) (List.replicate 10 none)) := by kernel_rfl
theorem aw4_1 : run (look fs4) 400 (.call "haberdash/haberdashlaw04.awake" [] (List.replicate 1 none)) = some (.ret (.v (.bool true)) (List.replicate 1 none)) := by kernel_rfl
theorem Law4.fs (H : Law4 prog) : Holds prog fs4 := ⟨H.awake, H.bytes, H.wnum, H.wtext, H.wbytes, H.clone, H.read, H.rdnum, H.rderr, H.rdend, H.rdlen, H.rdfail, trivial⟩
theorem awake4 (H : Law4 prog) {G} (hG : G.length = 1 ∨ G.length = 4 ∨ G.length = 6 ∨ G.length = 10) : Ev prog (.call "haberdash/haberdashlaw04.awake" [] G) (.ret (.v (.bool true)) G) := by
  rcases hG with h | h | h | h
  · exact ev_run H.fs h aw4_1
  · exact ev_run H.fs h aw4_4
  · exact ev_run H.fs h aw4_6
  · exact ev_run H.fs h aw4_10
end Go.AM
