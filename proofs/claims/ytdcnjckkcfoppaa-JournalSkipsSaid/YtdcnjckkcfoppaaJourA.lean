import Derived.Test.YtdcnjckkcfoppaaAMA
import Derived.Test.YtdcnjckkcfoppaaCrc
import Derived.Test.YtdcnjckkcfoppaaLeafA
import Derived.Test.YtdcnjckkcfoppaaHelp
import Derived.Test.YtdcnjckkcfoppaaScopeA
import Derived.Test.YtdcnjckkcfoppaaSortA
import Derived.Test.YtdcnjckkcfoppaaPackA
import Derived.Test.YtdcnjckkcfoppaaDiskA
set_option linter.unusedVariables false
set_option linter.unusedSimpArgs false
namespace Go.AM
def f_law08_JournalNeeds_L0 : ICode :=
  (.seq
    (.seq
      (.ops [
        ⟨some 39, .id, [.t 11], none, [], [], false⟩,
        ⟨some 40, .id, [.t 1], none, [], [], false⟩,
        ⟨some 41, .lenSlice, [.t 40], none, [], [], false⟩,
        ⟨some 42, .bin .lss, [.t 39, .t 41], none, [], [], false⟩,
        ⟨some 43, .id, [.t 42], none, [], [], false⟩,
        ⟨some 44, .id, [.t 11], (some (43, true)), [], [], false⟩,
        ⟨some 45, .bin .lss, [.t 44, .c (.int .i64 30)], (some (43, true)), [], [], false⟩,
        ⟨some 46, .pick, [.t 43, .t 45, .c (.bool false)], none, [], [], false⟩])
      (.cond (.t 46)
        .skip
        (.exit 0)))
    (.seq
      (.block 1
        (.seq
          (.ops [
            ⟨some 49, .id, [.t 1], none, [], [], false⟩,
            ⟨some 50, .id, [.t 11], none, [], [], false⟩,
            ⟨some 51, .indexAddr 1, [.t 49, .t 50], none, [], [], false⟩,
            ⟨some 52, .load 1 false, [.t 51], none, [], [], false⟩,
            ⟨some 53, .call "haberdash/haberdashplay.Mod" [], [.t 52, .c (.int .i64 200)], none, [], [], false⟩,
            ⟨some 54, .bin .add, [.c (.int .i64 1), .t 53], none, [], [], false⟩,
            ⟨some 12, .id, [.t 54], none, [], [], false⟩])
          (.seq
            (.ops [
              ⟨some 55, .id, [.t 12], none, [], [], false⟩,
              ⟨some 56, .bin .add, [.t 55, .c (.int .i64 45)], none, [], [], false⟩,
              ⟨some 57, .bin .quo, [.t 56, .c (.int .i64 46)], none, [], [], false⟩,
              ⟨some 13, .id, [.t 57], none, [], [], false⟩])
            (.seq
              (.ops [
                ⟨some 58, .id, [.t 7], none, [], [], false⟩,
                ⟨some 59, .id, [.t 12], none, [], [], false⟩,
                ⟨some 60, .makeSlice 6 1 1 [(.int .u8 0)], [.t 59, .t 59], none, [], [], false⟩,
                ⟨some 61, .call "(*haberdash/journal.Journal).Add" [], [.t 58, .t 60], none, [], [], false⟩,
                ⟨some 14, .id, [.t 61], none, [], [], false⟩])
              (.seq
                (.seq
                  (.ops [
                    ⟨some 62, .id, [.t 12], none, [], [], false⟩,
                    ⟨some 63, .call "haberdash/journal.Need" [], [.t 62], none, [], [], false⟩,
                    ⟨some 64, .id, [.t 13], none, [], [], false⟩,
                    ⟨some 65, .bin .neq, [.t 63, .t 64], none, [], [], false⟩,
                    ⟨some 66, .id, [.t 65], none, [], [], false⟩,
                    ⟨some 67, .id, [.t 14], (some (66, false)), [], [], false⟩,
                    ⟨some 68, .bin .eql, [.t 67, .c (.int .i64 0)], (some (66, false)), [], [], false⟩,
                    ⟨some 69, .id, [.t 9], (some (66, false)), [], [], false⟩,
                    ⟨some 70, .id, [.t 13], (some (66, false)), [], [], false⟩,
                    ⟨some 71, .bin .add, [.t 69, .t 70], (some (66, false)), [], [], false⟩,
                    ⟨some 72, .id, [.t 0], (some (66, false)), [], [], false⟩,
                    ⟨some 73, .bin .leq, [.t 71, .t 72], (some (66, false)), [], [], false⟩,
                    ⟨some 74, .eqBool true, [.t 68, .t 73], (some (66, false)), [], [], false⟩,
                    ⟨some 75, .pick, [.t 66, .c (.bool true), .t 74], none, [], [], false⟩,
                    ⟨some 76, .id, [.t 75], none, [], [], false⟩,
                    ⟨some 77, .id, [.t 14], (some (76, false)), [], [], false⟩,
                    ⟨some 78, .bin .neq, [.t 77, .c (.int .i64 0)], (some (76, false)), [], [], false⟩,
                    ⟨some 79, .id, [.t 78], (some (76, false)), [], [], false⟩,
                    ⟨some 80, .id, [.t 14], (some (79, true)), [], [], false⟩,
                    ⟨some 81, .bin .neq, [.t 80, .c (.int .i64 6)], (some (79, true)), [], [], false⟩,
                    ⟨some 82, .pick, [.t 79, .t 81, .c (.bool false)], (some (76, false)), [], [], false⟩,
                    ⟨some 83, .pick, [.t 76, .c (.bool true), .t 82], none, [], [], false⟩])
                  (.cond (.t 83)
                    (.seq
                      (.ops [
                        ⟨some 4, .id, [.c (.bool false)], none, [], [], false⟩])
                      .ret)
                    .skip))
                (.seq
                  (.seq
                    (.ops [
                      ⟨some 84, .id, [.t 14], none, [], [], false⟩,
                      ⟨some 85, .bin .eql, [.t 84, .c (.int .i64 0)], none, [], [], false⟩])
                    (.cond (.t 85)
                      (.ops [
                        ⟨some 86, .id, [.t 9], none, [], [], false⟩,
                        ⟨some 87, .id, [.t 13], none, [], [], false⟩,
                        ⟨some 88, .bin .add, [.t 86, .t 87], none, [], [], false⟩,
                        ⟨some 89, .id, [.t 10], none, [], [], false⟩,
                        ⟨some 90, .bin .add, [.t 89, .c (.int .i64 1)], none, [], [], false⟩,
                        ⟨some 9, .id, [.t 88], none, [], [], false⟩,
                        ⟨some 10, .id, [.t 90], none, [], [], false⟩])
                      .skip))
                  (.seq
                    (.ops [
                      ⟨some 91, .id, [.t 7], none, [], [], false⟩,
                      ⟨some 92, .call "(*haberdash/journal.Journal).Used" [], [.t 91], none, [], [], false⟩,
                      ⟨some 93, .id, [.t 9], none, [], [], false⟩,
                      ⟨some 94, .bin .neq, [.t 92, .t 93], none, [], [], false⟩,
                      ⟨some 95, .id, [.t 94], none, [], [], false⟩,
                      ⟨some 96, .id, [.t 7], (some (95, false)), [], [], false⟩,
                      ⟨some 97, .call "(*haberdash/journal.Journal).Records" [7], [.t 96], (some (95, false)), [], [], false⟩,
                      ⟨some 98, .lenSlice, [.t 97], (some (95, false)), [], [], false⟩,
                      ⟨some 99, .id, [.t 10], (some (95, false)), [], [], false⟩,
                      ⟨some 100, .bin .neq, [.t 98, .t 99], (some (95, false)), [], [], false⟩,
                      ⟨some 101, .pick, [.t 95, .c (.bool true), .t 100], none, [], [], false⟩])
                    (.cond (.t 101)
                      (.seq
                        (.ops [
                          ⟨some 4, .id, [.c (.bool false)], none, [], [], false⟩])
                        .ret)
                      .skip))))))))
      (.ops [
        ⟨some 47, .id, [.t 11], none, [], [], false⟩,
        ⟨some 48, .bin .add, [.t 47, .c (.int .i64 1)], none, [], [], false⟩,
        ⟨some 11, .id, [.t 48], none, [], [], false⟩])))
def f_law08_JournalNeeds_B : ICode :=
  (.seq
    (.ops [
      ⟨some 4, .id, [.c (.bool false)], none, [], [], false⟩])
    (.seq
      (.ops [
        ⟨some 15, .id, [.t 0], none, [], [], false⟩,
        ⟨some 16, .call "haberdash/haberdashplay.Mod" [], [.t 15, .c (.int .i64 20)], none, [], [], false⟩,
        ⟨some 17, .bin .add, [.c (.int .i64 1), .t 16], none, [], [], false⟩,
        ⟨some 0, .id, [.t 17], none, [], [], false⟩])
      (.seq
        (.ops [
          ⟨some 19, .id, [.t 0], none, [], [], false⟩,
          ⟨some 20, .call "haberdash/disk.New" [0, 1, 2, 3], [.t 19], none, [], [], false⟩,
          ⟨some 18, .id, [.t 20], none, [], [], false⟩,
          ⟨some 21, .extract 0, [.t 18], none, [], [], false⟩,
          ⟨some 22, .extract 1, [.t 18], none, [], [], false⟩,
          ⟨some 5, .id, [.t 21], none, [], [], false⟩,
          ⟨some 6, .id, [.t 22], none, [], [], false⟩])
        (.seq
          (.ops [
            ⟨some 24, .id, [.t 5], none, [], [], false⟩,
            ⟨some 25, .id, [.t 0], none, [], [], false⟩,
            ⟨some 26, .call "haberdash/journal.New" [4, 5], [.t 24, .c (.int .i64 0), .t 25, .c (.int .u32 1)], none, [], [], false⟩,
            ⟨some 23, .id, [.t 26], none, [], [], false⟩,
            ⟨some 27, .extract 0, [.t 23], none, [], [], false⟩,
            ⟨some 28, .extract 1, [.t 23], none, [], [], false⟩,
            ⟨some 7, .id, [.t 27], none, [], [], false⟩,
            ⟨some 8, .id, [.t 28], none, [], [], false⟩])
          (.seq
            (.seq
              (.ops [
                ⟨some 29, .call "haberdash/haberdashlaw08.awake" [], [], none, [], [], false⟩,
                ⟨some 30, .un .not, [.t 29], none, [], [], false⟩,
                ⟨some 31, .id, [.t 30], none, [], [], false⟩,
                ⟨some 32, .id, [.t 8], (some (31, false)), [], [], false⟩,
                ⟨some 33, .bin .neq, [.t 32, .c (.int .i64 0)], (some (31, false)), [], [], false⟩,
                ⟨some 34, .pick, [.t 31, .c (.bool true), .t 33], none, [], [], false⟩,
                ⟨some 35, .id, [.t 34], none, [], [], false⟩,
                ⟨some 36, .id, [.t 7], (some (35, false)), [], [], false⟩,
                ⟨some 37, .eqNil false .ptr, [.t 36, .c (.pointer none)], (some (35, false)), [], [], false⟩,
                ⟨some 38, .pick, [.t 35, .c (.bool true), .t 37], none, [], [], false⟩])
              (.cond (.t 38)
                (.seq
                  (.ops [
                    ⟨some 4, .id, [.c (.bool false)], none, [], [], false⟩])
                  .ret)
                .skip))
            (.seq
              (.ops [
                ⟨some 9, .id, [.c (.int .i64 0)], none, [], [], false⟩,
                ⟨some 10, .id, [.c (.int .i64 0)], none, [], [], false⟩])
              (.seq
                (.seq
                  (.ops [
                    ⟨some 11, .id, [.c (.int .i64 0)], none, [], [], false⟩])
                  (.block 0
                    (.loop [2, 3, 4, 5, 6, 8, 12, 13, 14, 15, 16, 17, 18, 19, 20, 21, 22, 23, 24, 25, 26, 27, 28, 29, 30, 31, 32, 33, 34, 35, 36, 37, 38, 39, 40, 41, 42, 43, 44, 45, 46, 47, 48, 49, 50, 51, 52, 53, 54, 55, 56, 57, 58, 59, 60, 61, 62, 63, 64, 65, 66, 67, 68, 69, 70, 71, 72, 73, 74, 75, 76, 77, 78, 79, 80, 81, 82, 83, 84, 85, 86, 87, 88, 89, 90, 91, 92, 93, 94, 95, 96, 97, 98, 99, 100, 101, 102, 103, 104, 105, 106, 107, 108] [6, 7] f_law08_JournalNeeds_L0)))
                (.seq
                  (.ops [
                    ⟨some 102, .id, [.t 7], none, [], [], false⟩,
                    ⟨some 103, .call "(*haberdash/journal.Journal).Add" [], [.t 102, .c (.slice none 0 0)], none, [], [], false⟩,
                    ⟨some 104, .bin .eql, [.t 103, .c (.int .i64 2)], none, [], [], false⟩,
                    ⟨some 105, .id, [.t 104], none, [], [], false⟩,
                    ⟨some 106, .call "haberdash/journal.Need" [], [.c (.int .i64 0)], (some (105, true)), [], [], false⟩,
                    ⟨some 107, .bin .eql, [.t 106, .c (.int .i64 0)], (some (105, true)), [], [], false⟩,
                    ⟨some 108, .pick, [.t 105, .t 107, .c (.bool false)], none, [], [], false⟩,
                    ⟨some 4, .id, [.t 108], none, [], [], false⟩])
                  .ret))))))))
def f_law08_JournalNeeds : IFn := ⟨109, 8, [.tmp 4], f_law08_JournalNeeds_B⟩
def f_law08_JournalSkips_B : ICode :=
  (.seq
    (.ops [
      ⟨some 4, .id, [.c (.bool false)], none, [], [], false⟩])
    (.seq
      (.seq
        (.ops [
          ⟨some 15, .id, [.t 0], none, [], [], false⟩,
          ⟨some 16, .lenSlice, [.t 15], none, [], [], false⟩,
          ⟨some 17, .bin .gtr, [.t 16, .c (.int .i64 10)], none, [], [], false⟩,
          ⟨some 18, .id, [.t 17], none, [], [], false⟩,
          ⟨some 19, .id, [.t 1], (some (18, false)), [], [], false⟩,
          ⟨some 20, .lenSlice, [.t 19], (some (18, false)), [], [], false⟩,
          ⟨some 21, .bin .gtr, [.t 20, .c (.int .i64 10)], (some (18, false)), [], [], false⟩,
          ⟨some 22, .pick, [.t 18, .c (.bool true), .t 21], none, [], [], false⟩])
        (.cond (.t 22)
          (.seq
            (.ops [
              ⟨some 23, .call "haberdash/haberdashlaw08.awake" [], [], none, [], [], false⟩,
              ⟨some 4, .id, [.t 23], none, [], [], false⟩])
            .ret)
          .skip))
      (.seq
        (.ops [
          ⟨some 25, .call "haberdash/disk.New" [0, 1, 2, 3], [.c (.int .i64 90)], none, [], [], false⟩,
          ⟨some 24, .id, [.t 25], none, [], [], false⟩,
          ⟨some 26, .extract 0, [.t 24], none, [], [], false⟩,
          ⟨some 27, .extract 1, [.t 24], none, [], [], false⟩,
          ⟨some 5, .id, [.t 26], none, [], [], false⟩,
          ⟨some 6, .id, [.t 27], none, [], [], false⟩])
        (.seq
          (.ops [
            ⟨some 29, .id, [.t 5], none, [], [], false⟩,
            ⟨some 30, .call "haberdash/journal.New" [4, 5], [.t 29, .c (.int .i64 0), .c (.int .i64 90), .c (.int .u32 3)], none, [], [], false⟩,
            ⟨some 28, .id, [.t 30], none, [], [], false⟩,
            ⟨some 31, .extract 0, [.t 28], none, [], [], false⟩,
            ⟨some 32, .extract 1, [.t 28], none, [], [], false⟩,
            ⟨some 7, .id, [.t 31], none, [], [], false⟩,
            ⟨some 8, .id, [.t 32], none, [], [], false⟩])
          (.seq
            (.seq
              (.ops [
                ⟨some 33, .call "haberdash/haberdashlaw08.awake" [], [], none, [], [], false⟩,
                ⟨some 34, .un .not, [.t 33], none, [], [], false⟩,
                ⟨some 35, .id, [.t 34], none, [], [], false⟩,
                ⟨some 36, .id, [.t 8], (some (35, false)), [], [], false⟩,
                ⟨some 37, .bin .neq, [.t 36, .c (.int .i64 0)], (some (35, false)), [], [], false⟩,
                ⟨some 38, .pick, [.t 35, .c (.bool true), .t 37], none, [], [], false⟩,
                ⟨some 39, .id, [.t 38], none, [], [], false⟩,
                ⟨some 40, .id, [.t 7], (some (39, false)), [], [], false⟩,
                ⟨some 41, .eqNil false .ptr, [.t 40, .c (.pointer none)], (some (39, false)), [], [], false⟩,
                ⟨some 42, .pick, [.t 39, .c (.bool true), .t 41], none, [], [], false⟩])
              (.cond (.t 42)
                (.seq
                  (.ops [
                    ⟨some 4, .id, [.c (.bool false)], none, [], [], false⟩])
                  .ret)
                .skip))
            (.seq
              (.ops [
                ⟨some 43, .id, [.t 7], none, [], [], false⟩,
                ⟨some 44, .id, [.t 0], none, [], [], false⟩,
                ⟨some 45, .call "haberdash/haberdashlaw08.put" [6], [.t 43, .c (.slice none 0 0), .t 44], none, [], [], false⟩])
              (.seq
                (.ops [
                  ⟨some 47, .id, [.t 5], none, [], [], false⟩,
                  ⟨some 48, .call "haberdash/journal.New" [7, 8], [.t 47, .c (.int .i64 0), .c (.int .i64 90), .c (.int .u32 4)], none, [], [], false⟩,
                  ⟨some 46, .id, [.t 48], none, [], [], false⟩,
                  ⟨some 49, .extract 0, [.t 46], none, [], [], false⟩,
                  ⟨some 50, .extract 1, [.t 46], none, [], [], false⟩,
                  ⟨some 9, .id, [.t 49], none, [], [], false⟩,
                  ⟨some 10, .id, [.t 50], none, [], [], false⟩])
                (.seq
                  (.seq
                    (.ops [
                      ⟨some 51, .id, [.t 10], none, [], [], false⟩,
                      ⟨some 52, .bin .neq, [.t 51, .c (.int .i64 0)], none, [], [], false⟩,
                      ⟨some 53, .id, [.t 52], none, [], [], false⟩,
                      ⟨some 54, .id, [.t 9], (some (53, false)), [], [], false⟩,
                      ⟨some 55, .eqNil false .ptr, [.t 54, .c (.pointer none)], (some (53, false)), [], [], false⟩,
                      ⟨some 56, .pick, [.t 53, .c (.bool true), .t 55], none, [], [], false⟩])
                    (.cond (.t 56)
                      (.seq
                        (.ops [
                          ⟨some 4, .id, [.c (.bool false)], none, [], [], false⟩])
                        .ret)
                      .skip))
                  (.seq
                    (.ops [
                      ⟨some 58, .id, [.t 9], none, [], [], false⟩,
                      ⟨some 59, .id, [.t 1], none, [], [], false⟩,
                      ⟨some 60, .call "haberdash/haberdashlaw08.put" [9], [.t 58, .c (.slice none 0 0), .t 59], none, [], [], false⟩,
                      ⟨some 57, .id, [.t 60], none, [], [], false⟩,
                      ⟨some 61, .extract 0, [.t 57], none, [], [], false⟩,
                      ⟨some 62, .extract 1, [.t 57], none, [], [], false⟩,
                      ⟨some 11, .id, [.t 61], none, [], [], false⟩,
                      ⟨some 12, .id, [.t 62], none, [], [], false⟩])
                    (.seq
                      (.ops [
                        ⟨some 64, .id, [.t 5], none, [], [], false⟩,
                        ⟨some 65, .call "haberdash/journal.Open" [10, 11], [.t 64, .c (.int .i64 0), .c (.int .i64 90), .c (.int .u32 5)], none, [], [], false⟩,
                        ⟨some 63, .id, [.t 65], none, [], [], false⟩,
                        ⟨some 66, .extract 0, [.t 63], none, [], [], false⟩,
                        ⟨some 67, .extract 1, [.t 63], none, [], [], false⟩,
                        ⟨some 13, .id, [.t 66], none, [], [], false⟩,
                        ⟨some 14, .id, [.t 67], none, [], [], false⟩])
                      (.seq
                        (.seq
                          (.ops [
                            ⟨some 68, .id, [.t 14], none, [], [], false⟩,
                            ⟨some 69, .bin .neq, [.t 68, .c (.int .i64 0)], none, [], [], false⟩,
                            ⟨some 70, .id, [.t 69], none, [], [], false⟩,
                            ⟨some 71, .id, [.t 13], (some (70, false)), [], [], false⟩,
                            ⟨some 72, .eqNil false .ptr, [.t 71, .c (.pointer none)], (some (70, false)), [], [], false⟩,
                            ⟨some 73, .pick, [.t 70, .c (.bool true), .t 72], none, [], [], false⟩,
                            ⟨some 74, .id, [.t 73], none, [], [], false⟩,
                            ⟨some 75, .id, [.t 12], (some (74, false)), [], [], false⟩,
                            ⟨some 76, .id, [.t 11], (some (74, false)), [], [], false⟩,
                            ⟨some 77, .lenSlice, [.t 76], (some (74, false)), [], [], false⟩,
                            ⟨some 78, .bin .neq, [.t 75, .t 77], (some (74, false)), [], [], false⟩,
                            ⟨some 79, .pick, [.t 74, .c (.bool true), .t 78], none, [], [], false⟩])
                          (.cond (.t 79)
                            (.seq
                              (.ops [
                                ⟨some 4, .id, [.c (.bool false)], none, [], [], false⟩])
                              .ret)
                            .skip))
                        (.seq
                          (.seq
                            (.ops [
                              ⟨some 80, .id, [.t 12], none, [], [], false⟩,
                              ⟨some 81, .bin .eql, [.t 80, .c (.int .i64 0)], none, [], [], false⟩])
                            (.cond (.t 81)
                              (.seq
                                (.ops [
                                  ⟨some 82, .id, [.t 13], none, [], [], false⟩,
                                  ⟨some 83, .call "(*haberdash/journal.Journal).Records" [12], [.t 82], none, [], [], false⟩,
                                  ⟨some 84, .lenSlice, [.t 83], none, [], [], false⟩,
                                  ⟨some 85, .id, [.t 0], none, [], [], false⟩,
                                  ⟨some 86, .lenSlice, [.t 85], none, [], [], false⟩,
                                  ⟨some 87, .bin .eql, [.t 84, .t 86], none, [], [], false⟩,
                                  ⟨some 4, .id, [.t 87], none, [], [], false⟩])
                                .ret)
                              .skip))
                          (.seq
                            (.ops [
                              ⟨some 88, .id, [.t 13], none, [], [], false⟩,
                              ⟨some 89, .call "(*haberdash/journal.Journal).Records" [13], [.t 88], none, [], [], false⟩,
                              ⟨some 90, .id, [.t 11], none, [], [], false⟩,
                              ⟨some 91, .call "haberdash/haberdashhelp.Rows" [], [.t 89, .t 90], none, [], [], false⟩,
                              ⟨some 92, .id, [.t 91], none, [], [], false⟩,
                              ⟨some 93, .id, [.t 13], (some (92, true)), [], [], false⟩,
                              ⟨some 94, .call "(*haberdash/journal.Journal).First" [], [.t 93], (some (92, true)), [], [], false⟩,
                              ⟨some 95, .bin .eql, [.t 94, .c (.int .u32 4)], (some (92, true)), [], [], false⟩,
                              ⟨some 96, .pick, [.t 92, .t 95, .c (.bool false)], none, [], [], false⟩,
                              ⟨some 4, .id, [.t 96], none, [], [], false⟩])
                            .ret)))))))))))))
def f_law08_JournalSkips : IFn := ⟨97, 14, [.tmp 4], f_law08_JournalSkips_B⟩
def f_law08_JournalErrors_B : ICode :=
  (.seq
    (.ops [
      ⟨some 8, .id, [.c (.bool false)], none, [], [], false⟩])
    (.seq
      (.ops [
        ⟨some 24, .call "haberdash/disk.New" [0, 1, 2, 3], [.c (.int .i64 10)], none, [], [], false⟩,
        ⟨some 23, .id, [.t 24], none, [], [], false⟩,
        ⟨some 25, .extract 0, [.t 23], none, [], [], false⟩,
        ⟨some 26, .extract 1, [.t 23], none, [], [], false⟩,
        ⟨some 9, .id, [.t 25], none, [], [], false⟩,
        ⟨some 10, .id, [.t 26], none, [], [], false⟩])
      (.seq
        (.ops [
          ⟨some 27, .call "haberdash/haberdashref06.New" [4, 5, 6, 7], [.c (.int .i64 10)], none, [], [], false⟩,
          ⟨some 11, .id, [.t 27], none, [], [], false⟩])
        (.seq
          (.seq
            (.ops [
              ⟨some 28, .call "haberdash/haberdashlaw08.awake" [], [], none, [], [], false⟩,
              ⟨some 29, .un .not, [.t 28], none, [], [], false⟩,
              ⟨some 30, .id, [.t 29], none, [], [], false⟩,
              ⟨some 31, .id, [.t 9], (some (30, false)), [], [], false⟩,
              ⟨some 32, .eqNil false .ptr, [.t 31, .c (.pointer none)], (some (30, false)), [], [], false⟩,
              ⟨some 33, .pick, [.t 30, .c (.bool true), .t 32], none, [], [], false⟩])
            (.cond (.t 33)
              (.seq
                (.ops [
                  ⟨some 8, .id, [.c (.bool false)], none, [], [], false⟩])
                .ret)
              .skip))
          (.seq
            (.seq
              (.ops [
                ⟨some 34, .id, [.t 3], none, [], [], false⟩])
              (.cond (.t 34)
                (.seq
                  (.ops [
                    ⟨some 35, .id, [.t 9], none, [], [], false⟩,
                    ⟨some 36, .call "(*haberdash/disk.Disk).Crash" [], [.t 35, .c (.slice none 0 0)], none, [], [], false⟩])
                  (.ops [
                    ⟨some 37, .id, [.t 11], none, [], [], false⟩,
                    ⟨some 38, .call "(*haberdash/haberdashref06.Disk).Crash" [], [.t 37, .c (.slice none 0 0)], none, [], [], false⟩]))
                .skip))
            (.seq
              (.ops [
                ⟨some 40, .id, [.t 9], none, [], [], false⟩,
                ⟨some 41, .id, [.t 0], none, [], [], false⟩,
                ⟨some 42, .id, [.t 1], none, [], [], false⟩,
                ⟨some 43, .id, [.t 2], none, [], [], false⟩,
                ⟨some 44, .call "haberdash/journal.New" [8, 9], [.t 40, .t 41, .t 42, .t 43], none, [], [], false⟩,
                ⟨some 39, .id, [.t 44], none, [], [], false⟩,
                ⟨some 45, .extract 0, [.t 39], none, [], [], false⟩,
                ⟨some 46, .extract 1, [.t 39], none, [], [], false⟩,
                ⟨some 12, .id, [.t 45], none, [], [], false⟩,
                ⟨some 13, .id, [.t 46], none, [], [], false⟩])
              (.seq
                (.ops [
                  ⟨some 48, .id, [.t 9], none, [], [], false⟩,
                  ⟨some 49, .id, [.t 0], none, [], [], false⟩,
                  ⟨some 50, .id, [.t 1], none, [], [], false⟩,
                  ⟨some 51, .id, [.t 2], none, [], [], false⟩,
                  ⟨some 52, .call "haberdash/journal.Open" [10, 11], [.t 48, .t 49, .t 50, .t 51], none, [], [], false⟩,
                  ⟨some 47, .id, [.t 52], none, [], [], false⟩,
                  ⟨some 53, .extract 0, [.t 47], none, [], [], false⟩,
                  ⟨some 54, .extract 1, [.t 47], none, [], [], false⟩,
                  ⟨some 14, .id, [.t 53], none, [], [], false⟩,
                  ⟨some 15, .id, [.t 54], none, [], [], false⟩])
                (.seq
                  (.ops [
                    ⟨some 56, .id, [.t 11], none, [], [], false⟩,
                    ⟨some 57, .id, [.t 0], none, [], [], false⟩,
                    ⟨some 58, .id, [.t 1], none, [], [], false⟩,
                    ⟨some 59, .id, [.t 2], none, [], [], false⟩,
                    ⟨some 60, .call "haberdash/haberdashref06.Blank" [12, 13], [.t 56, .t 57, .t 58, .t 59], none, [], [], false⟩,
                    ⟨some 55, .id, [.t 60], none, [], [], false⟩,
                    ⟨some 61, .extract 0, [.t 55], none, [], [], false⟩,
                    ⟨some 62, .extract 1, [.t 55], none, [], [], false⟩,
                    ⟨some 16, .id, [.t 61], none, [], [], false⟩,
                    ⟨some 17, .id, [.t 62], none, [], [], false⟩])
                  (.seq
                    (.ops [
                      ⟨some 64, .id, [.t 0], none, [], [], false⟩,
                      ⟨some 65, .id, [.t 1], none, [], [], false⟩,
                      ⟨some 66, .id, [.t 2], none, [], [], false⟩,
                      ⟨some 67, .call "haberdash/journal.New" [14, 15], [.c (.pointer none), .t 64, .t 65, .t 66], none, [], [], false⟩,
                      ⟨some 63, .id, [.t 67], none, [], [], false⟩,
                      ⟨some 68, .extract 0, [.t 63], none, [], [], false⟩,
                      ⟨some 69, .extract 1, [.t 63], none, [], [], false⟩,
                      ⟨some 18, .id, [.t 68], none, [], [], false⟩,
                      ⟨some 19, .id, [.t 69], none, [], [], false⟩])
                    (.seq
                      (.ops [
                        ⟨some 71, .id, [.t 0], none, [], [], false⟩,
                        ⟨some 72, .id, [.t 1], none, [], [], false⟩,
                        ⟨some 73, .id, [.t 2], none, [], [], false⟩,
                        ⟨some 74, .call "haberdash/journal.Open" [16, 17], [.c (.pointer none), .t 71, .t 72, .t 73], none, [], [], false⟩,
                        ⟨some 70, .id, [.t 74], none, [], [], false⟩,
                        ⟨some 75, .extract 0, [.t 70], none, [], [], false⟩,
                        ⟨some 76, .extract 1, [.t 70], none, [], [], false⟩,
                        ⟨some 20, .id, [.t 75], none, [], [], false⟩,
                        ⟨some 21, .id, [.t 76], none, [], [], false⟩])
                      (.seq
                        (.ops [
                          ⟨some 22, .id, [.c (.pointer none)], none, [], [], false⟩])
                        (.seq
                          (.ops [
                            ⟨some 77, .id, [.t 13], none, [], [], false⟩,
                            ⟨some 78, .id, [.t 17], none, [], [], false⟩,
                            ⟨some 79, .bin .eql, [.t 77, .t 78], none, [], [], false⟩,
                            ⟨some 80, .id, [.t 79], none, [], [], false⟩,
                            ⟨some 81, .id, [.t 15], (some (80, true)), [], [], false⟩,
                            ⟨some 82, .id, [.t 17], (some (80, true)), [], [], false⟩,
                            ⟨some 83, .bin .eql, [.t 81, .t 82], (some (80, true)), [], [], false⟩,
                            ⟨some 84, .pick, [.t 80, .t 83, .c (.bool false)], none, [], [], false⟩,
                            ⟨some 85, .id, [.t 84], none, [], [], false⟩,
                            ⟨some 86, .id, [.t 12], (some (85, true)), [], [], false⟩,
                            ⟨some 87, .eqNil false .ptr, [.t 86, .c (.pointer none)], (some (85, true)), [], [], false⟩,
                            ⟨some 88, .id, [.t 13], (some (85, true)), [], [], false⟩,
                            ⟨some 89, .bin .neq, [.t 88, .c (.int .i64 0)], (some (85, true)), [], [], false⟩,
                            ⟨some 90, .eqBool false, [.t 87, .t 89], (some (85, true)), [], [], false⟩,
                            ⟨some 91, .pick, [.t 85, .t 90, .c (.bool false)], none, [], [], false⟩,
                            ⟨some 92, .id, [.t 91], none, [], [], false⟩,
                            ⟨some 93, .id, [.t 14], (some (92, true)), [], [], false⟩,
                            ⟨some 94, .eqNil false .ptr, [.t 93, .c (.pointer none)], (some (92, true)), [], [], false⟩,
                            ⟨some 95, .id, [.t 15], (some (92, true)), [], [], false⟩,
                            ⟨some 96, .bin .neq, [.t 95, .c (.int .i64 0)], (some (92, true)), [], [], false⟩,
                            ⟨some 97, .eqBool false, [.t 94, .t 96], (some (92, true)), [], [], false⟩,
                            ⟨some 98, .pick, [.t 92, .t 97, .c (.bool false)], none, [], [], false⟩,
                            ⟨some 99, .id, [.t 98], none, [], [], false⟩,
                            ⟨some 100, .id, [.t 19], (some (99, true)), [], [], false⟩,
                            ⟨some 101, .bin .eql, [.t 100, .c (.int .i64 1)], (some (99, true)), [], [], false⟩,
                            ⟨some 102, .pick, [.t 99, .t 101, .c (.bool false)], none, [], [], false⟩,
                            ⟨some 103, .id, [.t 102], none, [], [], false⟩,
                            ⟨some 104, .id, [.t 21], (some (103, true)), [], [], false⟩,
                            ⟨some 105, .bin .eql, [.t 104, .c (.int .i64 1)], (some (103, true)), [], [], false⟩,
                            ⟨some 106, .pick, [.t 103, .t 105, .c (.bool false)], none, [], [], false⟩,
                            ⟨some 107, .id, [.t 106], none, [], [], false⟩,
                            ⟨some 108, .id, [.t 22], (some (107, true)), [], [], false⟩,
                            ⟨some 109, .buildSlice 18 false 1 1 [(.int .u8 0)] [(0, 1)], [.c (.int .u8 1)], (some (107, true)), [], [], false⟩,
                            ⟨some 110, .call "(*haberdash/journal.Journal).Add" [], [.t 108, .t 109], (some (107, true)), [], [], false⟩,
                            ⟨some 111, .bin .eql, [.t 110, .c (.int .i64 1)], (some (107, true)), [], [], false⟩,
                            ⟨some 112, .pick, [.t 107, .t 111, .c (.bool false)], none, [], [], false⟩,
                            ⟨some 113, .id, [.t 112], none, [], [], false⟩,
                            ⟨some 114, .id, [.t 22], (some (113, true)), [], [], false⟩,
                            ⟨some 115, .call "(*haberdash/journal.Journal).Records" [19], [.t 114], (some (113, true)), [], [], false⟩,
                            ⟨some 116, .lenSlice, [.t 115], (some (113, true)), [], [], false⟩,
                            ⟨some 117, .bin .eql, [.t 116, .c (.int .i64 0)], (some (113, true)), [], [], false⟩,
                            ⟨some 118, .pick, [.t 113, .t 117, .c (.bool false)], none, [], [], false⟩,
                            ⟨some 119, .id, [.t 118], none, [], [], false⟩,
                            ⟨some 120, .id, [.t 22], (some (119, true)), [], [], false⟩,
                            ⟨some 121, .call "(*haberdash/journal.Journal).First" [], [.t 120], (some (119, true)), [], [], false⟩,
                            ⟨some 122, .bin .eql, [.t 121, .c (.int .u32 0)], (some (119, true)), [], [], false⟩,
                            ⟨some 123, .pick, [.t 119, .t 122, .c (.bool false)], none, [], [], false⟩,
                            ⟨some 124, .id, [.t 123], none, [], [], false⟩,
                            ⟨some 125, .id, [.t 22], (some (124, true)), [], [], false⟩,
                            ⟨some 126, .call "(*haberdash/journal.Journal).Used" [], [.t 125], (some (124, true)), [], [], false⟩,
                            ⟨some 127, .bin .eql, [.t 126, .c (.int .i64 0)], (some (124, true)), [], [], false⟩,
                            ⟨some 128, .pick, [.t 124, .t 127, .c (.bool false)], none, [], [], false⟩,
                            ⟨some 8, .id, [.t 128], none, [], [], false⟩])
                          .ret))))))))))))
def f_law08_JournalErrors : IFn := ⟨129, 20, [.tmp 8], f_law08_JournalErrors_B⟩
def f_law08_JournalPlays_L0 : ICode :=
  (.seq
    (.seq
      (.ops [
        ⟨some 68, .id, [.t 15], none, [], [], false⟩,
        ⟨some 69, .id, [.t 2], none, [], [], false⟩,
        ⟨some 70, .lenSlice, [.t 69], none, [], [], false⟩,
        ⟨some 71, .bin .lss, [.t 68, .t 70], none, [], [], false⟩,
        ⟨some 72, .id, [.t 71], none, [], [], false⟩,
        ⟨some 73, .id, [.t 15], (some (72, true)), [], [], false⟩,
        ⟨some 74, .bin .lss, [.t 73, .c (.int .i64 40)], (some (72, true)), [], [], false⟩,
        ⟨some 75, .pick, [.t 72, .t 74, .c (.bool false)], none, [], [], false⟩])
      (.cond (.t 75)
        .skip
        (.exit 0)))
    (.seq
      (.block 1
        (.seq
          (.ops [
            ⟨some 78, .id, [.t 2], none, [], [], false⟩,
            ⟨some 79, .id, [.t 15], none, [], [], false⟩,
            ⟨some 80, .indexAddr 4, [.t 78, .t 79], none, [], [], false⟩,
            ⟨some 81, .load 4 true, [.t 80], none, [], [], false⟩,
            ⟨some 16, .alloc 12 [(.int .i64 0), (.int .i64 0), (.slice none 0 0), (.slice none 0 0)] [], [], none, [], [], false⟩,
            ⟨none, .store 4 false, [.t 16, .t 81], none, [], [], false⟩])
          (.seq
            (.seq
              (.ops [
                ⟨some 82, .fieldAddr 2, [.t 16], none, [], [], false⟩,
                ⟨some 83, .load 1 false, [.t 82], none, [], [], false⟩,
                ⟨some 84, .lenSlice, [.t 83], none, [], [], false⟩,
                ⟨some 85, .bin .gtr, [.t 84, .c (.int .i64 300)], none, [], [], false⟩,
                ⟨some 86, .id, [.t 85], none, [], [], false⟩,
                ⟨some 87, .fieldAddr 3, [.t 16], (some (86, false)), [], [], false⟩,
                ⟨some 88, .load 1 false, [.t 87], (some (86, false)), [], [], false⟩,
                ⟨some 89, .lenSlice, [.t 88], (some (86, false)), [], [], false⟩,
                ⟨some 90, .bin .gtr, [.t 89, .c (.int .i64 40)], (some (86, false)), [], [], false⟩,
                ⟨some 91, .pick, [.t 86, .c (.bool true), .t 90], none, [], [], false⟩])
              (.cond (.t 91)
                (.seq
                  (.ops [
                    ⟨some 6, .id, [.c (.bool true)], none, [], [], false⟩])
                  .ret)
                .skip))
            (.seq
              (.seq
                (.ops [
                  ⟨some 92, .fieldAddr 0, [.t 16], none, [], [], false⟩,
                  ⟨some 93, .load 1 false, [.t 92], none, [], [], false⟩,
                  ⟨some 94, .call "haberdash/haberdashplay.Mod" [], [.t 93, .c (.int .i64 7)], none, [], [], false⟩])
                (.block 2
                  (.seq
                    (.ops [
                      ⟨some 114, .bin .eql, [.t 94, .c (.int .i64 3)], none, [], [], false⟩,
                      ⟨some 113, .id, [.t 114], none, [], [], false⟩])
                    (.cond (.t 113)
                      (.seq
                        (.ops [
                          ⟨some 115, .id, [.t 7], none, [], [], false⟩,
                          ⟨some 116, .fieldAddr 1, [.t 16], none, [], [], false⟩,
                          ⟨some 117, .load 1 false, [.t 116], none, [], [], false⟩,
                          ⟨some 118, .call "(*haberdash/disk.Disk).Arm" [], [.t 115, .t 117], none, [], [], false⟩])
                        (.ops [
                          ⟨some 119, .id, [.t 9], none, [], [], false⟩,
                          ⟨some 120, .fieldAddr 1, [.t 16], none, [], [], false⟩,
                          ⟨some 121, .load 1 false, [.t 120], none, [], [], false⟩,
                          ⟨some 122, .call "(*haberdash/haberdashref06.Disk).Arm" [], [.t 119, .t 121], none, [], [], false⟩]))
                      (.seq
                        (.seq
                          (.ops [
                            ⟨some 124, .bin .eql, [.t 94, .c (.int .i64 4)], none, [], [], false⟩,
                            ⟨some 123, .id, [.t 124], none, [], [], false⟩])
                          (.cond (.t 123)
                            .skip
                            (.seq
                              (.ops [
                                ⟨some 125, .bin .eql, [.t 94, .c (.int .i64 5)], none, [], [], false⟩,
                                ⟨some 123, .id, [.t 125], none, [], [], false⟩])
                              (.cond (.t 123)
                                .skip
                                (.ops [
                                  ⟨some 126, .bin .eql, [.t 94, .c (.int .i64 6)], none, [], [], false⟩,
                                  ⟨some 123, .id, [.t 126], none, [], [], false⟩])))))
                        (.cond (.t 123)
                          (.seq
                            (.seq
                              (.ops [
                                ⟨some 127, .fieldAddr 0, [.t 16], none, [], [], false⟩,
                                ⟨some 128, .load 1 false, [.t 127], none, [], [], false⟩,
                                ⟨some 129, .call "haberdash/haberdashplay.Mod" [], [.t 128, .c (.int .i64 7)], none, [], [], false⟩,
                                ⟨some 130, .bin .eql, [.t 129, .c (.int .i64 6)], none, [], [], false⟩])
                              (.cond (.t 130)
                                (.seq
                                  (.ops [
                                    ⟨some 17, .alloc 13 zeros64 [], [], none, [], [], false⟩])
                                  (.seq
                                    (.draw [
                                      ⟨some 131, .sliceArr 64 1 false false false, [.t 17], none, [], [], false⟩,
                                      ⟨some 132, .fieldAddr 2, [.t 16], none, [], [], false⟩,
                                      ⟨some 133, .load 1 false, [.t 132], none, [], [], false⟩,
                                      ⟨some 134, .copy 1, [.t 131, .t 133], none, [], [13], false⟩])
                                    (.seq
                                      (.draw [
                                        ⟨some 135, .id, [.t 7], none, [], [], false⟩,
                                        ⟨some 136, .fieldAddr 1, [.t 16], none, [], [], false⟩,
                                        ⟨some 137, .load 1 false, [.t 136], none, [], [], false⟩,
                                        ⟨some 138, .id, [.t 0], none, [], [], false⟩,
                                        ⟨some 139, .id, [.t 1], none, [], [], false⟩,
                                        ⟨some 140, .bin .add, [.t 138, .t 139], none, [], [], false⟩,
                                        ⟨some 141, .bin .add, [.t 140, .c (.int .i64 2)], none, [], [], false⟩,
                                        ⟨some 142, .call "haberdash/haberdashplay.Mod" [], [.t 137, .t 141], none, [], [], false⟩,
                                        ⟨some 143, .load 64 true, [.t 17], none, [], [], false⟩,
                                        ⟨some 144, .call "(*haberdash/disk.Disk).Write" [], [.t 135, .t 142, .t 143], none, [], [0, 1, 2, 3], false⟩,
                                        ⟨some 145, .id, [.t 9], none, [], [], false⟩,
                                        ⟨some 146, .fieldAddr 1, [.t 16], none, [], [], false⟩,
                                        ⟨some 147, .load 1 false, [.t 146], none, [0, 1, 2, 3], [], false⟩,
                                        ⟨some 148, .id, [.t 0], none, [], [], false⟩,
                                        ⟨some 149, .id, [.t 1], none, [], [], false⟩,
                                        ⟨some 150, .bin .add, [.t 148, .t 149], none, [], [], false⟩,
                                        ⟨some 151, .bin .add, [.t 150, .c (.int .i64 2)], none, [], [], false⟩,
                                        ⟨some 152, .call "haberdash/haberdashplay.Mod" [], [.t 147, .t 151], none, [], [], false⟩,
                                        ⟨some 153, .load 64 true, [.t 17], none, [0, 1, 2, 3], [], false⟩,
                                        ⟨some 154, .call "(*haberdash/haberdashref06.Disk).Write" [], [.t 145, .t 152, .t 153], none, [], [4, 5, 6, 7], false⟩,
                                        ⟨some 155, .bin .neq, [.t 144, .t 154], none, [], [], false⟩])
                                      (.cond (.t 155)
                                        (.seq
                                          (.ops [
                                            ⟨some 6, .id, [.c (.bool false)], none, [], [], false⟩])
                                          .ret)
                                        .skip))))
                                (.seq
                                  (.ops [
                                    ⟨some 156, .id, [.t 7], none, [], [], false⟩,
                                    ⟨some 157, .fieldAddr 3, [.t 16], none, [], [], false⟩,
                                    ⟨some 158, .load 1 false, [.t 157], none, [], [], false⟩,
                                    ⟨some 159, .call "(*haberdash/disk.Disk).Crash" [], [.t 156, .t 158], none, [], [], false⟩])
                                  (.ops [
                                    ⟨some 160, .id, [.t 9], none, [], [], false⟩,
                                    ⟨some 161, .fieldAddr 3, [.t 16], none, [], [], false⟩,
                                    ⟨some 162, .load 1 false, [.t 161], none, [], [], false⟩,
                                    ⟨some 163, .call "(*haberdash/haberdashref06.Disk).Crash" [], [.t 160, .t 162], none, [], [], false⟩]))))
                            (.seq
                              (.ops [
                                ⟨some 164, .id, [.t 7], none, [], [], false⟩,
                                ⟨some 165, .call "(*haberdash/disk.Disk).Start" [], [.t 164], none, [], [], false⟩])
                              (.seq
                                (.ops [
                                  ⟨some 166, .id, [.t 9], none, [], [], false⟩,
                                  ⟨some 167, .call "(*haberdash/haberdashref06.Disk).Start" [], [.t 166], none, [], [], false⟩])
                                (.seq
                                  (.ops [
                                    ⟨some 168, .id, [.t 10], none, [], [], false⟩,
                                    ⟨some 169, .bin .add, [.t 168, .c (.int .u32 1)], none, [], [], false⟩,
                                    ⟨some 10, .id, [.t 169], none, [], [], false⟩])
                                  (.seq
                                    (.seq
                                      (.ops [
                                        ⟨some 170, .fieldAddr 0, [.t 16], none, [], [], false⟩,
                                        ⟨some 171, .load 1 false, [.t 170], none, [], [], false⟩,
                                        ⟨some 172, .call "haberdash/haberdashplay.Mod" [], [.t 171, .c (.int .i64 7)], none, [], [], false⟩,
                                        ⟨some 173, .bin .eql, [.t 172, .c (.int .i64 5)], none, [], [], false⟩])
                                      (.cond (.t 173)
                                        (.seq
                                          (.ops [
                                            ⟨some 175, .id, [.t 7], none, [], [], false⟩,
                                            ⟨some 176, .id, [.t 1], none, [], [], false⟩,
                                            ⟨some 177, .id, [.t 0], none, [], [], false⟩,
                                            ⟨some 178, .id, [.t 10], none, [], [], false⟩,
                                            ⟨some 179, .call "haberdash/journal.New" [14, 15], [.t 175, .t 176, .t 177, .t 178], none, [], [], false⟩,
                                            ⟨some 174, .id, [.t 179], none, [], [], false⟩,
                                            ⟨some 180, .extract 0, [.t 174], none, [], [], false⟩,
                                            ⟨some 181, .extract 1, [.t 174], none, [], [], false⟩,
                                            ⟨some 11, .id, [.t 180], none, [], [], false⟩,
                                            ⟨some 12, .id, [.t 181], none, [], [], false⟩])
                                          (.post [(14, 8), (15, 9), (16, 10), (17, 11)]
                                          (.ops [
                                            ⟨some 183, .id, [.t 9], none, [], [], false⟩,
                                            ⟨some 184, .id, [.t 1], none, [], [], false⟩,
                                            ⟨some 185, .id, [.t 0], none, [], [], false⟩,
                                            ⟨some 186, .id, [.t 10], none, [], [], false⟩,
                                            ⟨some 187, .call "haberdash/haberdashref06.Blank" [16, 17], [.t 183, .t 184, .t 185, .t 186], none, [], [], false⟩,
                                            ⟨some 182, .id, [.t 187], none, [], [], false⟩,
                                            ⟨some 188, .extract 0, [.t 182], none, [], [], false⟩,
                                            ⟨some 189, .extract 1, [.t 182], none, [], [], false⟩,
                                            ⟨some 13, .id, [.t 188], none, [], [], false⟩,
                                            ⟨some 14, .id, [.t 189], none, [], [], false⟩])))
                                        (.seq
                                          (.ops [
                                            ⟨some 191, .id, [.t 7], none, [], [], false⟩,
                                            ⟨some 192, .id, [.t 1], none, [], [], false⟩,
                                            ⟨some 193, .id, [.t 0], none, [], [], false⟩,
                                            ⟨some 194, .id, [.t 10], none, [], [], false⟩,
                                            ⟨some 195, .call "haberdash/journal.Open" [18, 19], [.t 191, .t 192, .t 193, .t 194], none, [], [], false⟩,
                                            ⟨some 190, .id, [.t 195], none, [], [], false⟩,
                                            ⟨some 196, .extract 0, [.t 190], none, [], [], false⟩,
                                            ⟨some 197, .extract 1, [.t 190], none, [], [], false⟩,
                                            ⟨some 11, .id, [.t 196], none, [], [], false⟩,
                                            ⟨some 12, .id, [.t 197], none, [], [], false⟩])
                                          (.post [(18, 8), (19, 9), (20, 10), (21, 11)]
                                          (.ops [
                                            ⟨some 199, .id, [.t 9], none, [], [], false⟩,
                                            ⟨some 200, .id, [.t 1], none, [], [], false⟩,
                                            ⟨some 201, .id, [.t 0], none, [], [], false⟩,
                                            ⟨some 202, .id, [.t 10], none, [], [], false⟩,
                                            ⟨some 203, .call "haberdash/haberdashref06.Open" [20, 21], [.t 199, .t 200, .t 201, .t 202], none, [], [], false⟩,
                                            ⟨some 198, .id, [.t 203], none, [], [], false⟩,
                                            ⟨some 204, .extract 0, [.t 198], none, [], [], false⟩,
                                            ⟨some 205, .extract 1, [.t 198], none, [], [], false⟩,
                                            ⟨some 13, .id, [.t 204], none, [], [], false⟩,
                                            ⟨some 14, .id, [.t 205], none, [], [], false⟩])))))
                                    (.seq
                                      (.ops [
                                        ⟨some 206, .id, [.t 12], none, [], [], false⟩,
                                        ⟨some 207, .id, [.t 14], none, [], [], false⟩,
                                        ⟨some 208, .bin .neq, [.t 206, .t 207], none, [], [], false⟩,
                                        ⟨some 209, .id, [.t 208], none, [], [], false⟩,
                                        ⟨some 210, .id, [.t 12], (some (209, false)), [], [], false⟩,
                                        ⟨some 211, .bin .neq, [.t 210, .c (.int .i64 0)], (some (209, false)), [], [], false⟩,
                                        ⟨some 212, .pick, [.t 209, .c (.bool true), .t 211], none, [], [], false⟩,
                                        ⟨some 213, .id, [.t 212], none, [], [], false⟩,
                                        ⟨some 214, .id, [.t 11], (some (213, false)), [], [], false⟩,
                                        ⟨some 215, .eqNil false .ptr, [.t 214, .c (.pointer none)], (some (213, false)), [], [], false⟩,
                                        ⟨some 216, .pick, [.t 213, .c (.bool true), .t 215], none, [], [], false⟩])
                                      (.cond (.t 216)
                                        (.seq
                                          (.ops [
                                            ⟨some 6, .id, [.c (.bool false)], none, [], [], false⟩])
                                          .ret)
                                        .skip)))))))
                          (.seq
                            (.ops [
                              ⟨some 95, .fieldAddr 2, [.t 16], none, [], [], false⟩,
                              ⟨some 96, .load 1 false, [.t 95], none, [], [], false⟩,
                              ⟨some 97, .call "haberdash/haberdashhelp.Own[byte]" [22], [.t 96, .c (.int .u8 71)], none, [], [], false⟩,
                              ⟨some 18, .id, [.t 97], none, [], [], false⟩])
                            (.seq
                              (.draw [
                                ⟨some 98, .id, [.t 11], none, [], [], false⟩,
                                ⟨some 99, .id, [.t 18], none, [], [], false⟩,
                                ⟨some 100, .call "(*haberdash/journal.Journal).Add" [], [.t 98, .t 99], none, [12], [8, 9, 0, 1, 2, 3, 14, 15, 18, 19, 22], true⟩,
                                ⟨some 101, .id, [.t 13], none, [], [], false⟩,
                                ⟨some 102, .fieldAddr 2, [.t 16], none, [], [], false⟩,
                                ⟨some 103, .loadAt 12 1 false, [.t 102], none, [], [], false⟩,
                                ⟨some 104, .call "(*haberdash/haberdashref06.Journal).Add" [], [.t 101, .t 103], none, [], [10, 11, 4, 5, 6, 7, 16, 17, 20, 21], true⟩,
                                ⟨some 105, .bin .neq, [.t 100, .t 104], none, [], [], false⟩,
                                ⟨some 106, .id, [.t 105], none, [], [], false⟩,
                                ⟨some 107, .id, [.t 18], (some (106, false)), [], [], false⟩,
                                ⟨some 108, .fieldAddr 2, [.t 16], (some (106, false)), [], [], false⟩,
                                ⟨some 109, .loadAt 12 1 false, [.t 108], (some (106, false)), [], [], false⟩,
                                ⟨some 110, .call "haberdash/haberdashhelp.Kept[byte]" [], [.t 107, .t 109, .c (.int .u8 71)], (some (106, false)), [], [], false⟩,
                                ⟨some 111, .un .not, [.t 110], (some (106, false)), [], [], false⟩,
                                ⟨some 112, .pick, [.t 106, .c (.bool true), .t 111], none, [], [], false⟩])
                              (.cond (.t 112)
                                (.seq
                                  (.ops [
                                    ⟨some 6, .id, [.c (.bool false)], none, [], [], false⟩])
                                  .ret)
                                .skip)))))))))
              (.seq
                (.ops [
                  ⟨some 217, .id, [.t 11], none, [], [], false⟩,
                  ⟨some 218, .id, [.t 13], none, [], [], false⟩,
                  ⟨some 219, .call "haberdash/haberdashlaw08.alike" [], [.t 217, .t 218], none, [], [], false⟩,
                  ⟨some 220, .un .not, [.t 219], none, [], [], false⟩])
                (.cond (.t 220)
                  (.seq
                    (.ops [
                      ⟨some 6, .id, [.c (.bool false)], none, [], [], false⟩])
                    .ret)
                  .skip))))))
      (.ops [
        ⟨some 76, .id, [.t 15], none, [], [], false⟩,
        ⟨some 77, .bin .add, [.t 76, .c (.int .i64 1)], none, [], [], false⟩,
        ⟨some 15, .id, [.t 77], none, [], [], false⟩])))
def f_law08_JournalPlays_B : ICode :=
  (.seq
    (.ops [
      ⟨some 6, .id, [.c (.bool false)], none, [], [], false⟩])
    (.seq
      (.ops [
        ⟨some 19, .id, [.t 0], none, [], [], false⟩,
        ⟨some 20, .call "haberdash/haberdashplay.Mod" [], [.t 19, .c (.int .i64 14)], none, [], [], false⟩,
        ⟨some 21, .bin .add, [.c (.int .i64 1), .t 20], none, [], [], false⟩,
        ⟨some 22, .id, [.t 1], none, [], [], false⟩,
        ⟨some 23, .call "haberdash/haberdashplay.Mod" [], [.t 22, .c (.int .i64 3)], none, [], [], false⟩,
        ⟨some 0, .id, [.t 21], none, [], [], false⟩,
        ⟨some 1, .id, [.t 23], none, [], [], false⟩])
      (.seq
        (.ops [
          ⟨some 25, .id, [.t 0], none, [], [], false⟩,
          ⟨some 26, .id, [.t 1], none, [], [], false⟩,
          ⟨some 27, .bin .add, [.t 25, .t 26], none, [], [], false⟩,
          ⟨some 28, .bin .add, [.t 27, .c (.int .i64 2)], none, [], [], false⟩,
          ⟨some 29, .call "haberdash/disk.New" [0, 1, 2, 3], [.t 28], none, [], [], false⟩,
          ⟨some 24, .id, [.t 29], none, [], [], false⟩,
          ⟨some 30, .extract 0, [.t 24], none, [], [], false⟩,
          ⟨some 31, .extract 1, [.t 24], none, [], [], false⟩,
          ⟨some 7, .id, [.t 30], none, [], [], false⟩,
          ⟨some 8, .id, [.t 31], none, [], [], false⟩])
        (.seq
          (.ops [
            ⟨some 32, .id, [.t 0], none, [], [], false⟩,
            ⟨some 33, .id, [.t 1], none, [], [], false⟩,
            ⟨some 34, .bin .add, [.t 32, .t 33], none, [], [], false⟩,
            ⟨some 35, .bin .add, [.t 34, .c (.int .i64 2)], none, [], [], false⟩,
            ⟨some 36, .call "haberdash/haberdashref06.New" [4, 5, 6, 7], [.t 35], none, [], [], false⟩,
            ⟨some 9, .id, [.t 36], none, [], [], false⟩])
          (.seq
            (.ops [
              ⟨some 10, .id, [.c (.int .u32 1)], none, [], [], false⟩])
            (.seq
              (.ops [
                ⟨some 38, .id, [.t 7], none, [], [], false⟩,
                ⟨some 39, .id, [.t 1], none, [], [], false⟩,
                ⟨some 40, .id, [.t 0], none, [], [], false⟩,
                ⟨some 41, .id, [.t 10], none, [], [], false⟩,
                ⟨some 42, .call "haberdash/journal.New" [8, 9], [.t 38, .t 39, .t 40, .t 41], none, [], [], false⟩,
                ⟨some 37, .id, [.t 42], none, [], [], false⟩,
                ⟨some 43, .extract 0, [.t 37], none, [], [], false⟩,
                ⟨some 44, .extract 1, [.t 37], none, [], [], false⟩,
                ⟨some 11, .id, [.t 43], none, [], [], false⟩,
                ⟨some 12, .id, [.t 44], none, [], [], false⟩])
              (.seq
                (.ops [
                  ⟨some 46, .id, [.t 9], none, [], [], false⟩,
                  ⟨some 47, .id, [.t 1], none, [], [], false⟩,
                  ⟨some 48, .id, [.t 0], none, [], [], false⟩,
                  ⟨some 49, .id, [.t 10], none, [], [], false⟩,
                  ⟨some 50, .call "haberdash/haberdashref06.Blank" [10, 11], [.t 46, .t 47, .t 48, .t 49], none, [], [], false⟩,
                  ⟨some 45, .id, [.t 50], none, [], [], false⟩,
                  ⟨some 51, .extract 0, [.t 45], none, [], [], false⟩,
                  ⟨some 52, .extract 1, [.t 45], none, [], [], false⟩,
                  ⟨some 13, .id, [.t 51], none, [], [], false⟩,
                  ⟨some 14, .id, [.t 52], none, [], [], false⟩])
                (.seq
                  (.seq
                    (.ops [
                      ⟨some 53, .call "haberdash/haberdashlaw08.awake" [], [], none, [], [], false⟩,
                      ⟨some 54, .un .not, [.t 53], none, [], [], false⟩,
                      ⟨some 55, .id, [.t 54], none, [], [], false⟩,
                      ⟨some 56, .id, [.t 12], (some (55, false)), [], [], false⟩,
                      ⟨some 57, .id, [.t 14], (some (55, false)), [], [], false⟩,
                      ⟨some 58, .bin .neq, [.t 56, .t 57], (some (55, false)), [], [], false⟩,
                      ⟨some 59, .pick, [.t 55, .c (.bool true), .t 58], none, [], [], false⟩,
                      ⟨some 60, .id, [.t 59], none, [], [], false⟩,
                      ⟨some 61, .id, [.t 12], (some (60, false)), [], [], false⟩,
                      ⟨some 62, .bin .neq, [.t 61, .c (.int .i64 0)], (some (60, false)), [], [], false⟩,
                      ⟨some 63, .pick, [.t 60, .c (.bool true), .t 62], none, [], [], false⟩,
                      ⟨some 64, .id, [.t 63], none, [], [], false⟩,
                      ⟨some 65, .id, [.t 11], (some (64, false)), [], [], false⟩,
                      ⟨some 66, .eqNil false .ptr, [.t 65, .c (.pointer none)], (some (64, false)), [], [], false⟩,
                      ⟨some 67, .pick, [.t 64, .c (.bool true), .t 66], none, [], [], false⟩])
                    (.cond (.t 67)
                      (.seq
                        (.ops [
                          ⟨some 6, .id, [.c (.bool false)], none, [], [], false⟩])
                        .ret)
                      .skip))
                  (.seq
                    (.seq
                      (.ops [
                        ⟨some 15, .id, [.c (.int .i64 0)], none, [], [], false⟩])
                      (.block 0
                        (.loop [3, 4, 5, 6, 8, 12, 14, 16, 17, 18, 19, 20, 21, 22, 23, 24, 25, 26, 27, 28, 29, 30, 31, 32, 33, 34, 35, 36, 37, 38, 39, 40, 41, 42, 43, 44, 45, 46, 47, 48, 49, 50, 51, 52, 53, 54, 55, 56, 57, 58, 59, 60, 61, 62, 63, 64, 65, 66, 67, 68, 69, 70, 71, 72, 73, 74, 75, 76, 77, 78, 79, 80, 81, 82, 83, 84, 85, 86, 87, 88, 89, 90, 91, 92, 93, 94, 95, 96, 97, 98, 99, 100, 101, 102, 103, 104, 105, 106, 107, 108, 109, 110, 111, 112, 113, 114, 115, 116, 117, 118, 119, 120, 121, 122, 123, 124, 125, 126, 127, 128, 129, 130, 131, 132, 133, 134, 135, 136, 137, 138, 139, 140, 141, 142, 143, 144, 145, 146, 147, 148, 149, 150, 151, 152, 153, 154, 155, 156, 157, 158, 159, 160, 161, 162, 163, 164, 165, 166, 167, 168, 169, 170, 171, 172, 173, 174, 175, 176, 177, 178, 179, 180, 181, 182, 183, 184, 185, 186, 187, 188, 189, 190, 191, 192, 193, 194, 195, 196, 197, 198, 199, 200, 201, 202, 203, 204, 205, 206, 207, 208, 209, 210, 211, 212, 213, 214, 215, 216, 217, 218, 219, 220] [12, 13, 14, 15, 16, 17, 18, 19, 20, 21, 22] f_law08_JournalPlays_L0)))
                    (.seq
                      (.ops [
                        ⟨some 6, .id, [.c (.bool true)], none, [], [], false⟩])
                      .ret))))))))))
def f_law08_JournalPlays : IFn := ⟨221, 23, [.tmp 6], f_law08_JournalPlays_B⟩
def f_law08_JournalKeeps_L0 : ICode :=
  (.seq
    (.seq
      (.ops [
        ⟨some 71, .id, [.t 19], none, [], [], false⟩,
        ⟨some 72, .bin .lss, [.t 71, .c (.int .i64 2)], none, [], [], false⟩])
      (.cond (.t 72)
        .skip
        (.exit 0)))
    (.seq
      (.block 1
        (.seq
          (.ops [
            ⟨some 75, .id, [.t 13], none, [], [], false⟩,
            ⟨some 76, .id, [.t 2], none, [], [], false⟩,
            ⟨some 77, .call "(*haberdash/disk.Disk).Crash" [], [.t 75, .t 76], none, [], [], false⟩])
          (.seq
            (.ops [
              ⟨some 78, .id, [.t 13], none, [], [], false⟩,
              ⟨some 79, .call "(*haberdash/disk.Disk).Start" [], [.t 78], none, [], [], false⟩])
            (.seq
              (.ops [
                ⟨some 81, .id, [.t 13], none, [], [], false⟩,
                ⟨some 82, .id, [.t 19], none, [], [], false⟩,
                ⟨some 83, .bin .add, [.c (.int .i64 2), .t 82], none, [], [], false⟩,
                ⟨some 84, .convInt .u32, [.t 83], none, [], [], false⟩,
                ⟨some 85, .call "haberdash/journal.Open" [7, 8], [.t 81, .c (.int .i64 0), .c (.int .i64 90), .t 84], none, [], [], false⟩,
                ⟨some 80, .id, [.t 85], none, [], [], false⟩,
                ⟨some 86, .extract 0, [.t 80], none, [], [], false⟩,
                ⟨some 87, .extract 1, [.t 80], none, [], [], false⟩,
                ⟨some 20, .id, [.t 86], none, [], [], false⟩,
                ⟨some 21, .id, [.t 87], none, [], [], false⟩])
              (.seq
                (.seq
                  (.ops [
                    ⟨some 88, .id, [.t 21], none, [], [], false⟩,
                    ⟨some 89, .bin .neq, [.t 88, .c (.int .i64 0)], none, [], [], false⟩,
                    ⟨some 90, .id, [.t 89], none, [], [], false⟩,
                    ⟨some 91, .id, [.t 20], (some (90, false)), [], [], false⟩,
                    ⟨some 92, .eqNil false .ptr, [.t 91, .c (.pointer none)], (some (90, false)), [], [], false⟩,
                    ⟨some 93, .pick, [.t 90, .c (.bool true), .t 92], none, [], [], false⟩])
                  (.cond (.t 93)
                    (.seq
                      (.ops [
                        ⟨some 12, .id, [.c (.bool false)], none, [], [], false⟩])
                      .ret)
                    .skip))
                (.seq
                  (.ops [
                    ⟨some 94, .id, [.t 20], none, [], [], false⟩,
                    ⟨some 95, .call "(*haberdash/journal.Journal).Records" [9], [.t 94], none, [], [], false⟩,
                    ⟨some 22, .id, [.t 95], none, [], [], false⟩])
                  (.seq
                    (.seq
                      (.ops [
                        ⟨some 96, .id, [.t 22], none, [], [], false⟩,
                        ⟨some 97, .lenSlice, [.t 96], none, [], [], false⟩,
                        ⟨some 98, .id, [.t 18], none, [], [], false⟩,
                        ⟨some 99, .bin .lss, [.t 97, .t 98], none, [], [], false⟩,
                        ⟨some 100, .id, [.t 99], none, [], [], false⟩,
                        ⟨some 101, .id, [.t 22], (some (100, false)), [], [], false⟩,
                        ⟨some 102, .lenSlice, [.t 101], (some (100, false)), [], [], false⟩,
                        ⟨some 103, .id, [.t 18], (some (100, false)), [], [], false⟩,
                        ⟨some 104, .bin .add, [.t 103, .c (.int .i64 1)], (some (100, false)), [], [], false⟩,
                        ⟨some 105, .bin .gtr, [.t 102, .t 104], (some (100, false)), [], [], false⟩,
                        ⟨some 106, .pick, [.t 100, .c (.bool true), .t 105], none, [], [], false⟩,
                        ⟨some 107, .id, [.t 106], none, [], [], false⟩,
                        ⟨some 108, .id, [.t 22], (some (107, false)), [], [], false⟩,
                        ⟨some 109, .lenSlice, [.t 108], (some (107, false)), [], [], false⟩,
                        ⟨some 110, .id, [.t 17], (some (107, false)), [], [], false⟩,
                        ⟨some 111, .lenSlice, [.t 110], (some (107, false)), [], [], false⟩,
                        ⟨some 112, .bin .gtr, [.t 109, .t 111], (some (107, false)), [], [], false⟩,
                        ⟨some 113, .pick, [.t 107, .c (.bool true), .t 112], none, [], [], false⟩,
                        ⟨some 114, .id, [.t 113], none, [], [], false⟩,
                        ⟨some 115, .id, [.t 22], (some (114, false)), [], [], false⟩,
                        ⟨some 116, .id, [.t 17], (some (114, false)), [], [], false⟩,
                        ⟨some 117, .id, [.t 22], (some (114, false)), [], [], false⟩,
                        ⟨some 118, .lenSlice, [.t 117], (some (114, false)), [], [], false⟩,
                        ⟨some 119, .slice 1 false true false, [.t 116, .t 118], (some (114, false)), [], [], false⟩,
                        ⟨some 120, .call "haberdash/haberdashhelp.Rows" [], [.t 115, .t 119], (some (114, false)), [], [], false⟩,
                        ⟨some 121, .un .not, [.t 120], (some (114, false)), [], [], false⟩,
                        ⟨some 122, .pick, [.t 114, .c (.bool true), .t 121], none, [], [], false⟩])
                      (.cond (.t 122)
                        (.seq
                          (.ops [
                            ⟨some 12, .id, [.c (.bool false)], none, [], [], false⟩])
                          .ret)
                        .skip))
                    (.seq
                      (.ops [
                        ⟨some 123, .id, [.t 13], none, [], [], false⟩,
                        ⟨some 124, .id, [.t 4], none, [], [], false⟩,
                        ⟨some 125, .call "haberdash/haberdashplay.Mod" [], [.t 124, .c (.int .i64 60)], none, [], [], false⟩,
                        ⟨some 126, .call "(*haberdash/disk.Disk).Arm" [], [.t 123, .t 125], none, [], [], false⟩])
                      (.seq
                        (.post [(9, 6)]
                        (.ops [
                          ⟨some 128, .id, [.t 20], none, [], [], false⟩,
                          ⟨some 129, .id, [.t 22], none, [], [], false⟩,
                          ⟨some 130, .id, [.t 3], none, [], [], false⟩,
                          ⟨some 131, .call "haberdash/haberdashlaw08.put" [10], [.t 128, .t 129, .t 130], none, [], [], false⟩,
                          ⟨some 127, .id, [.t 131], none, [], [], false⟩,
                          ⟨some 132, .extract 0, [.t 127], none, [], [], false⟩,
                          ⟨some 133, .extract 1, [.t 127], none, [], [], false⟩,
                          ⟨some 17, .id, [.t 132], none, [], [], false⟩,
                          ⟨some 18, .id, [.t 133], none, [], [], false⟩]))
                        (.ops [
                          ⟨some 134, .id, [.t 5], none, [], [], false⟩,
                          ⟨some 2, .id, [.t 134], none, [], [], false⟩]))))))))))
      (.ops [
        ⟨some 73, .id, [.t 19], none, [], [], false⟩,
        ⟨some 74, .bin .add, [.t 73, .c (.int .i64 1)], none, [], [], false⟩,
        ⟨some 19, .id, [.t 74], none, [], [], false⟩])))
def f_law08_JournalKeeps_B : ICode :=
  (.seq
    (.ops [
      ⟨some 12, .id, [.c (.bool false)], none, [], [], false⟩])
    (.seq
      (.seq
        (.ops [
          ⟨some 23, .id, [.t 0], none, [], [], false⟩,
          ⟨some 24, .lenSlice, [.t 23], none, [], [], false⟩,
          ⟨some 25, .bin .gtr, [.t 24, .c (.int .i64 12)], none, [], [], false⟩,
          ⟨some 26, .id, [.t 25], none, [], [], false⟩,
          ⟨some 27, .id, [.t 3], (some (26, false)), [], [], false⟩,
          ⟨some 28, .lenSlice, [.t 27], (some (26, false)), [], [], false⟩,
          ⟨some 29, .bin .gtr, [.t 28, .c (.int .i64 12)], (some (26, false)), [], [], false⟩,
          ⟨some 30, .pick, [.t 26, .c (.bool true), .t 29], none, [], [], false⟩,
          ⟨some 31, .id, [.t 30], none, [], [], false⟩,
          ⟨some 32, .id, [.t 2], (some (31, false)), [], [], false⟩,
          ⟨some 33, .lenSlice, [.t 32], (some (31, false)), [], [], false⟩,
          ⟨some 34, .bin .gtr, [.t 33, .c (.int .i64 40)], (some (31, false)), [], [], false⟩,
          ⟨some 35, .pick, [.t 31, .c (.bool true), .t 34], none, [], [], false⟩,
          ⟨some 36, .id, [.t 35], none, [], [], false⟩,
          ⟨some 37, .id, [.t 5], (some (36, false)), [], [], false⟩,
          ⟨some 38, .lenSlice, [.t 37], (some (36, false)), [], [], false⟩,
          ⟨some 39, .bin .gtr, [.t 38, .c (.int .i64 40)], (some (36, false)), [], [], false⟩,
          ⟨some 40, .pick, [.t 36, .c (.bool true), .t 39], none, [], [], false⟩])
        (.cond (.t 40)
          (.seq
            (.ops [
              ⟨some 41, .call "haberdash/haberdashlaw08.awake" [], [], none, [], [], false⟩,
              ⟨some 12, .id, [.t 41], none, [], [], false⟩])
            .ret)
          .skip))
      (.seq
        (.ops [
          ⟨some 43, .call "haberdash/disk.New" [0, 1, 2, 3], [.c (.int .i64 90)], none, [], [], false⟩,
          ⟨some 42, .id, [.t 43], none, [], [], false⟩,
          ⟨some 44, .extract 0, [.t 42], none, [], [], false⟩,
          ⟨some 45, .extract 1, [.t 42], none, [], [], false⟩,
          ⟨some 13, .id, [.t 44], none, [], [], false⟩,
          ⟨some 14, .id, [.t 45], none, [], [], false⟩])
        (.seq
          (.ops [
            ⟨some 47, .id, [.t 13], none, [], [], false⟩,
            ⟨some 48, .call "haberdash/journal.New" [4, 5], [.t 47, .c (.int .i64 0), .c (.int .i64 90), .c (.int .u32 1)], none, [], [], false⟩,
            ⟨some 46, .id, [.t 48], none, [], [], false⟩,
            ⟨some 49, .extract 0, [.t 46], none, [], [], false⟩,
            ⟨some 50, .extract 1, [.t 46], none, [], [], false⟩,
            ⟨some 15, .id, [.t 49], none, [], [], false⟩,
            ⟨some 16, .id, [.t 50], none, [], [], false⟩])
          (.seq
            (.seq
              (.ops [
                ⟨some 51, .call "haberdash/haberdashlaw08.awake" [], [], none, [], [], false⟩,
                ⟨some 52, .un .not, [.t 51], none, [], [], false⟩,
                ⟨some 53, .id, [.t 52], none, [], [], false⟩,
                ⟨some 54, .id, [.t 16], (some (53, false)), [], [], false⟩,
                ⟨some 55, .bin .neq, [.t 54, .c (.int .i64 0)], (some (53, false)), [], [], false⟩,
                ⟨some 56, .pick, [.t 53, .c (.bool true), .t 55], none, [], [], false⟩,
                ⟨some 57, .id, [.t 56], none, [], [], false⟩,
                ⟨some 58, .id, [.t 15], (some (57, false)), [], [], false⟩,
                ⟨some 59, .eqNil false .ptr, [.t 58, .c (.pointer none)], (some (57, false)), [], [], false⟩,
                ⟨some 60, .pick, [.t 57, .c (.bool true), .t 59], none, [], [], false⟩])
              (.cond (.t 60)
                (.seq
                  (.ops [
                    ⟨some 12, .id, [.c (.bool false)], none, [], [], false⟩])
                  .ret)
                .skip))
            (.seq
              (.ops [
                ⟨some 61, .id, [.t 13], none, [], [], false⟩,
                ⟨some 62, .id, [.t 1], none, [], [], false⟩,
                ⟨some 63, .call "haberdash/haberdashplay.Mod" [], [.t 62, .c (.int .i64 60)], none, [], [], false⟩,
                ⟨some 64, .call "(*haberdash/disk.Disk).Arm" [], [.t 61, .t 63], none, [], [], false⟩])
              (.seq
                (.ops [
                  ⟨some 66, .id, [.t 15], none, [], [], false⟩,
                  ⟨some 67, .id, [.t 0], none, [], [], false⟩,
                  ⟨some 68, .call "haberdash/haberdashlaw08.put" [6], [.t 66, .c (.slice none 0 0), .t 67], none, [], [], false⟩,
                  ⟨some 65, .id, [.t 68], none, [], [], false⟩,
                  ⟨some 69, .extract 0, [.t 65], none, [], [], false⟩,
                  ⟨some 70, .extract 1, [.t 65], none, [], [], false⟩,
                  ⟨some 17, .id, [.t 69], none, [], [], false⟩,
                  ⟨some 18, .id, [.t 70], none, [], [], false⟩])
                (.seq
                  (.seq
                    (.ops [
                      ⟨some 19, .id, [.c (.int .i64 0)], none, [], [], false⟩])
                    (.block 0
                      (.loop [0, 1, 6, 7, 8, 9, 10, 11, 12, 14, 15, 16, 20, 21, 22, 23, 24, 25, 26, 27, 28, 29, 30, 31, 32, 33, 34, 35, 36, 37, 38, 39, 40, 41, 42, 43, 44, 45, 46, 47, 48, 49, 50, 51, 52, 53, 54, 55, 56, 57, 58, 59, 60, 61, 62, 63, 64, 65, 66, 67, 68, 69, 70, 71, 72, 73, 74, 75, 76, 77, 78, 79, 80, 81, 82, 83, 84, 85, 86, 87, 88, 89, 90, 91, 92, 93, 94, 95, 96, 97, 98, 99, 100, 101, 102, 103, 104, 105, 106, 107, 108, 109, 110, 111, 112, 113, 114, 115, 116, 117, 118, 119, 120, 121, 122, 123, 124, 125, 126, 127, 128, 129, 130, 131, 132, 133, 134] [7, 8, 9, 10] f_law08_JournalKeeps_L0)))
                  (.seq
                    (.ops [
                      ⟨some 12, .id, [.c (.bool true)], none, [], [], false⟩])
                    .ret)))))))))
def f_law08_JournalKeeps : IFn := ⟨135, 11, [.tmp 12], f_law08_JournalKeeps_B⟩
def f_journal_New_B : ICode :=
  (.seq
    (.ops [
      ⟨some 8, .id, [.c (.pointer none)], none, [], [], false⟩,
      ⟨some 9, .id, [.c (.int .i64 0)], none, [], [], false⟩])
    (.seq
      (.block 0
        (.seq
          (.ops [
            ⟨some 11, .id, [.t 0], none, [], [], false⟩,
            ⟨some 12, .eqNil false .ptr, [.t 11, .c (.pointer none)], none, [], [], false⟩,
            ⟨some 10, .id, [.t 12], none, [], [], false⟩])
          (.cond (.t 10)
            (.seq
              (.ops [
                ⟨some 8, .id, [.c (.pointer none)], none, [], [], false⟩,
                ⟨some 9, .id, [.c (.int .i64 1)], none, [], [], false⟩])
              .ret)
            (.seq
              (.ops [
                ⟨some 14, .id, [.t 1], none, [], [], false⟩,
                ⟨some 15, .bin .lss, [.t 14, .c (.int .i64 0)], none, [], [], false⟩,
                ⟨some 16, .id, [.t 15], none, [], [], false⟩,
                ⟨some 17, .id, [.t 2], (some (16, false)), [], [], false⟩,
                ⟨some 18, .bin .lss, [.t 17, .c (.int .i64 1)], (some (16, false)), [], [], false⟩,
                ⟨some 19, .pick, [.t 16, .c (.bool true), .t 18], none, [], [], false⟩,
                ⟨some 20, .id, [.t 19], none, [], [], false⟩,
                ⟨some 21, .id, [.t 2], (some (20, false)), [], [], false⟩,
                ⟨some 22, .id, [.t 0], (some (20, false)), [], [], false⟩,
                ⟨some 23, .call "(*haberdash/disk.Disk).Len" [], [.t 22], (some (20, false)), [], [], false⟩,
                ⟨some 24, .id, [.t 1], (some (20, false)), [], [], false⟩,
                ⟨some 25, .bin .sub, [.t 23, .t 24], (some (20, false)), [], [], false⟩,
                ⟨some 26, .bin .gtr, [.t 21, .t 25], (some (20, false)), [], [], false⟩,
                ⟨some 27, .pick, [.t 20, .c (.bool true), .t 26], none, [], [], false⟩,
                ⟨some 28, .id, [.t 27], none, [], [], false⟩,
                ⟨some 29, .id, [.t 3], (some (28, false)), [], [], false⟩,
                ⟨some 30, .bin .eql, [.t 29, .c (.int .u32 0)], (some (28, false)), [], [], false⟩,
                ⟨some 31, .pick, [.t 28, .c (.bool true), .t 30], none, [], [], false⟩,
                ⟨some 13, .id, [.t 31], none, [], [], false⟩])
              (.cond (.t 13)
                (.seq
                  (.ops [
                    ⟨some 8, .id, [.c (.pointer none)], none, [], [], false⟩,
                    ⟨some 9, .id, [.c (.int .i64 2)], none, [], [], false⟩])
                  .ret)
                (.seq
                  (.ops [
                    ⟨some 33, .id, [.t 0], none, [], [], false⟩,
                    ⟨some 34, .call "(*haberdash/disk.Disk).Down" [], [.t 33], none, [], [], false⟩,
                    ⟨some 32, .id, [.t 34], none, [], [], false⟩])
                  (.cond (.t 32)
                    (.seq
                      (.ops [
                        ⟨some 8, .id, [.c (.pointer none)], none, [], [], false⟩,
                        ⟨some 9, .id, [.c (.int .i64 9)], none, [], [], false⟩])
                      .ret)
                    .skip)))))))
      (.seq
        (.ops [
          ⟨some 35, .id, [.t 0], none, [], [], false⟩,
          ⟨some 36, .id, [.t 1], none, [], [], false⟩,
          ⟨some 37, .id, [.t 2], none, [], [], false⟩,
          ⟨some 38, .id, [.t 3], none, [], [], false⟩,
          ⟨some 39, .build [(.pointer none), (.int .i64 0), (.int .i64 0), (.int .u32 0), (.int .u32 0), (.int .u32 0), (.slice none 0 0), (.int .i64 0), (.bool false)] [(0, 1), (1, 1), (2, 1), (3, 1)], [.t 35, .t 36, .t 37, .t 38], none, [], [], false⟩,
          ⟨some 40, .boxK 1 [(6, 0, 1)], [.t 39], none, [], [], false⟩,
          ⟨some 8, .id, [.t 40], none, [], [], false⟩,
          ⟨some 9, .id, [.c (.int .i64 0)], none, [], [], false⟩])
        .ret)))
def f_journal_New : IFn := ⟨41, 2, [.tmp 8, .tmp 9], f_journal_New_B⟩
def f_law08_awake_B : ICode :=
  (.seq
    (.ops [
      ⟨some 0, .id, [.c (.bool false)], none, [], [], false⟩])
    (.seq
      (.ops [
        ⟨some 7, .call "haberdash/disk.New" [0, 1, 2, 3], [.c (.int .i64 3)], none, [], [], false⟩,
        ⟨some 6, .id, [.t 7], none, [], [], false⟩,
        ⟨some 8, .extract 0, [.t 6], none, [], [], false⟩,
        ⟨some 9, .extract 1, [.t 6], none, [], [], false⟩,
        ⟨some 1, .id, [.t 8], none, [], [], false⟩,
        ⟨some 2, .id, [.t 9], none, [], [], false⟩])
      (.seq
        (.ops [
          ⟨some 11, .id, [.t 1], none, [], [], false⟩,
          ⟨some 12, .call "haberdash/journal.New" [4, 5], [.t 11, .c (.int .i64 0), .c (.int .i64 3), .c (.int .u32 1)], none, [], [], false⟩,
          ⟨some 10, .id, [.t 12], none, [], [], false⟩,
          ⟨some 13, .extract 0, [.t 10], none, [], [], false⟩,
          ⟨some 14, .extract 1, [.t 10], none, [], [], false⟩,
          ⟨some 3, .id, [.t 13], none, [], [], false⟩,
          ⟨some 4, .id, [.t 14], none, [], [], false⟩])
        (.seq
          (.ops [
            ⟨some 15, .id, [.t 3], none, [], [], false⟩,
            ⟨some 16, .makeSlice 6 1 1 [(.int .u8 0)], [.c (.int .i64 47), .c (.int .i64 47)], none, [], [], false⟩,
            ⟨some 17, .call "(*haberdash/journal.Journal).Add" [], [.t 15, .t 16], none, [], [], false⟩,
            ⟨some 5, .id, [.t 17], none, [], [], false⟩])
          (.seq
            (.ops [
              ⟨some 18, .id, [.t 4], none, [], [], false⟩,
              ⟨some 19, .bin .eql, [.t 18, .c (.int .i64 0)], none, [], [], false⟩,
              ⟨some 20, .id, [.t 19], none, [], [], false⟩,
              ⟨some 21, .id, [.t 5], (some (20, true)), [], [], false⟩,
              ⟨some 22, .bin .eql, [.t 21, .c (.int .i64 0)], (some (20, true)), [], [], false⟩,
              ⟨some 23, .pick, [.t 20, .t 22, .c (.bool false)], none, [], [], false⟩,
              ⟨some 24, .id, [.t 23], none, [], [], false⟩,
              ⟨some 25, .id, [.t 3], (some (24, true)), [], [], false⟩,
              ⟨some 26, .call "(*haberdash/journal.Journal).Used" [], [.t 25], (some (24, true)), [], [], false⟩,
              ⟨some 27, .bin .eql, [.t 26, .c (.int .i64 2)], (some (24, true)), [], [], false⟩,
              ⟨some 28, .pick, [.t 24, .t 27, .c (.bool false)], none, [], [], false⟩,
              ⟨some 29, .id, [.t 28], none, [], [], false⟩,
              ⟨some 30, .id, [.t 3], (some (29, true)), [], [], false⟩,
              ⟨some 31, .call "(*haberdash/journal.Journal).Records" [7], [.t 30], (some (29, true)), [], [], false⟩,
              ⟨some 32, .lenSlice, [.t 31], (some (29, true)), [], [], false⟩,
              ⟨some 33, .bin .eql, [.t 32, .c (.int .i64 1)], (some (29, true)), [], [], false⟩,
              ⟨some 34, .pick, [.t 29, .t 33, .c (.bool false)], none, [], [], false⟩,
              ⟨some 35, .id, [.t 34], none, [], [], false⟩,
              ⟨some 36, .id, [.t 3], (some (35, true)), [], [], false⟩,
              ⟨some 37, .call "(*haberdash/journal.Journal).First" [], [.t 36], (some (35, true)), [], [], false⟩,
              ⟨some 38, .bin .eql, [.t 37, .c (.int .u32 1)], (some (35, true)), [], [], false⟩,
              ⟨some 39, .pick, [.t 35, .t 38, .c (.bool false)], none, [], [], false⟩,
              ⟨some 40, .id, [.t 39], none, [], [], false⟩,
              ⟨some 41, .call "haberdash/journal.Need" [], [.c (.int .i64 47)], (some (40, true)), [], [], false⟩,
              ⟨some 42, .bin .eql, [.t 41, .c (.int .i64 2)], (some (40, true)), [], [], false⟩,
              ⟨some 43, .pick, [.t 40, .t 42, .c (.bool false)], none, [], [], false⟩,
              ⟨some 0, .id, [.t 43], none, [], [], false⟩])
            .ret)))))
def f_law08_awake : IFn := ⟨44, 8, [.tmp 0], f_law08_awake_B⟩
def f___journal_Journal__Add_B : ICode :=
  (.seq
    (.ops [
      ⟨some 4, .id, [.c (.int .i64 0)], none, [], [], false⟩])
    (.seq
      (.block 0
        (.seq
          (.ops [
            ⟨some 7, .id, [.t 0], none, [], [], false⟩,
            ⟨some 8, .eqNil false .ptr, [.t 7, .c (.pointer none)], none, [], [], false⟩,
            ⟨some 6, .id, [.t 8], none, [], [], false⟩])
          (.cond (.t 6)
            (.seq
              (.ops [
                ⟨some 4, .id, [.c (.int .i64 1)], none, [], [], false⟩])
              .ret)
            (.seq
              (.ops [
                ⟨some 10, .id, [.t 0], none, [], [], false⟩,
                ⟨some 11, .nilCheck, [.t 10], none, [], [], false⟩,
                ⟨some 12, .fieldAddr 8, [.t 11], none, [], [], false⟩,
                ⟨some 13, .load 1 false, [.t 12], none, [], [], false⟩,
                ⟨some 14, .id, [.t 13], none, [], [], false⟩,
                ⟨some 15, .id, [.t 0], (some (14, false)), [], [], false⟩,
                ⟨some 16, .nilCheck, [.t 15], (some (14, false)), [], [], false⟩,
                ⟨some 17, .fieldAddr 0, [.t 16], (some (14, false)), [], [], false⟩,
                ⟨some 18, .load 1 false, [.t 17], (some (14, false)), [], [], false⟩,
                ⟨some 19, .call "(*haberdash/disk.Disk).Down" [], [.t 18], (some (14, false)), [], [], false⟩,
                ⟨some 20, .pick, [.t 14, .c (.bool true), .t 19], none, [], [], false⟩,
                ⟨some 9, .id, [.t 20], none, [], [], false⟩])
              (.cond (.t 9)
                (.seq
                  (.ops [
                    ⟨some 21, .id, [.t 0], none, [], [], false⟩,
                    ⟨some 22, .nilCheck, [.t 21], none, [], [], false⟩,
                    ⟨some 23, .fieldAddr 8, [.t 22], none, [], [], false⟩,
                    ⟨none, .store 1 false, [.t 23, .c (.bool true)], none, [], [], false⟩])
                  (.seq
                    (.ops [
                      ⟨some 4, .id, [.c (.int .i64 9)], none, [], [], false⟩])
                    .ret))
                (.seq
                  (.ops [
                    ⟨some 25, .id, [.t 1], none, [], [], false⟩,
                    ⟨some 26, .lenSlice, [.t 25], none, [], [], false⟩,
                    ⟨some 27, .bin .lss, [.t 26, .c (.int .i64 1)], none, [], [], false⟩,
                    ⟨some 28, .id, [.t 27], none, [], [], false⟩,
                    ⟨some 29, .id, [.t 1], (some (28, false)), [], [], false⟩,
                    ⟨some 30, .lenSlice, [.t 29], (some (28, false)), [], [], false⟩,
                    ⟨some 31, .bin .gtr, [.t 30, .c (.int .i64 400000)], (some (28, false)), [], [], false⟩,
                    ⟨some 32, .pick, [.t 28, .c (.bool true), .t 31], none, [], [], false⟩,
                    ⟨some 24, .id, [.t 32], none, [], [], false⟩])
                  (.cond (.t 24)
                    (.seq
                      (.ops [
                        ⟨some 4, .id, [.c (.int .i64 2)], none, [], [], false⟩])
                      .ret)
                    (.seq
                      (.draw [
                        ⟨some 34, .id, [.t 1], none, [], [], false⟩,
                        ⟨some 35, .lenSlice, [.t 34], none, [], [], false⟩,
                        ⟨some 36, .call "haberdash/journal.Need" [], [.t 35], none, [], [], false⟩,
                        ⟨some 37, .id, [.t 0], none, [], [], false⟩,
                        ⟨some 38, .nilCheck, [.t 37], none, [], [], false⟩,
                        ⟨some 39, .fieldAddr 2, [.t 38], none, [], [], false⟩,
                        ⟨some 40, .load 1 false, [.t 39], none, [], [], false⟩,
                        ⟨some 41, .id, [.t 0], none, [], [], false⟩,
                        ⟨some 42, .nilCheck, [.t 41], none, [], [], false⟩,
                        ⟨some 43, .fieldAddr 7, [.t 42], none, [], [], false⟩,
                        ⟨some 44, .load 1 false, [.t 43], none, [], [], false⟩,
                        ⟨some 45, .bin .sub, [.t 40, .t 44], none, [], [], false⟩,
                        ⟨some 46, .bin .gtr, [.t 36, .t 45], none, [], [], false⟩,
                        ⟨some 33, .id, [.t 46], none, [], [], false⟩])
                      (.cond (.t 33)
                        (.seq
                          (.ops [
                            ⟨some 4, .id, [.c (.int .i64 6)], none, [], [], false⟩])
                          .ret)
                        .skip)))))))))
      (.seq
        (.seq
          (.ops [
            ⟨some 47, .id, [.t 0], none, [], [], false⟩,
            ⟨some 48, .id, [.t 1], none, [], [], false⟩,
            ⟨some 49, .call "(*haberdash/journal.Journal).lay" [], [.t 47, .t 48], none, [], [], false⟩,
            ⟨some 5, .id, [.t 49], none, [], [], false⟩])
          (.seq
            (.ops [
              ⟨some 50, .id, [.t 5], none, [], [], false⟩,
              ⟨some 51, .bin .neq, [.t 50, .c (.int .i64 0)], none, [], [], false⟩])
            (.cond (.t 51)
              (.seq
                (.ops [
                  ⟨some 52, .id, [.t 0], none, [], [], false⟩,
                  ⟨some 53, .nilCheck, [.t 52], none, [], [], false⟩,
                  ⟨some 54, .fieldAddr 8, [.t 53], none, [], [], false⟩,
                  ⟨none, .store 1 false, [.t 54, .c (.bool true)], none, [], [], false⟩])
                (.seq
                  (.ops [
                    ⟨some 55, .id, [.t 5], none, [], [], false⟩,
                    ⟨some 4, .id, [.t 55], none, [], [], false⟩])
                  .ret))
              .skip)))
        (.seq
          (.ops [
            ⟨some 56, .id, [.t 0], none, [], [], false⟩,
            ⟨some 57, .id, [.t 1], none, [], [], false⟩,
            ⟨some 58, .id, [.t 1], none, [], [], false⟩,
            ⟨some 59, .lenSlice, [.t 58], none, [], [], false⟩,
            ⟨some 60, .call "haberdash/journal.Need" [], [.t 59], none, [], [], false⟩,
            ⟨some 61, .call "(*haberdash/journal.Journal).note" [], [.t 56, .t 57, .t 60], none, [], [], false⟩])
          (.seq
            (.ops [
              ⟨some 4, .id, [.c (.int .i64 0)], none, [], [], false⟩])
            .ret)))))
def f___journal_Journal__Add : IFn := ⟨62, 0, [.tmp 4], f___journal_Journal__Add_B⟩
def f_journal_Need_B : ICode :=
  (.seq
    (.ops [
      ⟨some 2, .id, [.c (.int .i64 0)], none, [], [], false⟩])
    (.seq
      (.seq
        (.ops [
          ⟨some 3, .id, [.t 0], none, [], [], false⟩,
          ⟨some 4, .bin .lss, [.t 3, .c (.int .i64 1)], none, [], [], false⟩])
        (.cond (.t 4)
          (.seq
            (.ops [
              ⟨some 2, .id, [.c (.int .i64 0)], none, [], [], false⟩])
            .ret)
          .skip))
      (.seq
        (.ops [
          ⟨some 5, .id, [.t 0], none, [], [], false⟩,
          ⟨some 6, .bin .sub, [.t 5, .c (.int .i64 1)], none, [], [], false⟩,
          ⟨some 7, .bin .quo, [.t 6, .c (.int .i64 46)], none, [], [], false⟩,
          ⟨some 8, .bin .add, [.t 7, .c (.int .i64 1)], none, [], [], false⟩,
          ⟨some 2, .id, [.t 8], none, [], [], false⟩])
        .ret)))
def f_journal_Need : IFn := ⟨9, 0, [.tmp 2], f_journal_Need_B⟩
def f___journal_Journal__Used_B : ICode :=
  (.seq
    (.ops [
      ⟨some 2, .id, [.c (.int .i64 0)], none, [], [], false⟩])
    (.seq
      (.seq
        (.ops [
          ⟨some 3, .id, [.t 0], none, [], [], false⟩,
          ⟨some 4, .eqNil false .ptr, [.t 3, .c (.pointer none)], none, [], [], false⟩])
        (.cond (.t 4)
          (.seq
            (.ops [
              ⟨some 2, .id, [.c (.int .i64 0)], none, [], [], false⟩])
            .ret)
          .skip))
      (.seq
        (.ops [
          ⟨some 5, .id, [.t 0], none, [], [], false⟩,
          ⟨some 6, .nilCheck, [.t 5], none, [], [], false⟩,
          ⟨some 7, .fieldAddr 7, [.t 6], none, [], [], false⟩,
          ⟨some 8, .load 1 false, [.t 7], none, [], [], false⟩,
          ⟨some 2, .id, [.t 8], none, [], [], false⟩])
        .ret)))
def f___journal_Journal__Used : IFn := ⟨9, 0, [.tmp 2], f___journal_Journal__Used_B⟩
def f___journal_Journal__Records_L0 : ICode :=
  (.seq
    (.ops [
      ⟨some 14, .bin .lss, [.t 13, .t 12], none, [], [], false⟩])
    (.seq
      (.cond (.t 14)
        .skip
        (.exit 0))
      (.seq
        (.block 1
          (.seq
            (.ops [
              ⟨some 15, .indexAddr 1, [.t 11, .t 13], none, [], [], false⟩,
              ⟨some 16, .load 1 false, [.t 15], none, [], [], false⟩,
              ⟨some 5, .id, [.t 16], none, [], [], false⟩])
            (.ops [
              ⟨some 17, .id, [.t 3], none, [], [], false⟩,
              ⟨some 18, .id, [.t 5], none, [], [], false⟩,
              ⟨some 19, .call "bytes.Clone" [1], [.t 18], none, [], [], false⟩,
              ⟨some 20, .buildSlice 2 true 1 1 [(.slice none 0 0)] [(0, 1)], [.t 19], none, [], [], false⟩,
              ⟨some 21, .append 3 true 1 24, [.t 17, .t 20], none, [], [], false⟩,
              ⟨some 3, .id, [.t 21], none, [], [], false⟩])))
        (.ops [
          ⟨some 22, .bin .add, [.t 13, .c (.int .i64 1)], none, [], [], false⟩,
          ⟨some 13, .id, [.t 22], none, [], [], false⟩]))))
def f___journal_Journal__Records_H0 (t3 t11 t12 t13 : AV) : List AV := [.dead, .dead, .dead, t3, .dead, .dead, .dead, .dead, .dead, .dead, .dead, t11, t12, t13, .dead, .dead, .dead, .dead, .dead, .dead, .dead, .dead, .dead, .dead]
def f___journal_Journal__Records_B : ICode :=
  (.seq
    (.ops [
      ⟨some 2, .id, [.c (.slice none 0 0)], none, [], [], false⟩])
    (.seq
      (.seq
        (.ops [
          ⟨some 6, .id, [.t 0], none, [], [], false⟩,
          ⟨some 7, .eqNil false .ptr, [.t 6, .c (.pointer none)], none, [], [], false⟩])
        (.cond (.t 7)
          (.seq
            (.ops [
              ⟨some 2, .id, [.c (.slice none 0 0)], none, [], [], false⟩])
            .ret)
          .skip))
      (.seq
        (.ops [
          ⟨some 3, .nilv 0 1, [.c (.slice none 0 0)], none, [], [], false⟩])
        (.seq
          (.seq
            (.ops [
              ⟨some 8, .id, [.t 0], none, [], [], false⟩,
              ⟨some 9, .nilCheck, [.t 8], none, [], [], false⟩,
              ⟨some 10, .fieldAddr 6, [.t 9], none, [], [], false⟩,
              ⟨some 11, .load 1 false, [.t 10], none, [], [], false⟩,
              ⟨some 12, .lenSlice, [.t 11], none, [], [], false⟩,
              ⟨some 13, .id, [.c (.int .i64 0)], none, [], [], false⟩])
            (.block 0
              (.loop [0, 1, 2, 4, 5, 6, 7, 8, 9, 10, 14, 15, 16, 17, 18, 19, 20, 21, 22, 23] [1, 2, 3] f___journal_Journal__Records_L0)))
          (.seq
            (.ops [
              ⟨some 23, .id, [.t 3], none, [], [], false⟩,
              ⟨some 2, .id, [.t 23], none, [], [], false⟩])
            .ret)))))
def f___journal_Journal__Records : IFn := ⟨24, 4, [.tmp 2], f___journal_Journal__Records_B⟩
def f_law08_put_L0 : ICode :=
  (.seq
    (.seq
      (.ops [
        ⟨some 13, .id, [.t 9], none, [], [], false⟩,
        ⟨some 14, .id, [.t 2], none, [], [], false⟩,
        ⟨some 15, .lenSlice, [.t 14], none, [], [], false⟩,
        ⟨some 16, .bin .lss, [.t 13, .t 15], none, [], [], false⟩])
      (.cond (.t 16)
        .skip
        (.exit 0)))
    (.seq
      (.block 1
        (.seq
          (.draw [
            ⟨some 19, .buildSlice 0 false 1 1 [(.int .u8 0)] [(0, 1)], [.c (.int .u8 1)], none, [], [], false⟩,
            ⟨some 20, .id, [.t 2], none, [], [], false⟩,
            ⟨some 21, .id, [.t 9], none, [], [], false⟩,
            ⟨some 22, .indexAddr 1, [.t 20, .t 21], none, [], [], false⟩,
            ⟨some 23, .load 1 false, [.t 22], none, [0], [], false⟩,
            ⟨some 24, .id, [.t 2], none, [], [], false⟩,
            ⟨some 25, .id, [.t 9], none, [], [], false⟩,
            ⟨some 26, .indexAddr 1, [.t 24, .t 25], none, [], [], false⟩,
            ⟨some 27, .load 1 false, [.t 26], none, [0], [], false⟩,
            ⟨some 28, .lenSlice, [.t 27], none, [], [], false⟩,
            ⟨some 29, .min, [.t 28, .c (.int .i64 200)], none, [], [], false⟩,
            ⟨some 30, .slice 1 false true false, [.t 23, .t 29], none, [], [], false⟩,
            ⟨some 31, .append 1 false 1 1, [.t 19, .t 30], none, [], [0], false⟩,
            ⟨some 10, .id, [.t 31], none, [], [], false⟩])
          (.seq
            (.ops [
              ⟨some 32, .id, [.t 1], none, [], [], false⟩,
              ⟨some 33, .id, [.t 10], none, [], [], false⟩,
              ⟨some 34, .buildSlice 2 true 1 1 [(.slice none 0 0)] [(0, 1)], [.t 33], none, [], [], false⟩,
              ⟨some 35, .append 3 true 1 24, [.t 32, .t 34], none, [], [], false⟩,
              ⟨some 1, .id, [.t 35], none, [], [], false⟩])
            (.seq
              (.seq
                (.ops [
                  ⟨some 36, .id, [.t 0], none, [], [], false⟩,
                  ⟨some 37, .id, [.t 10], none, [], [], false⟩,
                  ⟨some 38, .call "(*haberdash/journal.Journal).Add" [], [.t 36, .t 37], none, [], [], false⟩,
                  ⟨some 39, .bin .neq, [.t 38, .c (.int .i64 0)], none, [], [], false⟩])
                (.cond (.t 39)
                  (.seq
                    (.ops [
                      ⟨some 40, .id, [.t 1], none, [], [], false⟩,
                      ⟨some 41, .id, [.t 8], none, [], [], false⟩,
                      ⟨some 6, .id, [.t 40], none, [], [], false⟩,
                      ⟨some 7, .id, [.t 41], none, [], [], false⟩])
                    .ret)
                  .skip))
              (.ops [
                ⟨some 42, .id, [.t 8], none, [], [], false⟩,
                ⟨some 43, .bin .add, [.t 42, .c (.int .i64 1)], none, [], [], false⟩,
                ⟨some 8, .id, [.t 43], none, [], [], false⟩])))))
      (.ops [
        ⟨some 17, .id, [.t 9], none, [], [], false⟩,
        ⟨some 18, .bin .add, [.t 17, .c (.int .i64 1)], none, [], [], false⟩,
        ⟨some 9, .id, [.t 18], none, [], [], false⟩])))
def f_law08_put_H0 (t0 t1 t2 t8 t9 : AV) : List AV := [t0, t1, t2, .dead, .dead, .dead, .dead, .dead, t8, t9, .dead, .dead, .dead, .dead, .dead, .dead, .dead, .dead, .dead, .dead, .dead, .dead, .dead, .dead, .dead, .dead, .dead, .dead, .dead, .dead, .dead, .dead, .dead, .dead, .dead, .dead, .dead, .dead, .dead, .dead, .dead, .dead, .dead, .dead, .dead, .dead]
def f_law08_put_B : ICode :=
  (.seq
    (.ops [
      ⟨some 6, .id, [.c (.slice none 0 0)], none, [], [], false⟩,
      ⟨some 7, .id, [.c (.int .i64 0)], none, [], [], false⟩])
    (.seq
      (.ops [
        ⟨some 11, .id, [.t 1], none, [], [], false⟩,
        ⟨some 12, .lenSlice, [.t 11], none, [], [], false⟩,
        ⟨some 8, .id, [.t 12], none, [], [], false⟩])
      (.seq
        (.seq
          (.ops [
            ⟨some 9, .id, [.c (.int .i64 0)], none, [], [], false⟩])
          (.block 0
            (.loop [3, 4, 5, 6, 7, 10, 11, 12, 13, 14, 15, 16, 17, 18, 19, 20, 21, 22, 23, 24, 25, 26, 27, 28, 29, 30, 31, 32, 33, 34, 35, 36, 37, 38, 39, 40, 41, 42, 43, 44, 45] [0, 1, 2] f_law08_put_L0)))
        (.seq
          (.ops [
            ⟨some 44, .id, [.t 1], none, [], [], false⟩,
            ⟨some 45, .id, [.t 8], none, [], [], false⟩,
            ⟨some 6, .id, [.t 44], none, [], [], false⟩,
            ⟨some 7, .id, [.t 45], none, [], [], false⟩])
          .ret))))
def f_law08_put : IFn := ⟨46, 4, [.tmp 6, .tmp 7], f_law08_put_B⟩
def f_journal_Open_L0 : ICode :=
  (.seq
    (.seq
      (.ops [
        ⟨some 23, .id, [.t 10], none, [], [], false⟩,
        ⟨some 24, .call "(*haberdash/journal.Journal).take" [], [.t 23], none, [], [], false⟩])
      (.cond (.t 24)
        .skip
        (.exit 0)))
    (.block 1
      .skip))
def f_journal_Open_H0 (t3 t10 : AV) : List AV := [.dead, .dead, .dead, t3, .dead, .dead, .dead, .dead, .dead, .dead, t10, .dead, .dead, .dead, .dead, .dead, .dead, .dead, .dead, .dead, .dead, .dead, .dead, .dead, .dead, .dead, .dead, .dead, .dead, .dead]
def f_journal_Open_B : ICode :=
  (.seq
    (.ops [
      ⟨some 8, .id, [.c (.pointer none)], none, [], [], false⟩,
      ⟨some 9, .id, [.c (.int .i64 0)], none, [], [], false⟩])
    (.seq
      (.ops [
        ⟨some 13, .id, [.t 0], none, [], [], false⟩,
        ⟨some 14, .id, [.t 1], none, [], [], false⟩,
        ⟨some 15, .id, [.t 2], none, [], [], false⟩,
        ⟨some 16, .id, [.t 3], none, [], [], false⟩,
        ⟨some 17, .call "haberdash/journal.New" [0, 1], [.t 13, .t 14, .t 15, .t 16], none, [], [], false⟩,
        ⟨some 12, .id, [.t 17], none, [], [], false⟩,
        ⟨some 18, .extract 0, [.t 12], none, [], [], false⟩,
        ⟨some 19, .extract 1, [.t 12], none, [], [], false⟩,
        ⟨some 10, .id, [.t 18], none, [], [], false⟩,
        ⟨some 11, .id, [.t 19], none, [], [], false⟩])
      (.seq
        (.seq
          (.ops [
            ⟨some 20, .id, [.t 11], none, [], [], false⟩,
            ⟨some 21, .bin .neq, [.t 20, .c (.int .i64 0)], none, [], [], false⟩])
          (.cond (.t 21)
            (.seq
              (.ops [
                ⟨some 22, .id, [.t 11], none, [], [], false⟩,
                ⟨some 8, .id, [.c (.pointer none)], none, [], [], false⟩,
                ⟨some 9, .id, [.t 22], none, [], [], false⟩])
              .ret)
            .skip))
        (.seq
          (.block 0
            (.loop [0, 1, 2, 4, 5, 6, 7, 8, 9, 11, 12, 13, 14, 15, 16, 17, 18, 19, 20, 21, 22, 23, 24, 25, 26, 27, 28, 29] [] f_journal_Open_L0))
          (.seq
            (.ops [
              ⟨some 25, .id, [.t 10], none, [], [], false⟩,
              ⟨some 26, .id, [.t 3], none, [], [], false⟩,
              ⟨some 27, .nilCheck, [.t 25], none, [], [], false⟩,
              ⟨some 28, .fieldAddr 3, [.t 27], none, [], [], false⟩,
              ⟨none, .store 1 false, [.t 28, .t 26], none, [], [], false⟩])
            (.seq
              (.ops [
                ⟨some 29, .id, [.t 10], none, [], [], false⟩,
                ⟨some 8, .id, [.t 29], none, [], [], false⟩,
                ⟨some 9, .id, [.c (.int .i64 0)], none, [], [], false⟩])
              .ret))))))
def f_journal_Open : IFn := ⟨30, 2, [.tmp 8, .tmp 9], f_journal_Open_B⟩
def f_help_Rows_B : ICode :=
  (.seq
    (.ops [
      ⟨some 4, .id, [.c (.bool false)], none, [], [], false⟩])
    (.seq
      (.ops [
        ⟨some 5, .id, [.t 0], none, [], [], false⟩,
        ⟨some 6, .id, [.t 1], none, [], [], false⟩,
        ⟨some 7, .call "haberdash/haberdashhelp.Same[[]byte]" [], [.t 5, .t 6, .f "haberdash/haberdashhelp.Bytes"], none, [], [], false⟩,
        ⟨some 4, .id, [.t 7], none, [], [], false⟩])
      .ret))
def f_help_Rows : IFn := ⟨8, 0, [.tmp 4], f_help_Rows_B⟩
def f___journal_Journal__First_B : ICode :=
  (.seq
    (.ops [
      ⟨some 2, .id, [.c (.int .u32 0)], none, [], [], false⟩])
    (.seq
      (.seq
        (.ops [
          ⟨some 3, .id, [.t 0], none, [], [], false⟩,
          ⟨some 4, .eqNil false .ptr, [.t 3, .c (.pointer none)], none, [], [], false⟩])
        (.cond (.t 4)
          (.seq
            (.ops [
              ⟨some 2, .id, [.c (.int .u32 0)], none, [], [], false⟩])
            .ret)
          .skip))
      (.seq
        (.ops [
          ⟨some 5, .id, [.t 0], none, [], [], false⟩,
          ⟨some 6, .nilCheck, [.t 5], none, [], [], false⟩,
          ⟨some 7, .fieldAddr 5, [.t 6], none, [], [], false⟩,
          ⟨some 8, .load 1 false, [.t 7], none, [], [], false⟩,
          ⟨some 2, .id, [.t 8], none, [], [], false⟩])
        .ret)))
def f___journal_Journal__First : IFn := ⟨9, 0, [.tmp 2], f___journal_Journal__First_B⟩
def f_ref06_Blank_B : ICode :=
  (.seq
    (.ops [
      ⟨some 8, .id, [.c (.pointer none)], none, [], [], false⟩,
      ⟨some 9, .id, [.c (.int .i64 0)], none, [], [], false⟩])
    (.seq
      (.seq
        (.ops [
          ⟨some 10, .id, [.t 0], none, [], [], false⟩,
          ⟨some 11, .eqNil false .ptr, [.t 10, .c (.pointer none)], none, [], [], false⟩])
        (.cond (.t 11)
          (.seq
            (.ops [
              ⟨some 8, .id, [.c (.pointer none)], none, [], [], false⟩,
              ⟨some 9, .id, [.c (.int .i64 1)], none, [], [], false⟩])
            .ret)
          .skip))
      (.seq
        (.seq
          (.ops [
            ⟨some 12, .id, [.t 1], none, [], [], false⟩,
            ⟨some 13, .bin .lss, [.t 12, .c (.int .i64 0)], none, [], [], false⟩,
            ⟨some 14, .id, [.t 13], none, [], [], false⟩,
            ⟨some 15, .id, [.t 2], (some (14, false)), [], [], false⟩,
            ⟨some 16, .bin .lss, [.t 15, .c (.int .i64 1)], (some (14, false)), [], [], false⟩,
            ⟨some 17, .pick, [.t 14, .c (.bool true), .t 16], none, [], [], false⟩,
            ⟨some 18, .id, [.t 17], none, [], [], false⟩,
            ⟨some 19, .id, [.t 1], (some (18, false)), [], [], false⟩,
            ⟨some 20, .id, [.t 0], (some (18, false)), [], [], false⟩,
            ⟨some 21, .nilCheck, [.t 20], (some (18, false)), [], [], false⟩,
            ⟨some 22, .fieldAddr 0, [.t 21], (some (18, false)), [], [], false⟩,
            ⟨some 23, .load 1 false, [.t 22], (some (18, false)), [], [], false⟩,
            ⟨some 24, .lenSlice, [.t 23], (some (18, false)), [], [], false⟩,
            ⟨some 25, .bin .gtr, [.t 19, .t 24], (some (18, false)), [], [], false⟩,
            ⟨some 26, .pick, [.t 18, .c (.bool true), .t 25], none, [], [], false⟩,
            ⟨some 27, .id, [.t 26], none, [], [], false⟩,
            ⟨some 28, .id, [.t 2], (some (27, false)), [], [], false⟩,
            ⟨some 29, .id, [.t 0], (some (27, false)), [], [], false⟩,
            ⟨some 30, .nilCheck, [.t 29], (some (27, false)), [], [], false⟩,
            ⟨some 31, .fieldAddr 0, [.t 30], (some (27, false)), [], [], false⟩,
            ⟨some 32, .load 1 false, [.t 31], (some (27, false)), [], [], false⟩,
            ⟨some 33, .lenSlice, [.t 32], (some (27, false)), [], [], false⟩,
            ⟨some 34, .id, [.t 1], (some (27, false)), [], [], false⟩,
            ⟨some 35, .bin .sub, [.t 33, .t 34], (some (27, false)), [], [], false⟩,
            ⟨some 36, .bin .gtr, [.t 28, .t 35], (some (27, false)), [], [], false⟩,
            ⟨some 37, .pick, [.t 27, .c (.bool true), .t 36], none, [], [], false⟩,
            ⟨some 38, .id, [.t 37], none, [], [], false⟩,
            ⟨some 39, .id, [.t 3], (some (38, false)), [], [], false⟩,
            ⟨some 40, .bin .eql, [.t 39, .c (.int .u32 0)], (some (38, false)), [], [], false⟩,
            ⟨some 41, .pick, [.t 38, .c (.bool true), .t 40], none, [], [], false⟩])
          (.cond (.t 41)
            (.seq
              (.ops [
                ⟨some 8, .id, [.c (.pointer none)], none, [], [], false⟩,
                ⟨some 9, .id, [.c (.int .i64 2)], none, [], [], false⟩])
              .ret)
            .skip))
        (.seq
          (.seq
            (.ops [
              ⟨some 42, .id, [.t 0], none, [], [], false⟩,
              ⟨some 43, .nilCheck, [.t 42], none, [], [], false⟩,
              ⟨some 44, .fieldAddr 3, [.t 43], none, [], [], false⟩,
              ⟨some 45, .load 1 false, [.t 44], none, [], [], false⟩])
            (.cond (.t 45)
              (.seq
                (.ops [
                  ⟨some 8, .id, [.c (.pointer none)], none, [], [], false⟩,
                  ⟨some 9, .id, [.c (.int .i64 9)], none, [], [], false⟩])
                .ret)
              .skip))
          (.seq
            (.ops [
              ⟨some 46, .id, [.t 0], none, [], [], false⟩,
              ⟨some 47, .id, [.t 1], none, [], [], false⟩,
              ⟨some 48, .id, [.t 2], none, [], [], false⟩,
              ⟨some 49, .id, [.t 3], none, [], [], false⟩,
              ⟨some 50, .build [(.pointer none), (.int .i64 0), (.int .i64 0), (.int .u32 0), (.slice none 0 0), (.int .u32 0), (.int .i64 0), (.bool false)] [(0, 1), (1, 1), (2, 1), (3, 1)], [.t 46, .t 47, .t 48, .t 49], none, [], [], false⟩,
              ⟨some 51, .boxK 1 [(4, 0, 1)], [.t 50], none, [], [], false⟩,
              ⟨some 8, .id, [.t 51], none, [], [], false⟩,
              ⟨some 9, .id, [.c (.int .i64 0)], none, [], [], false⟩])
            .ret)))))
def f_ref06_Blank : IFn := ⟨52, 2, [.tmp 8, .tmp 9], f_ref06_Blank_B⟩
def f_ref06_Open_L0 : ICode :=
  (.block 1
    (.seq
      (.draw [
        ⟨some 28, .id, [.t 10], none, [], [], false⟩,
        ⟨some 29, .id, [.t 10], none, [], [], false⟩,
        ⟨some 30, .nilCheck, [.t 29], none, [], [], false⟩,
        ⟨some 31, .fieldAddr 6, [.t 30], none, [], [], false⟩,
        ⟨some 32, .load 1 false, [.t 31], none, [], [], false⟩,
        ⟨some 33, .id, [.t 10], none, [], [], false⟩,
        ⟨some 34, .nilCheck, [.t 33], none, [], [], false⟩,
        ⟨some 35, .fieldAddr 4, [.t 34], none, [], [], false⟩,
        ⟨some 36, .load 1 false, [.t 35], none, [], [], false⟩,
        ⟨some 37, .lenSlice, [.t 36], none, [], [], false⟩,
        ⟨some 38, .convInt .u32, [.t 37], none, [], [], false⟩,
        ⟨some 39, .id, [.t 12], none, [], [], false⟩,
        ⟨some 40, .call "(*haberdash/haberdashref06.Journal).record" [2], [.t 28, .t 32, .t 38, .t 39], none, [], [], false⟩,
        ⟨some 27, .id, [.t 40], none, [], [], false⟩,
        ⟨some 41, .extract 0, [.t 27], none, [], [], false⟩,
        ⟨some 42, .extract 1, [.t 27], none, [], [], false⟩,
        ⟨some 43, .extract 2, [.t 27], none, [], [], false⟩,
        ⟨some 13, .id, [.t 41], none, [], [], false⟩,
        ⟨some 14, .id, [.t 42], none, [], [], false⟩,
        ⟨some 15, .id, [.t 43], none, [], [], false⟩])
      (.seq
        (.seq
          (.ops [
            ⟨some 44, .id, [.t 14], none, [], [], false⟩,
            ⟨some 45, .bin .eql, [.t 44, .c (.int .i64 0)], none, [], [], false⟩])
          (.cond (.t 45)
            (.seq
              (.ops [
                ⟨some 46, .id, [.t 10], none, [], [], false⟩,
                ⟨some 8, .id, [.t 46], none, [], [], false⟩,
                ⟨some 9, .id, [.c (.int .i64 0)], none, [], [], false⟩])
              .ret)
            .skip))
        (.seq
          (.seq
            (.ops [
              ⟨some 47, .id, [.t 10], none, [], [], false⟩,
              ⟨some 48, .nilCheck, [.t 47], none, [], [], false⟩,
              ⟨some 49, .fieldAddr 4, [.t 48], none, [], [], false⟩,
              ⟨some 50, .load 1 false, [.t 49], none, [], [], false⟩,
              ⟨some 51, .lenSlice, [.t 50], none, [], [], false⟩,
              ⟨some 52, .bin .eql, [.t 51, .c (.int .i64 0)], none, [], [], false⟩])
            (.cond (.t 52)
              (.ops [
                ⟨some 53, .id, [.t 10], none, [], [], false⟩,
                ⟨some 54, .id, [.t 15], none, [], [], false⟩,
                ⟨some 55, .nilCheck, [.t 53], none, [], [], false⟩,
                ⟨some 56, .fieldAddr 5, [.t 55], none, [], [], false⟩,
                ⟨none, .store 1 false, [.t 56, .t 54], none, [], [], false⟩])
              .skip))
          (.seq
            (.ops [
              ⟨some 57, .id, [.t 10], none, [], [], false⟩,
              ⟨some 58, .id, [.t 10], none, [], [], false⟩,
              ⟨some 59, .nilCheck, [.t 58], none, [], [], false⟩,
              ⟨some 60, .fieldAddr 4, [.t 59], none, [], [], false⟩,
              ⟨some 61, .load 1 false, [.t 60], none, [], [], false⟩,
              ⟨some 62, .id, [.t 13], none, [], [], false⟩,
              ⟨some 63, .buildSlice 3 true 1 1 [(.slice none 0 0)] [(0, 1)], [.t 62], none, [], [], false⟩,
              ⟨some 64, .append 4 true 1 24, [.t 61, .t 63], none, [], [], false⟩,
              ⟨some 65, .nilCheck, [.t 57], none, [], [], false⟩,
              ⟨some 66, .fieldAddr 4, [.t 65], none, [], [], false⟩,
              ⟨none, .store 1 false, [.t 66, .t 64], none, [], [], false⟩])
            (.ops [
              ⟨some 67, .id, [.t 10], none, [], [], false⟩,
              ⟨some 68, .id, [.t 10], none, [], [], false⟩,
              ⟨some 69, .nilCheck, [.t 68], none, [], [], false⟩,
              ⟨some 70, .fieldAddr 6, [.t 69], none, [], [], false⟩,
              ⟨some 71, .load 1 false, [.t 70], none, [], [], false⟩,
              ⟨some 72, .id, [.t 14], none, [], [], false⟩,
              ⟨some 73, .bin .add, [.t 71, .t 72], none, [], [], false⟩,
              ⟨some 74, .id, [.t 15], none, [], [], false⟩,
              ⟨some 75, .nilCheck, [.t 67], none, [], [], false⟩,
              ⟨some 76, .fieldAddr 6, [.t 75], none, [], [], false⟩,
              ⟨none, .store 1 false, [.t 76, .t 73], none, [], [], false⟩,
              ⟨some 12, .id, [.t 74], none, [], [], false⟩]))))))
def f_ref06_Open_B : ICode :=
  (.seq
    (.ops [
      ⟨some 8, .id, [.c (.pointer none)], none, [], [], false⟩,
      ⟨some 9, .id, [.c (.int .i64 0)], none, [], [], false⟩])
    (.seq
      (.ops [
        ⟨some 17, .id, [.t 0], none, [], [], false⟩,
        ⟨some 18, .id, [.t 1], none, [], [], false⟩,
        ⟨some 19, .id, [.t 2], none, [], [], false⟩,
        ⟨some 20, .id, [.t 3], none, [], [], false⟩,
        ⟨some 21, .call "haberdash/haberdashref06.Blank" [0, 1], [.t 17, .t 18, .t 19, .t 20], none, [], [], false⟩,
        ⟨some 16, .id, [.t 21], none, [], [], false⟩,
        ⟨some 22, .extract 0, [.t 16], none, [], [], false⟩,
        ⟨some 23, .extract 1, [.t 16], none, [], [], false⟩,
        ⟨some 10, .id, [.t 22], none, [], [], false⟩,
        ⟨some 11, .id, [.t 23], none, [], [], false⟩])
      (.seq
        (.seq
          (.ops [
            ⟨some 24, .id, [.t 11], none, [], [], false⟩,
            ⟨some 25, .bin .neq, [.t 24, .c (.int .i64 0)], none, [], [], false⟩])
          (.cond (.t 25)
            (.seq
              (.ops [
                ⟨some 26, .id, [.t 11], none, [], [], false⟩,
                ⟨some 8, .id, [.c (.pointer none)], none, [], [], false⟩,
                ⟨some 9, .id, [.t 26], none, [], [], false⟩])
              .ret)
            .skip))
        (.seq
          (.ops [
            ⟨some 12, .id, [.c (.int .u32 1)], none, [], [], false⟩])
          (.block 0
            (.loop [0, 1, 2, 3, 4, 5, 6, 7, 8, 9, 11, 13, 14, 15, 16, 17, 18, 19, 20, 21, 22, 23, 24, 25, 26, 27, 28, 29, 30, 31, 32, 33, 34, 35, 36, 37, 38, 39, 40, 41, 42, 43, 44, 45, 46, 47, 48, 49, 50, 51, 52, 53, 54, 55, 56, 57, 58, 59, 60, 61, 62, 63, 64, 65, 66, 67, 68, 69, 70, 71, 72, 73, 74, 75, 76] [2, 3, 4] f_ref06_Open_L0))))))
def f_ref06_Open : IFn := ⟨77, 5, [.tmp 8, .tmp 9], f_ref06_Open_B⟩
def f___ref06_Journal__Add_L0 : ICode :=
  (.seq
    (.seq
      (.ops [
        ⟨some 48, .id, [.t 6], none, [], [], false⟩,
        ⟨some 49, .id, [.t 5], none, [], [], false⟩,
        ⟨some 50, .bin .lss, [.t 48, .t 49], none, [], [], false⟩])
      (.cond (.t 50)
        .skip
        (.exit 0)))
    (.seq
      (.block 1
        (.seq
          (.draw [
            ⟨some 53, .id, [.t 0], none, [], [], false⟩,
            ⟨some 54, .nilCheck, [.t 53], none, [], [], false⟩,
            ⟨some 55, .fieldAddr 3, [.t 54], none, [], [], false⟩,
            ⟨some 56, .load 1 false, [.t 55], none, [0], [], false⟩,
            ⟨some 57, .id, [.t 0], none, [], [], false⟩,
            ⟨some 58, .nilCheck, [.t 57], none, [], [], false⟩,
            ⟨some 59, .fieldAddr 4, [.t 58], none, [], [], false⟩,
            ⟨some 60, .load 1 false, [.t 59], none, [0], [], false⟩,
            ⟨some 61, .lenSlice, [.t 60], none, [], [], false⟩,
            ⟨some 62, .convInt .u32, [.t 61], none, [], [], false⟩,
            ⟨some 63, .id, [.t 6], none, [], [], false⟩,
            ⟨some 64, .bin .eql, [.t 63, .c (.int .i64 0)], none, [], [], false⟩,
            ⟨some 65, .id, [.t 6], none, [], [], false⟩,
            ⟨some 66, .id, [.t 5], none, [], [], false⟩,
            ⟨some 67, .bin .sub, [.t 66, .c (.int .i64 1)], none, [], [], false⟩,
            ⟨some 68, .bin .eql, [.t 65, .t 67], none, [], [], false⟩,
            ⟨some 69, .id, [.t 1], none, [], [], false⟩,
            ⟨some 70, .id, [.t 6], none, [], [], false⟩,
            ⟨some 71, .bin .mul, [.c (.int .i64 46), .t 70], none, [], [], false⟩,
            ⟨some 72, .id, [.t 6], none, [], [], false⟩,
            ⟨some 73, .bin .mul, [.c (.int .i64 46), .t 72], none, [], [], false⟩,
            ⟨some 74, .bin .add, [.t 73, .c (.int .i64 46)], none, [], [], false⟩,
            ⟨some 75, .id, [.t 1], none, [], [], false⟩,
            ⟨some 76, .lenSlice, [.t 75], none, [], [], false⟩,
            ⟨some 77, .min, [.t 74, .t 76], none, [], [], false⟩,
            ⟨some 78, .slice 1 true true false, [.t 69, .t 71, .t 77], none, [], [], false⟩,
            ⟨some 79, .build [(.int .u32 0), (.int .u32 0), (.bool false), (.bool false), (.slice none 0 0)] [(0, 1), (1, 1), (2, 1), (3, 1), (4, 1)], [.t 56, .t 62, .t 64, .t 68, .t 78], none, [], [], false⟩,
            ⟨some 7, .alloc 0 [(.int .u32 0), (.int .u32 0), (.bool false), (.bool false), (.slice none 0 0)] [], [], none, [], [], false⟩,
            ⟨none, .store 5 false, [.t 7, .t 79], none, [], [0], false⟩])
          (.seq
            (.ops [
              ⟨some 81, .load 5 true, [.t 7], none, [], [], false⟩,
              ⟨some 82, .call "haberdash/haberdashref04.Lay" [], [.t 81], none, [], [], false⟩,
              ⟨some 80, .id, [.t 82], none, [], [], false⟩,
              ⟨some 83, .extract 0, [.t 80], none, [], [], false⟩,
              ⟨some 84, .extract 1, [.t 80], none, [], [], false⟩,
              ⟨some 8, .alloc 1 zeros64 [], [], none, [], [], false⟩,
              ⟨none, .store 64 false, [.t 8, .t 83], none, [], [], false⟩,
              ⟨some 9, .id, [.t 84], none, [], [], false⟩])
            (.seq
              (.draw [
                ⟨some 85, .id, [.t 0], none, [], [], false⟩,
                ⟨some 86, .nilCheck, [.t 85], none, [], [], false⟩,
                ⟨some 87, .fieldAddr 0, [.t 86], none, [], [], false⟩,
                ⟨some 88, .load 1 false, [.t 87], none, [], [], false⟩,
                ⟨some 89, .id, [.t 0], none, [], [], false⟩,
                ⟨some 90, .nilCheck, [.t 89], none, [], [], false⟩,
                ⟨some 91, .fieldAddr 1, [.t 90], none, [], [], false⟩,
                ⟨some 92, .load 1 false, [.t 91], none, [], [], false⟩,
                ⟨some 93, .id, [.t 0], none, [], [], false⟩,
                ⟨some 94, .nilCheck, [.t 93], none, [], [], false⟩,
                ⟨some 95, .fieldAddr 6, [.t 94], none, [], [], false⟩,
                ⟨some 96, .load 1 false, [.t 95], none, [], [], false⟩,
                ⟨some 97, .bin .add, [.t 92, .t 96], none, [], [], false⟩,
                ⟨some 98, .id, [.t 6], none, [], [], false⟩,
                ⟨some 99, .bin .add, [.t 97, .t 98], none, [], [], false⟩,
                ⟨some 100, .load 64 true, [.t 8], none, [], [], false⟩,
                ⟨some 101, .call "(*haberdash/haberdashref06.Disk).Write" [], [.t 88, .t 99, .t 100], none, [], [], true⟩,
                ⟨some 102, .bin .neq, [.t 101, .c (.int .i64 0)], none, [], [], false⟩])
              (.cond (.t 102)
                (.seq
                  (.ops [
                    ⟨some 103, .id, [.t 0], none, [], [], false⟩,
                    ⟨some 104, .nilCheck, [.t 103], none, [], [], false⟩,
                    ⟨some 105, .fieldAddr 7, [.t 104], none, [], [], false⟩,
                    ⟨none, .store 1 false, [.t 105, .c (.bool true)], none, [], [], false⟩])
                  (.seq
                    (.ops [
                      ⟨some 4, .id, [.c (.int .i64 9)], none, [], [], false⟩])
                    .ret))
                .skip)))))
      (.ops [
        ⟨some 51, .id, [.t 6], none, [], [], false⟩,
        ⟨some 52, .bin .add, [.t 51, .c (.int .i64 1)], none, [], [], false⟩,
        ⟨some 6, .id, [.t 52], none, [], [], false⟩])))
def f___ref06_Journal__Add_B : ICode :=
  (.seq
    (.ops [
      ⟨some 4, .id, [.c (.int .i64 0)], none, [], [], false⟩])
    (.seq
      (.seq
        (.ops [
          ⟨some 10, .id, [.t 0], none, [], [], false⟩,
          ⟨some 11, .nilCheck, [.t 10], none, [], [], false⟩,
          ⟨some 12, .fieldAddr 7, [.t 11], none, [], [], false⟩,
          ⟨some 13, .load 1 false, [.t 12], none, [], [], false⟩,
          ⟨some 14, .id, [.t 13], none, [], [], false⟩,
          ⟨some 15, .id, [.t 0], (some (14, false)), [], [], false⟩,
          ⟨some 16, .nilCheck, [.t 15], (some (14, false)), [], [], false⟩,
          ⟨some 17, .fieldAddr 0, [.t 16], (some (14, false)), [], [], false⟩,
          ⟨some 18, .load 1 false, [.t 17], (some (14, false)), [], [], false⟩,
          ⟨some 19, .nilCheck, [.t 18], (some (14, false)), [], [], false⟩,
          ⟨some 20, .fieldAddr 3, [.t 19], (some (14, false)), [], [], false⟩,
          ⟨some 21, .load 1 false, [.t 20], (some (14, false)), [], [], false⟩,
          ⟨some 22, .pick, [.t 14, .c (.bool true), .t 21], none, [], [], false⟩])
        (.cond (.t 22)
          (.seq
            (.ops [
              ⟨some 23, .id, [.t 0], none, [], [], false⟩,
              ⟨some 24, .nilCheck, [.t 23], none, [], [], false⟩,
              ⟨some 25, .fieldAddr 7, [.t 24], none, [], [], false⟩,
              ⟨none, .store 1 false, [.t 25, .c (.bool true)], none, [], [], false⟩])
            (.seq
              (.ops [
                ⟨some 4, .id, [.c (.int .i64 9)], none, [], [], false⟩])
              .ret))
          .skip))
      (.seq
        (.seq
          (.ops [
            ⟨some 26, .id, [.t 1], none, [], [], false⟩,
            ⟨some 27, .lenSlice, [.t 26], none, [], [], false⟩,
            ⟨some 28, .bin .lss, [.t 27, .c (.int .i64 1)], none, [], [], false⟩,
            ⟨some 29, .id, [.t 28], none, [], [], false⟩,
            ⟨some 30, .id, [.t 1], (some (29, false)), [], [], false⟩,
            ⟨some 31, .lenSlice, [.t 30], (some (29, false)), [], [], false⟩,
            ⟨some 32, .bin .gtr, [.t 31, .c (.int .i64 400000)], (some (29, false)), [], [], false⟩,
            ⟨some 33, .pick, [.t 29, .c (.bool true), .t 32], none, [], [], false⟩])
          (.cond (.t 33)
            (.seq
              (.ops [
                ⟨some 4, .id, [.c (.int .i64 2)], none, [], [], false⟩])
              .ret)
            .skip))
        (.seq
          (.ops [
            ⟨some 34, .id, [.t 1], none, [], [], false⟩,
            ⟨some 35, .lenSlice, [.t 34], none, [], [], false⟩,
            ⟨some 36, .call "haberdash/haberdashref06.Need" [], [.t 35], none, [], [], false⟩,
            ⟨some 5, .id, [.t 36], none, [], [], false⟩])
          (.seq
            (.seq
              (.draw [
                ⟨some 37, .id, [.t 5], none, [], [], false⟩,
                ⟨some 38, .id, [.t 0], none, [], [], false⟩,
                ⟨some 39, .nilCheck, [.t 38], none, [], [], false⟩,
                ⟨some 40, .fieldAddr 2, [.t 39], none, [], [], false⟩,
                ⟨some 41, .load 1 false, [.t 40], none, [], [], false⟩,
                ⟨some 42, .id, [.t 0], none, [], [], false⟩,
                ⟨some 43, .nilCheck, [.t 42], none, [], [], false⟩,
                ⟨some 44, .fieldAddr 6, [.t 43], none, [], [], false⟩,
                ⟨some 45, .load 1 false, [.t 44], none, [], [], false⟩,
                ⟨some 46, .bin .sub, [.t 41, .t 45], none, [], [], false⟩,
                ⟨some 47, .bin .gtr, [.t 37, .t 46], none, [], [], false⟩])
              (.cond (.t 47)
                (.seq
                  (.ops [
                    ⟨some 4, .id, [.c (.int .i64 6)], none, [], [], false⟩])
                  .ret)
                .skip))
            (.seq
              (.seq
                (.ops [
                  ⟨some 6, .id, [.c (.int .i64 0)], none, [], [], false⟩])
                (.block 0
                  (.loop [2, 3, 4, 7, 8, 9, 10, 11, 12, 13, 14, 15, 16, 17, 18, 19, 20, 21, 22, 23, 24, 25, 26, 27, 28, 29, 30, 31, 32, 33, 34, 35, 36, 37, 38, 39, 40, 41, 42, 43, 44, 45, 46, 47, 48, 49, 50, 51, 52, 53, 54, 55, 56, 57, 58, 59, 60, 61, 62, 63, 64, 65, 66, 67, 68, 69, 70, 71, 72, 73, 74, 75, 76, 77, 78, 79, 80, 81, 82, 83, 84, 85, 86, 87, 88, 89, 90, 91, 92, 93, 94, 95, 96, 97, 98, 99, 100, 101, 102, 103, 104, 105, 106, 107, 108, 109, 110, 111, 112, 113, 114, 115, 116, 117, 118, 119, 120, 121, 122, 123, 124, 125, 126, 127, 128, 129, 130, 131, 132, 133, 134, 135, 136, 137, 138, 139, 140, 141, 142, 143, 144, 145, 146, 147] [0, 1] f___ref06_Journal__Add_L0)))
              (.seq
                (.seq
                  (.ops [
                    ⟨some 106, .id, [.t 0], none, [], [], false⟩,
                    ⟨some 107, .nilCheck, [.t 106], none, [], [], false⟩,
                    ⟨some 108, .fieldAddr 0, [.t 107], none, [], [], false⟩,
                    ⟨some 109, .load 1 false, [.t 108], none, [], [], false⟩,
                    ⟨some 110, .call "(*haberdash/haberdashref06.Disk).Sync" [], [.t 109], none, [], [], false⟩,
                    ⟨some 111, .bin .neq, [.t 110, .c (.int .i64 0)], none, [], [], false⟩])
                  (.cond (.t 111)
                    (.seq
                      (.ops [
                        ⟨some 112, .id, [.t 0], none, [], [], false⟩,
                        ⟨some 113, .nilCheck, [.t 112], none, [], [], false⟩,
                        ⟨some 114, .fieldAddr 7, [.t 113], none, [], [], false⟩,
                        ⟨none, .store 1 false, [.t 114, .c (.bool true)], none, [], [], false⟩])
                      (.seq
                        (.ops [
                          ⟨some 4, .id, [.c (.int .i64 9)], none, [], [], false⟩])
                        .ret))
                    .skip))
                (.seq
                  (.seq
                    (.ops [
                      ⟨some 115, .id, [.t 0], none, [], [], false⟩,
                      ⟨some 116, .nilCheck, [.t 115], none, [], [], false⟩,
                      ⟨some 117, .fieldAddr 4, [.t 116], none, [], [], false⟩,
                      ⟨some 118, .load 1 false, [.t 117], none, [], [], false⟩,
                      ⟨some 119, .lenSlice, [.t 118], none, [], [], false⟩,
                      ⟨some 120, .bin .eql, [.t 119, .c (.int .i64 0)], none, [], [], false⟩])
                    (.cond (.t 120)
                      (.ops [
                        ⟨some 121, .id, [.t 0], none, [], [], false⟩,
                        ⟨some 122, .id, [.t 0], none, [], [], false⟩,
                        ⟨some 123, .nilCheck, [.t 122], none, [], [], false⟩,
                        ⟨some 124, .fieldAddr 3, [.t 123], none, [], [], false⟩,
                        ⟨some 125, .load 1 false, [.t 124], none, [], [], false⟩,
                        ⟨some 126, .nilCheck, [.t 121], none, [], [], false⟩,
                        ⟨some 127, .fieldAddr 5, [.t 126], none, [], [], false⟩,
                        ⟨none, .store 1 false, [.t 127, .t 125], none, [], [], false⟩])
                      .skip))
                  (.seq
                    (.draw [
                      ⟨some 128, .id, [.t 0], none, [], [], false⟩,
                      ⟨some 129, .id, [.t 0], none, [], [], false⟩,
                      ⟨some 130, .nilCheck, [.t 129], none, [], [], false⟩,
                      ⟨some 131, .fieldAddr 4, [.t 130], none, [], [], false⟩,
                      ⟨some 132, .load 1 false, [.t 131], none, [2, 3], [], false⟩,
                      ⟨some 133, .id, [.t 1], none, [], [], false⟩,
                      ⟨some 134, .append 2 false 1 1, [.c (.slice none 0 0), .t 133], none, [], [], false⟩,
                      ⟨some 135, .buildSlice 3 true 1 1 [(.slice none 0 0)] [(0, 1)], [.t 134], none, [], [2], false⟩,
                      ⟨some 136, .append 4 true 1 24, [.t 132, .t 135], none, [], [], true⟩,
                      ⟨some 137, .nilCheck, [.t 128], none, [], [], false⟩,
                      ⟨some 138, .fieldAddr 4, [.t 137], none, [], [], false⟩,
                      ⟨none, .store 1 false, [.t 138, .t 136], none, [], [], true⟩])
                    (.seq
                      (.ops [
                        ⟨some 139, .id, [.t 0], none, [], [], false⟩,
                        ⟨some 140, .id, [.t 0], none, [], [], false⟩,
                        ⟨some 141, .nilCheck, [.t 140], none, [], [], false⟩,
                        ⟨some 142, .fieldAddr 6, [.t 141], none, [], [], false⟩,
                        ⟨some 143, .load 1 false, [.t 142], none, [], [], false⟩,
                        ⟨some 144, .id, [.t 5], none, [], [], false⟩,
                        ⟨some 145, .bin .add, [.t 143, .t 144], none, [], [], false⟩,
                        ⟨some 146, .nilCheck, [.t 139], none, [], [], false⟩,
                        ⟨some 147, .fieldAddr 6, [.t 146], none, [], [], false⟩,
                        ⟨none, .store 1 false, [.t 147, .t 145], none, [], [], false⟩])
                      (.seq
                        (.ops [
                          ⟨some 4, .id, [.c (.int .i64 0)], none, [], [], false⟩])
                        .ret)))))))))))
def f___ref06_Journal__Add : IFn := ⟨148, 5, [.tmp 4], f___ref06_Journal__Add_B⟩
def f_law08_alike_B : ICode :=
  (.seq
    (.ops [
      ⟨some 4, .id, [.c (.bool false)], none, [], [], false⟩])
    (.seq
      (.draw [
        ⟨some 5, .id, [.t 0], none, [], [], false⟩,
        ⟨some 6, .call "(*haberdash/journal.Journal).Records" [0], [.t 5], none, [], [], false⟩,
        ⟨some 7, .id, [.t 1], none, [], [], false⟩,
        ⟨some 8, .nilCheck, [.t 7], none, [], [], false⟩,
        ⟨some 9, .fieldAddr 4, [.t 8], none, [], [], false⟩,
        ⟨some 10, .load 1 false, [.t 9], none, [0], [], false⟩,
        ⟨some 11, .call "haberdash/haberdashhelp.Rows" [], [.t 6, .t 10], none, [], [], false⟩,
        ⟨some 12, .id, [.t 11], none, [], [], false⟩,
        ⟨some 13, .id, [.t 0], (some (12, true)), [], [], false⟩,
        ⟨some 14, .call "(*haberdash/journal.Journal).First" [], [.t 13], (some (12, true)), [], [], false⟩,
        ⟨some 15, .id, [.t 1], (some (12, true)), [], [], false⟩,
        ⟨some 16, .nilCheck, [.t 15], (some (12, true)), [], [], false⟩,
        ⟨some 17, .fieldAddr 5, [.t 16], (some (12, true)), [], [], false⟩,
        ⟨some 18, .load 1 false, [.t 17], (some (12, true)), [], [], false⟩,
        ⟨some 19, .bin .eql, [.t 14, .t 18], (some (12, true)), [], [], false⟩,
        ⟨some 20, .pick, [.t 12, .t 19, .c (.bool false)], none, [], [], false⟩,
        ⟨some 21, .id, [.t 20], none, [], [], false⟩,
        ⟨some 22, .id, [.t 0], (some (21, true)), [], [], false⟩,
        ⟨some 23, .call "(*haberdash/journal.Journal).Used" [], [.t 22], (some (21, true)), [], [], false⟩,
        ⟨some 24, .id, [.t 1], (some (21, true)), [], [], false⟩,
        ⟨some 25, .nilCheck, [.t 24], (some (21, true)), [], [], false⟩,
        ⟨some 26, .fieldAddr 6, [.t 25], (some (21, true)), [], [], false⟩,
        ⟨some 27, .load 1 false, [.t 26], (some (21, true)), [], [], false⟩,
        ⟨some 28, .bin .eql, [.t 23, .t 27], (some (21, true)), [], [], false⟩,
        ⟨some 29, .pick, [.t 21, .t 28, .c (.bool false)], none, [], [], false⟩,
        ⟨some 4, .id, [.t 29], none, [], [], false⟩])
      .ret))
def f_law08_alike : IFn := ⟨30, 1, [.tmp 4], f_law08_alike_B⟩
def f___journal_Journal__lay_L0 : ICode :=
  (.seq
    (.ops [
      ⟨some 16, .bin .lss, [.t 15, .t 14], none, [], [], false⟩])
    (.seq
      (.cond (.t 16)
        .skip
        (.exit 0))
      (.seq
        (.block 1
          (.seq
            (.ops [
              ⟨some 17, .id, [.t 15], none, [], [], false⟩,
              ⟨some 6, .id, [.t 17], none, [], [], false⟩])
            (.seq
              (.ops [
                ⟨some 18, .id, [.t 1], none, [], [], false⟩,
                ⟨some 19, .id, [.t 6], none, [], [], false⟩,
                ⟨some 20, .bin .mul, [.t 19, .c (.int .i64 46)], none, [], [], false⟩,
                ⟨some 21, .id, [.t 6], none, [], [], false⟩,
                ⟨some 22, .bin .add, [.t 21, .c (.int .i64 1)], none, [], [], false⟩,
                ⟨some 23, .bin .mul, [.t 22, .c (.int .i64 46)], none, [], [], false⟩,
                ⟨some 24, .id, [.t 1], none, [], [], false⟩,
                ⟨some 25, .lenSlice, [.t 24], none, [], [], false⟩,
                ⟨some 26, .min, [.t 23, .t 25], none, [], [], false⟩,
                ⟨some 27, .slice 1 true true false, [.t 18, .t 20, .t 26], none, [], [], false⟩,
                ⟨some 7, .id, [.t 27], none, [], [], false⟩])
              (.seq
                (.draw [
                  ⟨some 29, .id, [.t 0], none, [], [], false⟩,
                  ⟨some 30, .nilCheck, [.t 29], none, [], [], false⟩,
                  ⟨some 31, .fieldAddr 3, [.t 30], none, [], [], false⟩,
                  ⟨some 32, .load 1 false, [.t 31], none, [0], [], false⟩,
                  ⟨some 33, .id, [.t 0], none, [], [], false⟩,
                  ⟨some 34, .nilCheck, [.t 33], none, [], [], false⟩,
                  ⟨some 35, .fieldAddr 6, [.t 34], none, [], [], false⟩,
                  ⟨some 36, .load 1 false, [.t 35], none, [0], [], false⟩,
                  ⟨some 37, .lenSlice, [.t 36], none, [], [], false⟩,
                  ⟨some 38, .convInt .u32, [.t 37], none, [], [], false⟩,
                  ⟨some 39, .id, [.t 6], none, [], [], false⟩,
                  ⟨some 40, .bin .eql, [.t 39, .c (.int .i64 0)], none, [], [], false⟩,
                  ⟨some 41, .id, [.t 6], none, [], [], false⟩,
                  ⟨some 42, .id, [.t 5], none, [], [], false⟩,
                  ⟨some 43, .bin .sub, [.t 42, .c (.int .i64 1)], none, [], [], false⟩,
                  ⟨some 44, .bin .eql, [.t 41, .t 43], none, [], [], false⟩,
                  ⟨some 45, .id, [.t 7], none, [], [], false⟩,
                  ⟨some 46, .build [(.int .u32 0), (.int .u32 0), (.bool false), (.bool false), (.slice none 0 0)] [(0, 1), (1, 1), (2, 1), (3, 1), (4, 1)], [.t 32, .t 38, .t 40, .t 44, .t 45], none, [], [], false⟩,
                  ⟨some 47, .call "haberdash/leaf.Lay" [], [.t 46], none, [0], [], false⟩,
                  ⟨some 28, .id, [.t 47], none, [], [], false⟩,
                  ⟨some 48, .extract 0, [.t 28], none, [], [], false⟩,
                  ⟨some 49, .extract 1, [.t 28], none, [], [], false⟩,
                  ⟨some 8, .alloc 0 zeros64 [], [], none, [], [], false⟩,
                  ⟨none, .store 64 false, [.t 8, .t 48], none, [], [0], false⟩,
                  ⟨some 9, .id, [.t 49], none, [], [], false⟩])
                (.seq
                  (.seq
                    (.ops [
                      ⟨some 50, .id, [.t 9], none, [], [], false⟩,
                      ⟨some 51, .bin .neq, [.t 50, .c (.int .i64 0)], none, [], [], false⟩])
                    (.cond (.t 51)
                      (.seq
                        (.ops [
                          ⟨some 52, .id, [.t 9], none, [], [], false⟩,
                          ⟨some 4, .id, [.t 52], none, [], [], false⟩])
                        .ret)
                      .skip))
                  (.seq
                    (.draw [
                      ⟨some 53, .id, [.t 0], none, [], [], false⟩,
                      ⟨some 54, .nilCheck, [.t 53], none, [], [], false⟩,
                      ⟨some 55, .fieldAddr 0, [.t 54], none, [], [], false⟩,
                      ⟨some 56, .load 1 false, [.t 55], none, [], [], false⟩,
                      ⟨some 57, .id, [.t 0], none, [], [], false⟩,
                      ⟨some 58, .nilCheck, [.t 57], none, [], [], false⟩,
                      ⟨some 59, .fieldAddr 1, [.t 58], none, [], [], false⟩,
                      ⟨some 60, .load 1 false, [.t 59], none, [], [], false⟩,
                      ⟨some 61, .id, [.t 0], none, [], [], false⟩,
                      ⟨some 62, .nilCheck, [.t 61], none, [], [], false⟩,
                      ⟨some 63, .fieldAddr 7, [.t 62], none, [], [], false⟩,
                      ⟨some 64, .load 1 false, [.t 63], none, [], [], false⟩,
                      ⟨some 65, .bin .add, [.t 60, .t 64], none, [], [], false⟩,
                      ⟨some 66, .id, [.t 6], none, [], [], false⟩,
                      ⟨some 67, .bin .add, [.t 65, .t 66], none, [], [], false⟩,
                      ⟨some 68, .load 64 true, [.t 8], none, [], [], false⟩,
                      ⟨some 69, .call "(*haberdash/disk.Disk).Write" [], [.t 56, .t 67, .t 68], none, [], [], true⟩,
                      ⟨some 10, .id, [.t 69], none, [], [], false⟩])
                    (.seq
                      (.ops [
                        ⟨some 70, .id, [.t 10], none, [], [], false⟩,
                        ⟨some 71, .bin .neq, [.t 70, .c (.int .i64 0)], none, [], [], false⟩])
                      (.cond (.t 71)
                        (.seq
                          (.ops [
                            ⟨some 72, .id, [.t 10], none, [], [], false⟩,
                            ⟨some 4, .id, [.t 72], none, [], [], false⟩])
                          .ret)
                        .skip))))))))
        (.ops [
          ⟨some 73, .bin .add, [.t 15, .c (.int .i64 1)], none, [], [], false⟩,
          ⟨some 15, .id, [.t 73], none, [], [], false⟩]))))
def f___journal_Journal__lay_H0 (t0 t1 t5 t14 t15 : AV) : List AV := [t0, t1, .dead, .dead, .dead, t5, .dead, .dead, .dead, .dead, .dead, .dead, .dead, .dead, t14, t15, .dead, .dead, .dead, .dead, .dead, .dead, .dead, .dead, .dead, .dead, .dead, .dead, .dead, .dead, .dead, .dead, .dead, .dead, .dead, .dead, .dead, .dead, .dead, .dead, .dead, .dead, .dead, .dead, .dead, .dead, .dead, .dead, .dead, .dead, .dead, .dead, .dead, .dead, .dead, .dead, .dead, .dead, .dead, .dead, .dead, .dead, .dead, .dead, .dead, .dead, .dead, .dead, .dead, .dead, .dead, .dead, .dead, .dead, .dead, .dead, .dead, .dead, .dead]
def f___journal_Journal__lay_B : ICode :=
  (.seq
    (.ops [
      ⟨some 4, .id, [.c (.int .i64 0)], none, [], [], false⟩])
    (.seq
      (.ops [
        ⟨some 11, .id, [.t 1], none, [], [], false⟩,
        ⟨some 12, .lenSlice, [.t 11], none, [], [], false⟩,
        ⟨some 13, .call "haberdash/journal.Need" [], [.t 12], none, [], [], false⟩,
        ⟨some 5, .id, [.t 13], none, [], [], false⟩])
      (.seq
        (.seq
          (.ops [
            ⟨some 14, .id, [.t 5], none, [], [], false⟩,
            ⟨some 15, .id, [.c (.int .i64 0)], none, [], [], false⟩])
          (.block 0
            (.loop [2, 3, 4, 6, 7, 8, 9, 10, 11, 12, 13, 16, 17, 18, 19, 20, 21, 22, 23, 24, 25, 26, 27, 28, 29, 30, 31, 32, 33, 34, 35, 36, 37, 38, 39, 40, 41, 42, 43, 44, 45, 46, 47, 48, 49, 50, 51, 52, 53, 54, 55, 56, 57, 58, 59, 60, 61, 62, 63, 64, 65, 66, 67, 68, 69, 70, 71, 72, 73, 74, 75, 76, 77, 78] [0] f___journal_Journal__lay_L0)))
        (.seq
          (.ops [
            ⟨some 74, .id, [.t 0], none, [], [], false⟩,
            ⟨some 75, .nilCheck, [.t 74], none, [], [], false⟩,
            ⟨some 76, .fieldAddr 0, [.t 75], none, [], [], false⟩,
            ⟨some 77, .load 1 false, [.t 76], none, [], [], false⟩,
            ⟨some 78, .call "(*haberdash/disk.Disk).Sync" [], [.t 77], none, [], [], false⟩,
            ⟨some 4, .id, [.t 78], none, [], [], false⟩])
          .ret))))
def f___journal_Journal__lay : IFn := ⟨79, 1, [.tmp 4], f___journal_Journal__lay_B⟩
def f___journal_Journal__note_B : ICode :=
  (.seq
    (.seq
      (.ops [
        ⟨some 6, .id, [.t 0], none, [], [], false⟩,
        ⟨some 7, .nilCheck, [.t 6], none, [], [], false⟩,
        ⟨some 8, .fieldAddr 6, [.t 7], none, [], [], false⟩,
        ⟨some 9, .load 1 false, [.t 8], none, [], [], false⟩,
        ⟨some 10, .lenSlice, [.t 9], none, [], [], false⟩,
        ⟨some 11, .bin .eql, [.t 10, .c (.int .i64 0)], none, [], [], false⟩])
      (.cond (.t 11)
        (.ops [
          ⟨some 12, .id, [.t 0], none, [], [], false⟩,
          ⟨some 13, .id, [.t 0], none, [], [], false⟩,
          ⟨some 14, .nilCheck, [.t 13], none, [], [], false⟩,
          ⟨some 15, .fieldAddr 3, [.t 14], none, [], [], false⟩,
          ⟨some 16, .load 1 false, [.t 15], none, [], [], false⟩,
          ⟨some 17, .nilCheck, [.t 12], none, [], [], false⟩,
          ⟨some 18, .fieldAddr 5, [.t 17], none, [], [], false⟩,
          ⟨none, .store 1 false, [.t 18, .t 16], none, [], [], false⟩])
        .skip))
    (.seq
      (.draw [
        ⟨some 19, .id, [.t 0], none, [], [], false⟩,
        ⟨some 20, .id, [.t 0], none, [], [], false⟩,
        ⟨some 21, .nilCheck, [.t 20], none, [], [], false⟩,
        ⟨some 22, .fieldAddr 6, [.t 21], none, [], [], false⟩,
        ⟨some 23, .load 1 false, [.t 22], none, [0, 1], [], false⟩,
        ⟨some 24, .id, [.t 1], none, [], [], false⟩,
        ⟨some 25, .call "bytes.Clone" [0], [.t 24], none, [], [], false⟩,
        ⟨some 26, .buildSlice 1 true 1 1 [(.slice none 0 0)] [(0, 1)], [.t 25], none, [], [0], false⟩,
        ⟨some 27, .append 2 true 1 24, [.t 23, .t 26], none, [], [], true⟩,
        ⟨some 28, .nilCheck, [.t 19], none, [], [], false⟩,
        ⟨some 29, .fieldAddr 6, [.t 28], none, [], [], false⟩,
        ⟨none, .store 1 false, [.t 29, .t 27], none, [], [], true⟩])
      (.seq
        (.ops [
          ⟨some 30, .id, [.t 0], none, [], [], false⟩,
          ⟨some 31, .id, [.t 0], none, [], [], false⟩,
          ⟨some 32, .nilCheck, [.t 31], none, [], [], false⟩,
          ⟨some 33, .fieldAddr 3, [.t 32], none, [], [], false⟩,
          ⟨some 34, .load 1 false, [.t 33], none, [], [], false⟩,
          ⟨some 35, .nilCheck, [.t 30], none, [], [], false⟩,
          ⟨some 36, .fieldAddr 4, [.t 35], none, [], [], false⟩,
          ⟨none, .store 1 false, [.t 36, .t 34], none, [], [], false⟩])
        (.ops [
          ⟨some 37, .id, [.t 0], none, [], [], false⟩,
          ⟨some 38, .nilCheck, [.t 37], none, [], [], false⟩,
          ⟨some 39, .fieldAddr 7, [.t 38], none, [], [], false⟩,
          ⟨some 40, .load 1 false, [.t 39], none, [], [], false⟩,
          ⟨some 41, .id, [.t 2], none, [], [], false⟩,
          ⟨some 42, .bin .add, [.t 40, .t 41], none, [], [], false⟩,
          ⟨some 43, .nilCheck, [.t 37], none, [], [], false⟩,
          ⟨some 44, .fieldAddr 7, [.t 43], none, [], [], false⟩,
          ⟨none, .store 1 false, [.t 44, .t 42], none, [], [], false⟩]))))
def f___journal_Journal__note : IFn := ⟨45, 3, [], f___journal_Journal__note_B⟩
def f___journal_Journal__take_L0 : ICode :=
  (.seq
    (.block 1
      (.seq
        (.ops [
          ⟨some 13, .id, [.t 3], none, [], [], false⟩,
          ⟨some 14, .callV [3], [.t 13], none, [], [], false⟩,
          ⟨some 12, .id, [.t 14], none, [], [], false⟩,
          ⟨some 15, .extract 0, [.t 12], none, [], [], false⟩,
          ⟨some 16, .extract 1, [.t 12], none, [], [], false⟩,
          ⟨some 6, .alloc 4 [(.int .u32 0), (.int .u32 0), (.bool false), (.bool false), (.slice none 0 0)] [], [], none, [], [], false⟩,
          ⟨none, .store 5 false, [.t 6, .t 15], none, [], [], false⟩,
          ⟨some 7, .id, [.t 16], none, [], [], false⟩])
        (.seq
          (.seq
            (.draw [
              ⟨some 17, .id, [.t 7], none, [], [], false⟩,
              ⟨some 18, .un .not, [.t 17], none, [], [], false⟩,
              ⟨some 19, .id, [.t 18], none, [], [], false⟩,
              ⟨some 20, .fieldAddr 1, [.t 6], (some (19, false)), [], [], false⟩,
              ⟨some 21, .load 1 false, [.t 20], (some (19, false)), [], [], false⟩,
              ⟨some 22, .convInt .i64, [.t 21], (some (19, false)), [], [], false⟩,
              ⟨some 23, .id, [.t 0], (some (19, false)), [], [], false⟩,
              ⟨some 24, .nilCheck, [.t 23], (some (19, false)), [], [], false⟩,
              ⟨some 25, .fieldAddr 6, [.t 24], (some (19, false)), [], [], false⟩,
              ⟨some 26, .load 1 false, [.t 25], (some (19, false)), [], [], false⟩,
              ⟨some 27, .lenSlice, [.t 26], (some (19, false)), [], [], false⟩,
              ⟨some 28, .bin .neq, [.t 22, .t 27], (some (19, false)), [], [], false⟩,
              ⟨some 29, .pick, [.t 19, .c (.bool true), .t 28], none, [], [], false⟩,
              ⟨some 30, .id, [.t 29], none, [], [], false⟩,
              ⟨some 31, .fieldAddr 2, [.t 6], (some (30, false)), [], [], false⟩,
              ⟨some 32, .load 1 false, [.t 31], (some (30, false)), [], [], false⟩,
              ⟨some 33, .id, [.t 5], (some (30, false)), [], [], false⟩,
              ⟨some 34, .bin .eql, [.t 33, .c (.int .i64 0)], (some (30, false)), [], [], false⟩,
              ⟨some 35, .eqBool true, [.t 32, .t 34], (some (30, false)), [], [], false⟩,
              ⟨some 36, .pick, [.t 30, .c (.bool true), .t 35], none, [], [], false⟩,
              ⟨some 37, .id, [.t 36], none, [], [], false⟩,
              ⟨some 38, .fieldAddr 0, [.t 6], (some (37, false)), [], [], false⟩,
              ⟨some 39, .load 1 false, [.t 38], (some (37, false)), [], [], false⟩,
              ⟨some 40, .id, [.t 0], (some (37, false)), [], [], false⟩,
              ⟨some 41, .nilCheck, [.t 40], (some (37, false)), [], [], false⟩,
              ⟨some 42, .fieldAddr 4, [.t 41], (some (37, false)), [], [], false⟩,
              ⟨some 43, .load 1 false, [.t 42], (some (37, false)), [], [], false⟩,
              ⟨some 44, .bin .lss, [.t 39, .t 43], (some (37, false)), [], [], false⟩,
              ⟨some 45, .pick, [.t 37, .c (.bool true), .t 44], none, [], [], false⟩,
              ⟨some 46, .id, [.t 45], none, [], [], false⟩,
              ⟨some 47, .id, [.t 5], (some (46, false)), [], [], false⟩,
              ⟨some 48, .bin .gtr, [.t 47, .c (.int .i64 0)], (some (46, false)), [], [], false⟩,
              ⟨some 49, .id, [.t 48], (some (46, false)), [], [], false⟩,
              ⟨some 50, .fieldAddr 0, [.t 6], (some (49, true)), [], [], false⟩,
              ⟨some 51, .load 1 false, [.t 50], (some (49, true)), [], [], false⟩,
              ⟨some 52, .id, [.t 0], (some (49, true)), [], [], false⟩,
              ⟨some 53, .nilCheck, [.t 52], (some (49, true)), [], [], false⟩,
              ⟨some 54, .fieldAddr 3, [.t 53], (some (49, true)), [], [], false⟩,
              ⟨some 55, .load 1 false, [.t 54], (some (49, true)), [], [], false⟩,
              ⟨some 56, .bin .neq, [.t 51, .t 55], (some (49, true)), [], [], false⟩,
              ⟨some 57, .pick, [.t 49, .t 56, .c (.bool false)], (some (46, false)), [], [], false⟩,
              ⟨some 58, .pick, [.t 46, .c (.bool true), .t 57], none, [], [], false⟩])
            (.cond (.t 58)
              (.seq
                (.ops [
                  ⟨some 2, .id, [.c (.bool false)], none, [], [], false⟩])
                .ret)
              .skip))
          (.seq
            (.ops [
              ⟨some 59, .id, [.t 4], none, [], [], false⟩,
              ⟨some 60, .fieldAddr 4, [.t 6], none, [], [], false⟩,
              ⟨some 61, .load 1 false, [.t 60], none, [], [], false⟩,
              ⟨some 62, .append 5 false 1 1, [.t 59, .t 61], none, [], [], false⟩,
              ⟨some 4, .id, [.t 62], none, [], [], false⟩])
            (.seq
              (.ops [
                ⟨some 63, .id, [.t 0], none, [], [], false⟩,
                ⟨some 64, .fieldAddr 0, [.t 6], none, [], [], false⟩,
                ⟨some 65, .load 1 false, [.t 64], none, [], [], false⟩,
                ⟨some 66, .nilCheck, [.t 63], none, [], [], false⟩,
                ⟨some 67, .fieldAddr 3, [.t 66], none, [], [], false⟩,
                ⟨none, .store 1 false, [.t 67, .t 65], none, [], [], false⟩])
              (.seq
                (.ops [
                  ⟨some 68, .fieldAddr 3, [.t 6], none, [], [], false⟩,
                  ⟨some 69, .load 1 false, [.t 68], none, [], [], false⟩])
                (.cond (.t 69)
                  (.seq
                    (.ops [
                      ⟨some 70, .id, [.t 0], none, [], [], false⟩,
                      ⟨some 71, .id, [.t 4], none, [], [], false⟩,
                      ⟨some 72, .id, [.t 5], none, [], [], false⟩,
                      ⟨some 73, .bin .add, [.t 72, .c (.int .i64 1)], none, [], [], false⟩,
                      ⟨some 74, .call "(*haberdash/journal.Journal).note" [], [.t 70, .t 71, .t 73], none, [], [], false⟩])
                    (.seq
                      (.ops [
                        ⟨some 2, .id, [.c (.bool true)], none, [], [], false⟩])
                      .ret))
                  .skip)))))))
    (.ops [
      ⟨some 10, .id, [.t 5], none, [], [], false⟩,
      ⟨some 11, .bin .add, [.t 10, .c (.int .i64 1)], none, [], [], false⟩,
      ⟨some 5, .id, [.t 11], none, [], [], false⟩]))
def f___journal_Journal__take_H0 (t0 t3 t4 t5 : AV) : List AV := [t0, .dead, .dead, t3, t4, t5, .dead, .dead, .dead, .dead, .dead, .dead, .dead, .dead, .dead, .dead, .dead, .dead, .dead, .dead, .dead, .dead, .dead, .dead, .dead, .dead, .dead, .dead, .dead, .dead, .dead, .dead, .dead, .dead, .dead, .dead, .dead, .dead, .dead, .dead, .dead, .dead, .dead, .dead, .dead, .dead, .dead, .dead, .dead, .dead, .dead, .dead, .dead, .dead, .dead, .dead, .dead, .dead, .dead, .dead, .dead, .dead, .dead, .dead, .dead, .dead, .dead, .dead, .dead, .dead, .dead, .dead, .dead, .dead, .dead]
def f___journal_Journal__take_B : ICode :=
  (.seq
    (.ops [
      ⟨some 2, .id, [.c (.bool false)], none, [], [], false⟩])
    (.seq
      (.ops [
        ⟨some 8, .id, [.t 0], none, [], [], false⟩,
        ⟨some 9, .call "(*haberdash/journal.Journal).leaves" [0, 1], [.t 8], none, [], [], false⟩,
        ⟨some 3, .id, [.t 9], none, [], [], false⟩])
      (.seq
        (.ops [
          ⟨some 4, .nilv 2 1, [.c (.slice none 0 0)], none, [], [], false⟩])
        (.seq
          (.ops [
            ⟨some 5, .id, [.c (.int .i64 0)], none, [], [], false⟩])
          (.block 0
            (.loop [1, 2, 6, 7, 8, 9, 10, 11, 12, 13, 14, 15, 16, 17, 18, 19, 20, 21, 22, 23, 24, 25, 26, 27, 28, 29, 30, 31, 32, 33, 34, 35, 36, 37, 38, 39, 40, 41, 42, 43, 44, 45, 46, 47, 48, 49, 50, 51, 52, 53, 54, 55, 56, 57, 58, 59, 60, 61, 62, 63, 64, 65, 66, 67, 68, 69, 70, 71, 72, 73, 74] [3, 4, 5] f___journal_Journal__take_L0))))))
def f___journal_Journal__take : IFn := ⟨75, 6, [.tmp 2], f___journal_Journal__take_B⟩
def f_help_Same___byte__L0 : ICode :=
  (.seq
    (.seq
      (.ops [
        ⟨some 13, .id, [.t 7], none, [], [], false⟩,
        ⟨some 14, .id, [.t 0], none, [], [], false⟩,
        ⟨some 15, .lenSlice, [.t 14], none, [], [], false⟩,
        ⟨some 16, .bin .lss, [.t 13, .t 15], none, [], [], false⟩])
      (.cond (.t 16)
        .skip
        (.exit 0)))
    (.seq
      (.block 1
        (.seq
          (.draw [
            ⟨some 19, .id, [.t 2], none, [], [], false⟩,
            ⟨some 20, .id, [.t 0], none, [], [], false⟩,
            ⟨some 21, .id, [.t 7], none, [], [], false⟩,
            ⟨some 22, .indexAddr 1, [.t 20, .t 21], none, [], [], false⟩,
            ⟨some 23, .load 1 false, [.t 22], none, [], [], false⟩,
            ⟨some 24, .id, [.t 1], none, [], [], false⟩,
            ⟨some 25, .id, [.t 7], none, [], [], false⟩,
            ⟨some 26, .indexAddr 1, [.t 24, .t 25], none, [], [], false⟩,
            ⟨some 27, .load 1 false, [.t 26], none, [], [], false⟩,
            ⟨some 28, .callV [], [.t 19, .t 23, .t 27], none, [], [], false⟩,
            ⟨some 29, .un .not, [.t 28], none, [], [], false⟩])
          (.cond (.t 29)
            (.seq
              (.ops [
                ⟨some 6, .id, [.c (.bool false)], none, [], [], false⟩])
              .ret)
            .skip)))
      (.ops [
        ⟨some 17, .id, [.t 7], none, [], [], false⟩,
        ⟨some 18, .bin .add, [.t 17, .c (.int .i64 1)], none, [], [], false⟩,
        ⟨some 7, .id, [.t 18], none, [], [], false⟩])))
def f_help_Same___byte__B : ICode :=
  (.seq
    (.ops [
      ⟨some 6, .id, [.c (.bool false)], none, [], [], false⟩])
    (.seq
      (.seq
        (.ops [
          ⟨some 8, .id, [.t 0], none, [], [], false⟩,
          ⟨some 9, .lenSlice, [.t 8], none, [], [], false⟩,
          ⟨some 10, .id, [.t 1], none, [], [], false⟩,
          ⟨some 11, .lenSlice, [.t 10], none, [], [], false⟩,
          ⟨some 12, .bin .neq, [.t 9, .t 11], none, [], [], false⟩])
        (.cond (.t 12)
          (.seq
            (.ops [
              ⟨some 6, .id, [.c (.bool false)], none, [], [], false⟩])
            .ret)
          .skip))
      (.seq
        (.seq
          (.ops [
            ⟨some 7, .id, [.c (.int .i64 0)], none, [], [], false⟩])
          (.block 0
            (.loop [3, 4, 5, 6, 8, 9, 10, 11, 12, 13, 14, 15, 16, 17, 18, 19, 20, 21, 22, 23, 24, 25, 26, 27, 28, 29] [] f_help_Same___byte__L0)))
        (.seq
          (.ops [
            ⟨some 6, .id, [.c (.bool true)], none, [], [], false⟩])
          .ret))))
def f_help_Same___byte_ : IFn := ⟨30, 0, [.tmp 6], f_help_Same___byte__B⟩
def f___ref06_Journal__record_L0 : ICode :=
  (.seq
    (.seq
      (.ops [
        ⟨some 16, .id, [.t 1], none, [], [], false⟩,
        ⟨some 17, .id, [.t 13], none, [], [], false⟩,
        ⟨some 18, .bin .add, [.t 16, .t 17], none, [], [], false⟩,
        ⟨some 19, .id, [.t 0], none, [], [], false⟩,
        ⟨some 20, .nilCheck, [.t 19], none, [], [], false⟩,
        ⟨some 21, .fieldAddr 2, [.t 20], none, [], [], false⟩,
        ⟨some 22, .load 1 false, [.t 21], none, [], [], false⟩,
        ⟨some 23, .bin .lss, [.t 18, .t 22], none, [], [], false⟩])
      (.cond (.t 23)
        .skip
        (.exit 0)))
    (.seq
      (.block 1
        (.seq
          (.draw [
            ⟨some 27, .id, [.t 0], none, [], [], false⟩,
            ⟨some 28, .nilCheck, [.t 27], none, [], [], false⟩,
            ⟨some 29, .fieldAddr 0, [.t 28], none, [], [], false⟩,
            ⟨some 30, .load 1 false, [.t 29], none, [2], [], false⟩,
            ⟨some 31, .nilCheck, [.t 30], none, [], [], false⟩,
            ⟨some 32, .fieldAddr 0, [.t 31], none, [], [], false⟩,
            ⟨some 33, .load 1 false, [.t 32], none, [2], [], false⟩,
            ⟨some 34, .id, [.t 0], none, [], [], false⟩,
            ⟨some 35, .nilCheck, [.t 34], none, [], [], false⟩,
            ⟨some 36, .fieldAddr 1, [.t 35], none, [], [], false⟩,
            ⟨some 37, .load 1 false, [.t 36], none, [2], [], false⟩,
            ⟨some 38, .id, [.t 1], none, [], [], false⟩,
            ⟨some 39, .bin .add, [.t 37, .t 38], none, [], [], false⟩,
            ⟨some 40, .id, [.t 13], none, [], [], false⟩,
            ⟨some 41, .bin .add, [.t 39, .t 40], none, [], [], false⟩,
            ⟨some 42, .indexAddr 64, [.t 33, .t 41], none, [], [], false⟩,
            ⟨some 43, .load 64 true, [.t 42], none, [2], [], false⟩,
            ⟨some 44, .call "haberdash/haberdashref04.Take" [1], [.t 43], none, [2], [], false⟩,
            ⟨some 26, .id, [.t 44], none, [], [], false⟩,
            ⟨some 45, .extract 0, [.t 26], none, [], [], false⟩,
            ⟨some 46, .extract 1, [.t 26], none, [], [], false⟩,
            ⟨some 14, .alloc 2 [(.int .u32 0), (.int .u32 0), (.bool false), (.bool false), (.slice none 0 0)] [], [], none, [1], [], false⟩,
            ⟨none, .store 5 false, [.t 14, .t 45], none, [], [2], false⟩,
            ⟨some 15, .id, [.t 46], none, [], [], false⟩])
          (.seq
            (.seq
              (.ops [
                ⟨some 47, .id, [.t 15], none, [], [], false⟩,
                ⟨some 48, .un .not, [.t 47], none, [], [], false⟩,
                ⟨some 49, .id, [.t 48], none, [], [], false⟩,
                ⟨some 50, .fieldAddr 1, [.t 14], (some (49, false)), [], [], false⟩,
                ⟨some 51, .load 1 false, [.t 50], (some (49, false)), [], [], false⟩,
                ⟨some 52, .id, [.t 2], (some (49, false)), [], [], false⟩,
                ⟨some 53, .bin .neq, [.t 51, .t 52], (some (49, false)), [], [], false⟩,
                ⟨some 54, .pick, [.t 49, .c (.bool true), .t 53], none, [], [], false⟩,
                ⟨some 55, .id, [.t 54], none, [], [], false⟩,
                ⟨some 56, .fieldAddr 2, [.t 14], (some (55, false)), [], [], false⟩,
                ⟨some 57, .load 1 false, [.t 56], (some (55, false)), [], [], false⟩,
                ⟨some 58, .id, [.t 13], (some (55, false)), [], [], false⟩,
                ⟨some 59, .bin .eql, [.t 58, .c (.int .i64 0)], (some (55, false)), [], [], false⟩,
                ⟨some 60, .eqBool true, [.t 57, .t 59], (some (55, false)), [], [], false⟩,
                ⟨some 61, .pick, [.t 55, .c (.bool true), .t 60], none, [], [], false⟩,
                ⟨some 62, .id, [.t 61], none, [], [], false⟩,
                ⟨some 63, .id, [.t 13], (some (62, false)), [], [], false⟩,
                ⟨some 64, .bin .gtr, [.t 63, .c (.int .i64 0)], (some (62, false)), [], [], false⟩,
                ⟨some 65, .id, [.t 64], (some (62, false)), [], [], false⟩,
                ⟨some 66, .fieldAddr 0, [.t 14], (some (65, true)), [], [], false⟩,
                ⟨some 67, .load 1 false, [.t 66], (some (65, true)), [], [], false⟩,
                ⟨some 68, .id, [.t 12], (some (65, true)), [], [], false⟩,
                ⟨some 69, .bin .neq, [.t 67, .t 68], (some (65, true)), [], [], false⟩,
                ⟨some 70, .pick, [.t 65, .t 69, .c (.bool false)], (some (62, false)), [], [], false⟩,
                ⟨some 71, .pick, [.t 62, .c (.bool true), .t 70], none, [], [], false⟩,
                ⟨some 72, .id, [.t 71], none, [], [], false⟩,
                ⟨some 73, .fieldAddr 0, [.t 14], (some (72, false)), [], [], false⟩,
                ⟨some 74, .load 1 false, [.t 73], (some (72, false)), [], [], false⟩,
                ⟨some 75, .id, [.t 3], (some (72, false)), [], [], false⟩,
                ⟨some 76, .bin .lss, [.t 74, .t 75], (some (72, false)), [], [], false⟩,
                ⟨some 77, .pick, [.t 72, .c (.bool true), .t 76], none, [], [], false⟩])
              (.cond (.t 77)
                (.seq
                  (.ops [
                    ⟨some 8, .id, [.c (.slice none 0 0)], none, [], [], false⟩,
                    ⟨some 9, .id, [.c (.int .i64 0)], none, [], [], false⟩,
                    ⟨some 10, .id, [.c (.int .u32 0)], none, [], [], false⟩])
                  .ret)
                .skip))
            (.seq
              (.ops [
                ⟨some 78, .fieldAddr 0, [.t 14], none, [], [], false⟩,
                ⟨some 79, .load 1 false, [.t 78], none, [], [], false⟩,
                ⟨some 12, .id, [.t 79], none, [], [], false⟩])
              (.seq
                (.ops [
                  ⟨some 80, .id, [.t 11], none, [], [], false⟩,
                  ⟨some 81, .fieldAddr 4, [.t 14], none, [], [], false⟩,
                  ⟨some 82, .load 1 false, [.t 81], none, [], [], false⟩,
                  ⟨some 83, .append 3 false 1 1, [.t 80, .t 82], none, [], [], false⟩,
                  ⟨some 11, .id, [.t 83], none, [], [], false⟩])
                (.seq
                  (.ops [
                    ⟨some 84, .fieldAddr 3, [.t 14], none, [], [], false⟩,
                    ⟨some 85, .load 1 false, [.t 84], none, [], [], false⟩])
                  (.cond (.t 85)
                    (.seq
                      (.ops [
                        ⟨some 86, .id, [.t 11], none, [], [], false⟩,
                        ⟨some 87, .id, [.t 13], none, [], [], false⟩,
                        ⟨some 88, .bin .add, [.t 87, .c (.int .i64 1)], none, [], [], false⟩,
                        ⟨some 89, .id, [.t 12], none, [], [], false⟩,
                        ⟨some 8, .id, [.t 86], none, [], [], false⟩,
                        ⟨some 9, .id, [.t 88], none, [], [], false⟩,
                        ⟨some 10, .id, [.t 89], none, [], [], false⟩])
                      .ret)
                    .skip)))))))
      (.ops [
        ⟨some 24, .id, [.t 13], none, [], [], false⟩,
        ⟨some 25, .bin .add, [.t 24, .c (.int .i64 1)], none, [], [], false⟩,
        ⟨some 13, .id, [.t 25], none, [], [], false⟩])))
def f___ref06_Journal__record_B : ICode :=
  (.seq
    (.ops [
      ⟨some 8, .id, [.c (.slice none 0 0)], none, [], [], false⟩,
      ⟨some 9, .id, [.c (.int .i64 0)], none, [], [], false⟩,
      ⟨some 10, .id, [.c (.int .u32 0)], none, [], [], false⟩])
    (.seq
      (.ops [
        ⟨some 11, .nilv 0 1, [.c (.slice none 0 0)], none, [], [], false⟩])
      (.seq
        (.ops [
          ⟨some 12, .id, [.c (.int .u32 0)], none, [], [], false⟩])
        (.seq
          (.seq
            (.ops [
              ⟨some 13, .id, [.c (.int .i64 0)], none, [], [], false⟩])
            (.block 0
              (.loop [4, 5, 6, 7, 8, 9, 10, 14, 15, 16, 17, 18, 19, 20, 21, 22, 23, 24, 25, 26, 27, 28, 29, 30, 31, 32, 33, 34, 35, 36, 37, 38, 39, 40, 41, 42, 43, 44, 45, 46, 47, 48, 49, 50, 51, 52, 53, 54, 55, 56, 57, 58, 59, 60, 61, 62, 63, 64, 65, 66, 67, 68, 69, 70, 71, 72, 73, 74, 75, 76, 77, 78, 79, 80, 81, 82, 83, 84, 85, 86, 87, 88, 89] [1, 2, 3] f___ref06_Journal__record_L0)))
          (.seq
            (.ops [
              ⟨some 8, .id, [.c (.slice none 0 0)], none, [], [], false⟩,
              ⟨some 9, .id, [.c (.int .i64 0)], none, [], [], false⟩,
              ⟨some 10, .id, [.c (.int .u32 0)], none, [], [], false⟩])
            .ret)))))
def f___ref06_Journal__record : IFn := ⟨90, 4, [.tmp 8, .tmp 9, .tmp 10], f___ref06_Journal__record_B⟩
def f_ref06_Need_B : ICode :=
  (.seq
    (.ops [
      ⟨some 2, .id, [.c (.int .i64 0)], none, [], [], false⟩])
    (.seq
      (.seq
        (.ops [
          ⟨some 3, .id, [.t 0], none, [], [], false⟩,
          ⟨some 4, .bin .lss, [.t 3, .c (.int .i64 1)], none, [], [], false⟩])
        (.cond (.t 4)
          (.seq
            (.ops [
              ⟨some 2, .id, [.c (.int .i64 0)], none, [], [], false⟩])
            .ret)
          .skip))
      (.seq
        (.ops [
          ⟨some 5, .id, [.t 0], none, [], [], false⟩,
          ⟨some 6, .bin .sub, [.t 5, .c (.int .i64 1)], none, [], [], false⟩,
          ⟨some 7, .bin .quo, [.t 6, .c (.int .i64 46)], none, [], [], false⟩,
          ⟨some 8, .bin .add, [.t 7, .c (.int .i64 1)], none, [], [], false⟩,
          ⟨some 2, .id, [.t 8], none, [], [], false⟩])
        .ret)))
def f_ref06_Need : IFn := ⟨9, 0, [.tmp 2], f_ref06_Need_B⟩
def f___journal_Journal__leaves_B : ICode :=
  (.seq
    (.ops [
      ⟨some 1, .box 0, [.t 0], none, [], [], false⟩,
      ⟨some 2, .id, [.c (.nilFunc)], none, [], [], false⟩])
    (.seq
      (.ops [
        ⟨some 4, .load 1 false, [.t 1], none, [], [], false⟩,
        ⟨some 5, .nilCheck, [.t 4], none, [], [], false⟩,
        ⟨some 6, .fieldAddr 7, [.t 5], none, [], [], false⟩,
        ⟨some 7, .load 1 false, [.t 6], none, [], [], false⟩,
        ⟨some 3, .alloc 1 [(.int .i64 0)] [], [], none, [], [], false⟩,
        ⟨none, .store 1 false, [.t 3, .t 7], none, [], [], false⟩])
      (.seq
        (.ops [
          ⟨some 8, .makeFunc "(*haberdash/journal.Journal).leaves$1" 0, [.t 3, .t 1], none, [], [], false⟩,
          ⟨some 2, .id, [.t 8], none, [], [], false⟩])
        .ret)))
def f___journal_Journal__leaves : IFn := ⟨9, 2, [.tmp 2], f___journal_Journal__leaves_B⟩
def f___journal_Journal__leaves_1_B : ICode :=
  (.seq
    (.ops [
      ⟨some 2, .alloc 1 [(.int .u32 0), (.int .u32 0), (.bool false), (.bool false), (.slice none 0 0)] [], [], none, [], [], false⟩,
      ⟨some 3, .id, [.c (.bool false)], none, [], [], false⟩])
    (.seq
      (.seq
        (.draw [
          ⟨some 6, .load 1 false, [.t 0], none, [], [], false⟩,
          ⟨some 7, .load 1 false, [.t 1], none, [], [], false⟩,
          ⟨some 8, .nilCheck, [.t 7], none, [], [], false⟩,
          ⟨some 9, .fieldAddr 2, [.t 8], none, [], [], false⟩,
          ⟨some 10, .load 1 false, [.t 9], none, [], [], false⟩,
          ⟨some 11, .bin .geq, [.t 6, .t 10], none, [], [], false⟩])
        (.cond (.t 11)
          (.seq
            (.ops [
              ⟨some 12, .build [(.int .u32 0), (.int .u32 0), (.bool false), (.bool false), (.slice none 0 0)] [], [], none, [], [], false⟩,
              ⟨none, .store 5 false, [.t 2, .t 12], none, [], [], false⟩,
              ⟨some 3, .id, [.c (.bool false)], none, [], [], false⟩])
            .ret)
          .skip))
      (.seq
        (.draw [
          ⟨some 14, .load 1 false, [.t 1], none, [2], [], false⟩,
          ⟨some 15, .nilCheck, [.t 14], none, [], [], false⟩,
          ⟨some 16, .fieldAddr 0, [.t 15], none, [], [], false⟩,
          ⟨some 17, .load 1 false, [.t 16], none, [2], [], false⟩,
          ⟨some 18, .load 1 false, [.t 1], none, [2], [], false⟩,
          ⟨some 19, .nilCheck, [.t 18], none, [], [], false⟩,
          ⟨some 20, .fieldAddr 1, [.t 19], none, [], [], false⟩,
          ⟨some 21, .load 1 false, [.t 20], none, [2], [], false⟩,
          ⟨some 22, .load 1 false, [.t 0], none, [2], [], false⟩,
          ⟨some 23, .bin .add, [.t 21, .t 22], none, [], [], false⟩,
          ⟨some 24, .call "(*haberdash/disk.Disk).Read" [], [.t 17, .t 23], none, [2], [], false⟩,
          ⟨some 13, .id, [.t 24], none, [], [], false⟩,
          ⟨some 25, .extract 0, [.t 13], none, [], [], false⟩,
          ⟨some 26, .extract 1, [.t 13], none, [], [], false⟩,
          ⟨some 4, .alloc 2 zeros64 [], [], none, [], [], false⟩,
          ⟨none, .store 64 false, [.t 4, .t 25], none, [], [2], false⟩,
          ⟨some 5, .id, [.t 26], none, [], [], false⟩])
        (.seq
          (.ops [
            ⟨some 27, .load 1 false, [.t 0], none, [], [], false⟩,
            ⟨some 28, .bin .add, [.t 27, .c (.int .i64 1)], none, [], [], false⟩,
            ⟨none, .store 1 false, [.t 0, .t 28], none, [], [], false⟩])
          (.seq
            (.seq
              (.ops [
                ⟨some 29, .id, [.t 5], none, [], [], false⟩,
                ⟨some 30, .bin .neq, [.t 29, .c (.int .i64 0)], none, [], [], false⟩])
              (.cond (.t 30)
                (.seq
                  (.ops [
                    ⟨some 31, .build [(.int .u32 0), (.int .u32 0), (.bool false), (.bool false), (.slice none 0 0)] [], [], none, [], [], false⟩,
                    ⟨none, .store 5 false, [.t 2, .t 31], none, [], [], false⟩,
                    ⟨some 3, .id, [.c (.bool false)], none, [], [], false⟩])
                  .ret)
                .skip))
            (.seq
              (.ops [
                ⟨some 32, .load 64 true, [.t 4], none, [], [], false⟩,
                ⟨some 33, .call "haberdash/leaf.Take" [0], [.t 32], none, [], [], false⟩,
                ⟨some 34, .extract 0, [.t 33], none, [], [], false⟩,
                ⟨some 35, .extract 1, [.t 33], none, [], [], false⟩,
                ⟨none, .store 5 false, [.t 2, .t 34], none, [], [], false⟩,
                ⟨some 3, .id, [.t 35], none, [], [], false⟩])
              .ret))))))
def f___journal_Journal__leaves_1 : IFn := ⟨36, 3, [.cell 2 5 true, .tmp 3], f___journal_Journal__leaves_1_B⟩
end Go.AM
