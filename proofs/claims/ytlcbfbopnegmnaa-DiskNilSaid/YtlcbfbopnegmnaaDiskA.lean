import Derived.Test.YtlcbfbopnegmnaaAMA
import Derived.Test.YtlcbfbopnegmnaaCrc
import Derived.Test.YtlcbfbopnegmnaaLeafA
import Derived.Test.YtlcbfbopnegmnaaHelp
import Derived.Test.YtlcbfbopnegmnaaScopeA
import Derived.Test.YtlcbfbopnegmnaaSortA
import Derived.Test.YtlcbfbopnegmnaaPackA
import Derived.Test.YtlcbfbopnegmnaaLawGoodsB
import Derived.Test.YtlcbfbopnegmnaaPackC
set_option linter.unusedVariables false
set_option linter.unusedSimpArgs false
namespace Go.AM
def f_law06_DiskSure_L0 : ICode :=
  (.seq
    (.seq
      (.ops [
        ⟨some 47, .id, [.t 9], none, [], [], false⟩,
        ⟨some 48, .id, [.t 0], none, [], [], false⟩,
        ⟨some 49, .lenSlice, [.t 48], none, [], [], false⟩,
        ⟨some 50, .bin .lss, [.t 47, .t 49], none, [], [], false⟩])
      (.cond (.t 50)
        .skip
        (.exit 0)))
    (.seq
      (.block 1
        (.ops [
          ⟨some 53, .id, [.t 7], none, [], [], false⟩,
          ⟨some 54, .id, [.t 9], none, [], [], false⟩,
          ⟨some 55, .id, [.t 0], none, [], [], false⟩,
          ⟨some 56, .id, [.t 9], none, [], [], false⟩,
          ⟨some 57, .indexAddr 1, [.t 55, .t 56], none, [], [], false⟩,
          ⟨some 58, .load 1 false, [.t 57], none, [], [], false⟩,
          ⟨some 59, .call "haberdash/haberdashlaw06.full" [], [.t 58], none, [], [], false⟩,
          ⟨some 60, .call "(*haberdash/disk.Disk).Write" [], [.t 53, .t 54, .t 59], none, [], [], false⟩]))
      (.ops [
        ⟨some 51, .id, [.t 9], none, [], [], false⟩,
        ⟨some 52, .bin .add, [.t 51, .c (.int .i64 1)], none, [], [], false⟩,
        ⟨some 9, .id, [.t 52], none, [], [], false⟩])))
def f_law06_DiskSure_L1 : ICode :=
  (.seq
    (.seq
      (.ops [
        ⟨some 63, .id, [.t 10], none, [], [], false⟩,
        ⟨some 64, .id, [.t 1], none, [], [], false⟩,
        ⟨some 65, .lenSlice, [.t 64], none, [], [], false⟩,
        ⟨some 66, .bin .lss, [.t 63, .t 65], none, [], [], false⟩])
      (.cond (.t 66)
        .skip
        (.exit 2)))
    (.seq
      (.block 3
        (.ops [
          ⟨some 69, .id, [.t 7], none, [], [], false⟩,
          ⟨some 70, .id, [.t 10], none, [], [], false⟩,
          ⟨some 71, .id, [.t 1], none, [], [], false⟩,
          ⟨some 72, .id, [.t 10], none, [], [], false⟩,
          ⟨some 73, .indexAddr 1, [.t 71, .t 72], none, [], [], false⟩,
          ⟨some 74, .load 1 false, [.t 73], none, [], [], false⟩,
          ⟨some 75, .call "haberdash/haberdashlaw06.full" [], [.t 74], none, [], [], false⟩,
          ⟨some 76, .call "(*haberdash/disk.Disk).Write" [], [.t 69, .t 70, .t 75], none, [], [], false⟩]))
      (.ops [
        ⟨some 67, .id, [.t 10], none, [], [], false⟩,
        ⟨some 68, .bin .add, [.t 67, .c (.int .i64 1)], none, [], [], false⟩,
        ⟨some 10, .id, [.t 68], none, [], [], false⟩])))
def f_law06_DiskSure_L2 : ICode :=
  (.seq
    (.seq
      (.ops [
        ⟨some 123, .id, [.t 17], none, [], [], false⟩,
        ⟨some 124, .bin .lss, [.t 123, .c (.int .i64 64)], none, [], [], false⟩])
      (.cond (.t 124)
        .skip
        (.exit 6)))
    (.seq
      (.block 7
        (.seq
          (.ops [
            ⟨some 127, .id, [.t 17], none, [], [], false⟩,
            ⟨some 128, .indexArr 64 1, [.t 12, .t 127], none, [], [], false⟩,
            ⟨some 129, .load 1 false, [.t 128], none, [], [], false⟩,
            ⟨some 18, .id, [.t 129], none, [], [], false⟩])
          (.seq
            (.seq
              (.ops [
                ⟨some 130, .id, [.t 17], none, [], [], false⟩,
                ⟨some 131, .id, [.t 14], none, [], [], false⟩,
                ⟨some 132, .bin .lss, [.t 130, .t 131], none, [], [], false⟩])
              (.cond (.t 132)
                (.ops [
                  ⟨some 133, .id, [.t 17], none, [], [], false⟩,
                  ⟨some 134, .indexArr 64 1, [.t 13, .t 133], none, [], [], false⟩,
                  ⟨some 135, .load 1 false, [.t 134], none, [], [], false⟩,
                  ⟨some 18, .id, [.t 135], none, [], [], false⟩])
                .skip))
            (.seq
              (.ops [
                ⟨some 136, .id, [.t 16], none, [], [], false⟩,
                ⟨some 137, .bin .neq, [.t 136, .c (.int .i64 0)], none, [], [], false⟩,
                ⟨some 138, .id, [.t 137], none, [], [], false⟩,
                ⟨some 139, .id, [.t 17], (some (138, false)), [], [], false⟩,
                ⟨some 140, .indexArr 64 1, [.t 15, .t 139], (some (138, false)), [], [], false⟩,
                ⟨some 141, .load 1 false, [.t 140], (some (138, false)), [], [], false⟩,
                ⟨some 142, .id, [.t 18], (some (138, false)), [], [], false⟩,
                ⟨some 143, .bin .neq, [.t 141, .t 142], (some (138, false)), [], [], false⟩,
                ⟨some 144, .pick, [.t 138, .c (.bool true), .t 143], none, [], [], false⟩])
              (.cond (.t 144)
                (.seq
                  (.ops [
                    ⟨some 6, .id, [.c (.bool false)], none, [], [], false⟩])
                  .ret)
                .skip)))))
      (.ops [
        ⟨some 125, .id, [.t 17], none, [], [], false⟩,
        ⟨some 126, .bin .add, [.t 125, .c (.int .i64 1)], none, [], [], false⟩,
        ⟨some 17, .id, [.t 126], none, [], [], false⟩])))
def f_law06_DiskSure_L3 : ICode :=
  (.seq
    (.seq
      (.ops [
        ⟨some 82, .id, [.t 11], none, [], [], false⟩,
        ⟨some 83, .bin .lss, [.t 82, .c (.int .i64 20)], none, [], [], false⟩])
      (.cond (.t 83)
        .skip
        (.exit 4)))
    (.seq
      (.block 5
        (.seq
          (.ops [
            ⟨some 12, .alloc 4 zeros64 [], [], none, [], [], false⟩,
            ⟨some 13, .alloc 5 zeros64 [], [], none, [], [], false⟩])
          (.seq
            (.seq
              (.ops [
                ⟨some 86, .id, [.t 11], none, [], [], false⟩,
                ⟨some 87, .id, [.t 0], none, [], [], false⟩,
                ⟨some 88, .lenSlice, [.t 87], none, [], [], false⟩,
                ⟨some 89, .bin .lss, [.t 86, .t 88], none, [], [], false⟩])
              (.cond (.t 89)
                (.ops [
                  ⟨some 90, .id, [.t 0], none, [], [], false⟩,
                  ⟨some 91, .id, [.t 11], none, [], [], false⟩,
                  ⟨some 92, .indexAddr 1, [.t 90, .t 91], none, [], [], false⟩,
                  ⟨some 93, .load 1 false, [.t 92], none, [], [], false⟩,
                  ⟨some 94, .call "haberdash/haberdashlaw06.full" [], [.t 93], none, [], [], false⟩,
                  ⟨none, .store 64 false, [.t 12, .t 94], none, [], [], false⟩])
                .skip))
            (.seq
              (.ops [
                ⟨some 95, .load 64 true, [.t 12], none, [], [], false⟩,
                ⟨none, .store 64 false, [.t 13, .t 95], none, [], [], false⟩])
              (.seq
                (.ops [
                  ⟨some 14, .id, [.c (.int .i64 0)], none, [], [], false⟩])
                (.seq
                  (.seq
                    (.ops [
                      ⟨some 96, .id, [.t 11], none, [], [], false⟩,
                      ⟨some 97, .id, [.t 1], none, [], [], false⟩,
                      ⟨some 98, .lenSlice, [.t 97], none, [], [], false⟩,
                      ⟨some 99, .bin .lss, [.t 96, .t 98], none, [], [], false⟩])
                    (.cond (.t 99)
                      (.seq
                        (.ops [
                          ⟨some 100, .id, [.t 1], none, [], [], false⟩,
                          ⟨some 101, .id, [.t 11], none, [], [], false⟩,
                          ⟨some 102, .indexAddr 1, [.t 100, .t 101], none, [], [], false⟩,
                          ⟨some 103, .load 1 false, [.t 102], none, [], [], false⟩,
                          ⟨some 104, .call "haberdash/haberdashlaw06.full" [], [.t 103], none, [], [], false⟩,
                          ⟨none, .store 64 false, [.t 13, .t 104], none, [], [], false⟩])
                        (.seq
                          (.ops [
                            ⟨some 105, .id, [.t 2], none, [], [], false⟩,
                            ⟨some 106, .lenSlice, [.t 105], none, [], [], false⟩,
                            ⟨some 107, .bin .gtr, [.t 106, .c (.int .i64 0)], none, [], [], false⟩])
                          (.cond (.t 107)
                            (.ops [
                              ⟨some 108, .id, [.t 2], none, [], [], false⟩,
                              ⟨some 109, .id, [.t 11], none, [], [], false⟩,
                              ⟨some 110, .id, [.t 2], none, [], [], false⟩,
                              ⟨some 111, .lenSlice, [.t 110], none, [], [], false⟩,
                              ⟨some 112, .bin .rem, [.t 109, .t 111], none, [], [], false⟩,
                              ⟨some 113, .indexAddr 1, [.t 108, .t 112], none, [], [], false⟩,
                              ⟨some 114, .load 1 false, [.t 113], none, [], [], false⟩,
                              ⟨some 115, .max, [.t 114, .c (.int .i64 0)], none, [], [], false⟩,
                              ⟨some 116, .min, [.t 115, .c (.int .i64 64)], none, [], [], false⟩,
                              ⟨some 14, .id, [.t 116], none, [], [], false⟩])
                            .skip)))
                      .skip))
                  (.seq
                    (.ops [
                      ⟨some 118, .id, [.t 7], none, [], [], false⟩,
                      ⟨some 119, .id, [.t 11], none, [], [], false⟩,
                      ⟨some 120, .call "(*haberdash/disk.Disk).Read" [], [.t 118, .t 119], none, [], [], false⟩,
                      ⟨some 117, .id, [.t 120], none, [], [], false⟩,
                      ⟨some 121, .extract 0, [.t 117], none, [], [], false⟩,
                      ⟨some 122, .extract 1, [.t 117], none, [], [], false⟩,
                      ⟨some 15, .alloc 6 zeros64 [], [], none, [], [], false⟩,
                      ⟨none, .store 64 false, [.t 15, .t 121], none, [], [], false⟩,
                      ⟨some 16, .id, [.t 122], none, [], [], false⟩])
                    (.seq
                      (.ops [
                        ⟨some 17, .id, [.c (.int .i64 0)], none, [], [], false⟩])
                      (.block 6
                        (.loop [3, 4, 5, 6, 8, 9, 10, 18, 19, 20, 21, 22, 23, 24, 25, 26, 27, 28, 29, 30, 31, 32, 33, 34, 35, 36, 37, 38, 39, 40, 41, 42, 43, 44, 45, 46, 47, 48, 49, 50, 51, 52, 53, 54, 55, 56, 57, 58, 59, 60, 61, 62, 63, 64, 65, 66, 67, 68, 69, 70, 71, 72, 73, 74, 75, 76, 77, 78, 79, 80, 81, 82, 83, 84, 85, 86, 87, 88, 89, 90, 91, 92, 93, 94, 95, 96, 97, 98, 99, 100, 101, 102, 103, 104, 105, 106, 107, 108, 109, 110, 111, 112, 113, 114, 115, 116, 117, 118, 119, 120, 121, 122, 123, 124, 125, 126, 127, 128, 129, 130, 131, 132, 133, 134, 135, 136, 137, 138, 139, 140, 141, 142, 143, 144] [] f_law06_DiskSure_L2))))))))))
      (.ops [
        ⟨some 84, .id, [.t 11], none, [], [], false⟩,
        ⟨some 85, .bin .add, [.t 84, .c (.int .i64 1)], none, [], [], false⟩,
        ⟨some 11, .id, [.t 85], none, [], [], false⟩])))
def f_law06_DiskSure_B : ICode :=
  (.seq
    (.ops [
      ⟨some 6, .id, [.c (.bool false)], none, [], [], false⟩])
    (.seq
      (.seq
        (.ops [
          ⟨some 19, .id, [.t 0], none, [], [], false⟩,
          ⟨some 20, .lenSlice, [.t 19], none, [], [], false⟩,
          ⟨some 21, .bin .gtr, [.t 20, .c (.int .i64 20)], none, [], [], false⟩,
          ⟨some 22, .id, [.t 21], none, [], [], false⟩,
          ⟨some 23, .id, [.t 1], (some (22, false)), [], [], false⟩,
          ⟨some 24, .lenSlice, [.t 23], (some (22, false)), [], [], false⟩,
          ⟨some 25, .bin .gtr, [.t 24, .c (.int .i64 20)], (some (22, false)), [], [], false⟩,
          ⟨some 26, .pick, [.t 22, .c (.bool true), .t 25], none, [], [], false⟩,
          ⟨some 27, .id, [.t 26], none, [], [], false⟩,
          ⟨some 28, .id, [.t 2], (some (27, false)), [], [], false⟩,
          ⟨some 29, .lenSlice, [.t 28], (some (27, false)), [], [], false⟩,
          ⟨some 30, .bin .gtr, [.t 29, .c (.int .i64 40)], (some (27, false)), [], [], false⟩,
          ⟨some 31, .pick, [.t 27, .c (.bool true), .t 30], none, [], [], false⟩])
        (.cond (.t 31)
          (.seq
            (.ops [
              ⟨some 32, .call "haberdash/haberdashlaw06.awake" [], [], none, [], [], false⟩,
              ⟨some 6, .id, [.t 32], none, [], [], false⟩])
            .ret)
          .skip))
      (.seq
        (.ops [
          ⟨some 34, .call "haberdash/disk.New" [0, 1, 2, 3], [.c (.int .i64 24)], none, [], [], false⟩,
          ⟨some 33, .id, [.t 34], none, [], [], false⟩,
          ⟨some 35, .extract 0, [.t 33], none, [], [], false⟩,
          ⟨some 36, .extract 1, [.t 33], none, [], [], false⟩,
          ⟨some 7, .id, [.t 35], none, [], [], false⟩,
          ⟨some 8, .id, [.t 36], none, [], [], false⟩])
        (.seq
          (.seq
            (.ops [
              ⟨some 37, .call "haberdash/haberdashlaw06.awake" [], [], none, [], [], false⟩,
              ⟨some 38, .un .not, [.t 37], none, [], [], false⟩,
              ⟨some 39, .id, [.t 38], none, [], [], false⟩,
              ⟨some 40, .id, [.t 8], (some (39, false)), [], [], false⟩,
              ⟨some 41, .bin .neq, [.t 40, .c (.int .i64 0)], (some (39, false)), [], [], false⟩,
              ⟨some 42, .pick, [.t 39, .c (.bool true), .t 41], none, [], [], false⟩,
              ⟨some 43, .id, [.t 42], none, [], [], false⟩,
              ⟨some 44, .id, [.t 7], (some (43, false)), [], [], false⟩,
              ⟨some 45, .eqNil false .ptr, [.t 44, .c (.pointer none)], (some (43, false)), [], [], false⟩,
              ⟨some 46, .pick, [.t 43, .c (.bool true), .t 45], none, [], [], false⟩])
            (.cond (.t 46)
              (.seq
                (.ops [
                  ⟨some 6, .id, [.c (.bool false)], none, [], [], false⟩])
                .ret)
              .skip))
          (.seq
            (.seq
              (.ops [
                ⟨some 9, .id, [.c (.int .i64 0)], none, [], [], false⟩])
              (.block 0
                (.loop [3, 4, 5, 6, 8, 10, 11, 12, 13, 14, 15, 16, 17, 18, 19, 20, 21, 22, 23, 24, 25, 26, 27, 28, 29, 30, 31, 32, 33, 34, 35, 36, 37, 38, 39, 40, 41, 42, 43, 44, 45, 46, 47, 48, 49, 50, 51, 52, 53, 54, 55, 56, 57, 58, 59, 60, 61, 62, 63, 64, 65, 66, 67, 68, 69, 70, 71, 72, 73, 74, 75, 76, 77, 78, 79, 80, 81, 82, 83, 84, 85, 86, 87, 88, 89, 90, 91, 92, 93, 94, 95, 96, 97, 98, 99, 100, 101, 102, 103, 104, 105, 106, 107, 108, 109, 110, 111, 112, 113, 114, 115, 116, 117, 118, 119, 120, 121, 122, 123, 124, 125, 126, 127, 128, 129, 130, 131, 132, 133, 134, 135, 136, 137, 138, 139, 140, 141, 142, 143, 144] [] f_law06_DiskSure_L0)))
            (.seq
              (.ops [
                ⟨some 61, .id, [.t 7], none, [], [], false⟩,
                ⟨some 62, .call "(*haberdash/disk.Disk).Sync" [], [.t 61], none, [], [], false⟩])
              (.seq
                (.seq
                  (.ops [
                    ⟨some 10, .id, [.c (.int .i64 0)], none, [], [], false⟩])
                  (.block 2
                    (.loop [3, 4, 5, 6, 8, 9, 11, 12, 13, 14, 15, 16, 17, 18, 19, 20, 21, 22, 23, 24, 25, 26, 27, 28, 29, 30, 31, 32, 33, 34, 35, 36, 37, 38, 39, 40, 41, 42, 43, 44, 45, 46, 47, 48, 49, 50, 51, 52, 53, 54, 55, 56, 57, 58, 59, 60, 61, 62, 63, 64, 65, 66, 67, 68, 69, 70, 71, 72, 73, 74, 75, 76, 77, 78, 79, 80, 81, 82, 83, 84, 85, 86, 87, 88, 89, 90, 91, 92, 93, 94, 95, 96, 97, 98, 99, 100, 101, 102, 103, 104, 105, 106, 107, 108, 109, 110, 111, 112, 113, 114, 115, 116, 117, 118, 119, 120, 121, 122, 123, 124, 125, 126, 127, 128, 129, 130, 131, 132, 133, 134, 135, 136, 137, 138, 139, 140, 141, 142, 143, 144] [] f_law06_DiskSure_L1)))
                (.seq
                  (.ops [
                    ⟨some 77, .id, [.t 7], none, [], [], false⟩,
                    ⟨some 78, .id, [.t 2], none, [], [], false⟩,
                    ⟨some 79, .call "(*haberdash/disk.Disk).Crash" [], [.t 77, .t 78], none, [], [], false⟩])
                  (.seq
                    (.ops [
                      ⟨some 80, .id, [.t 7], none, [], [], false⟩,
                      ⟨some 81, .call "(*haberdash/disk.Disk).Start" [], [.t 80], none, [], [], false⟩])
                    (.seq
                      (.seq
                        (.ops [
                          ⟨some 11, .id, [.c (.int .i64 0)], none, [], [], false⟩])
                        (.block 4
                          (.loop [3, 4, 5, 6, 8, 9, 10, 12, 13, 14, 15, 16, 17, 18, 19, 20, 21, 22, 23, 24, 25, 26, 27, 28, 29, 30, 31, 32, 33, 34, 35, 36, 37, 38, 39, 40, 41, 42, 43, 44, 45, 46, 47, 48, 49, 50, 51, 52, 53, 54, 55, 56, 57, 58, 59, 60, 61, 62, 63, 64, 65, 66, 67, 68, 69, 70, 71, 72, 73, 74, 75, 76, 77, 78, 79, 80, 81, 82, 83, 84, 85, 86, 87, 88, 89, 90, 91, 92, 93, 94, 95, 96, 97, 98, 99, 100, 101, 102, 103, 104, 105, 106, 107, 108, 109, 110, 111, 112, 113, 114, 115, 116, 117, 118, 119, 120, 121, 122, 123, 124, 125, 126, 127, 128, 129, 130, 131, 132, 133, 134, 135, 136, 137, 138, 139, 140, 141, 142, 143, 144] [4, 5, 6] f_law06_DiskSure_L3)))
                      (.seq
                        (.ops [
                          ⟨some 6, .id, [.c (.bool true)], none, [], [], false⟩])
                        .ret)))))))))))
def f_law06_DiskSure : IFn := ⟨145, 7, [.tmp 6], f_law06_DiskSure_B⟩
def f_law06_DiskHits_L0 : ICode :=
  (.seq
    (.seq
      (.ops [
        ⟨some 40, .id, [.t 7], none, [], [], false⟩,
        ⟨some 41, .id, [.t 1], none, [], [], false⟩,
        ⟨some 42, .lenSlice, [.t 41], none, [], [], false⟩,
        ⟨some 43, .bin .lss, [.t 40, .t 42], none, [], [], false⟩])
      (.cond (.t 43)
        .skip
        (.exit 0)))
    (.seq
      (.block 1
        (.seq
          (.ops [
            ⟨some 47, .id, [.t 5], none, [], [], false⟩,
            ⟨some 48, .call "(*haberdash/disk.Disk).Read" [], [.t 47, .c (.int .i64 20)], none, [], [], false⟩,
            ⟨some 46, .id, [.t 48], none, [], [], false⟩,
            ⟨some 49, .extract 0, [.t 46], none, [], [], false⟩,
            ⟨some 50, .extract 1, [.t 46], none, [], [], false⟩,
            ⟨some 8, .alloc 4 zeros64 [], [], none, [], [], false⟩,
            ⟨none, .store 64 false, [.t 8, .t 49], none, [], [], false⟩,
            ⟨some 9, .id, [.t 50], none, [], [], false⟩])
          (.seq
            (.ops [
              ⟨some 51, .id, [.t 5], none, [], [], false⟩,
              ⟨some 52, .call "haberdash/haberdashlaw06.full" [], [.c (.int .u8 1)], none, [], [], false⟩,
              ⟨some 53, .call "(*haberdash/disk.Disk).Write" [], [.t 51, .c (.int .i64 (-1)), .t 52], none, [], [], false⟩,
              ⟨some 10, .id, [.t 53], none, [], [], false⟩])
            (.seq
              (.ops [
                ⟨some 54, .id, [.t 5], none, [], [], false⟩,
                ⟨some 55, .id, [.t 7], none, [], [], false⟩,
                ⟨some 56, .id, [.t 7], none, [], [], false⟩,
                ⟨some 57, .bin .add, [.t 56, .c (.int .i64 1)], none, [], [], false⟩,
                ⟨some 58, .convInt .u8, [.t 57], none, [], [], false⟩,
                ⟨some 59, .call "haberdash/haberdashlaw06.full" [], [.t 58], none, [], [], false⟩,
                ⟨some 60, .call "(*haberdash/disk.Disk).Write" [], [.t 54, .t 55, .t 59], none, [], [], false⟩,
                ⟨some 11, .id, [.t 60], none, [], [], false⟩])
              (.seq
                (.seq
                  (.ops [
                    ⟨some 61, .id, [.t 1], none, [], [], false⟩,
                    ⟨some 62, .id, [.t 7], none, [], [], false⟩,
                    ⟨some 63, .indexAddr 1, [.t 61, .t 62], none, [], [], false⟩,
                    ⟨some 64, .load 1 false, [.t 63], none, [], [], false⟩])
                  (.cond (.t 64)
                    (.seq
                      (.ops [
                        ⟨some 65, .id, [.t 5], none, [], [], false⟩,
                        ⟨some 66, .call "(*haberdash/disk.Disk).Start" [], [.t 65], none, [], [], false⟩])
                      (.seq
                        (.ops [
                          ⟨some 67, .id, [.t 5], none, [], [], false⟩,
                          ⟨some 68, .call "(*haberdash/disk.Disk).Sync" [], [.t 67], none, [], [], false⟩,
                          ⟨some 11, .id, [.t 68], none, [], [], false⟩])
                        (.seq
                          (.ops [
                            ⟨some 69, .id, [.t 11], none, [], [], false⟩,
                            ⟨some 70, .bin .eql, [.t 69, .c (.int .i64 9)], none, [], [], false⟩,
                            ⟨some 71, .id, [.t 0], none, [], [], false⟩,
                            ⟨some 72, .id, [.t 7], none, [], [], false⟩,
                            ⟨some 73, .bin .add, [.t 72, .c (.int .i64 2)], none, [], [], false⟩,
                            ⟨some 74, .bin .eql, [.t 71, .t 73], none, [], [], false⟩,
                            ⟨some 75, .eqBool false, [.t 70, .t 74], none, [], [], false⟩,
                            ⟨some 76, .id, [.t 75], none, [], [], false⟩,
                            ⟨some 77, .id, [.t 0], (some (76, false)), [], [], false⟩,
                            ⟨some 78, .id, [.t 7], (some (76, false)), [], [], false⟩,
                            ⟨some 79, .bin .add, [.t 78, .c (.int .i64 1)], (some (76, false)), [], [], false⟩,
                            ⟨some 80, .bin .leq, [.t 77, .t 79], (some (76, false)), [], [], false⟩,
                            ⟨some 81, .pick, [.t 76, .c (.bool true), .t 80], none, [], [], false⟩,
                            ⟨some 4, .id, [.t 81], none, [], [], false⟩])
                          .ret)))
                    .skip))
                (.block 2
                  (.seq
                    (.ops [
                      ⟨some 83, .id, [.t 7], none, [], [], false⟩,
                      ⟨some 84, .bin .add, [.t 83, .c (.int .i64 1)], none, [], [], false⟩,
                      ⟨some 85, .id, [.t 0], none, [], [], false⟩,
                      ⟨some 86, .bin .lss, [.t 84, .t 85], none, [], [], false⟩,
                      ⟨some 82, .id, [.t 86], none, [], [], false⟩])
                    (.cond (.t 82)
                      (.seq
                        (.ops [
                          ⟨some 87, .id, [.t 11], none, [], [], false⟩,
                          ⟨some 88, .bin .neq, [.t 87, .c (.int .i64 0)], none, [], [], false⟩,
                          ⟨some 89, .id, [.t 88], none, [], [], false⟩,
                          ⟨some 90, .id, [.t 9], (some (89, false)), [], [], false⟩,
                          ⟨some 91, .bin .neq, [.t 90, .c (.int .i64 2)], (some (89, false)), [], [], false⟩,
                          ⟨some 92, .pick, [.t 89, .c (.bool true), .t 91], none, [], [], false⟩,
                          ⟨some 93, .id, [.t 92], none, [], [], false⟩,
                          ⟨some 94, .id, [.t 10], (some (93, false)), [], [], false⟩,
                          ⟨some 95, .bin .neq, [.t 94, .c (.int .i64 2)], (some (93, false)), [], [], false⟩,
                          ⟨some 96, .pick, [.t 93, .c (.bool true), .t 95], none, [], [], false⟩,
                          ⟨some 97, .id, [.t 96], none, [], [], false⟩,
                          ⟨some 98, .id, [.t 5], (some (97, false)), [], [], false⟩,
                          ⟨some 99, .call "(*haberdash/disk.Disk).Down" [], [.t 98], (some (97, false)), [], [], false⟩,
                          ⟨some 100, .pick, [.t 97, .c (.bool true), .t 99], none, [], [], false⟩])
                        (.cond (.t 100)
                          (.seq
                            (.ops [
                              ⟨some 4, .id, [.c (.bool false)], none, [], [], false⟩])
                            .ret)
                          .skip))
                      (.seq
                        (.ops [
                          ⟨some 102, .id, [.t 11], none, [], [], false⟩,
                          ⟨some 103, .bin .neq, [.t 102, .c (.int .i64 9)], none, [], [], false⟩,
                          ⟨some 104, .id, [.t 103], none, [], [], false⟩,
                          ⟨some 105, .id, [.t 5], (some (104, false)), [], [], false⟩,
                          ⟨some 106, .call "(*haberdash/disk.Disk).Down" [], [.t 105], (some (104, false)), [], [], false⟩,
                          ⟨some 107, .un .not, [.t 106], (some (104, false)), [], [], false⟩,
                          ⟨some 108, .pick, [.t 104, .c (.bool true), .t 107], none, [], [], false⟩,
                          ⟨some 101, .id, [.t 108], none, [], [], false⟩])
                        (.cond (.t 101)
                          (.seq
                            (.ops [
                              ⟨some 4, .id, [.c (.bool false)], none, [], [], false⟩])
                            .ret)
                          .skip))))))))))
      (.ops [
        ⟨some 44, .id, [.t 7], none, [], [], false⟩,
        ⟨some 45, .bin .add, [.t 44, .c (.int .i64 1)], none, [], [], false⟩,
        ⟨some 7, .id, [.t 45], none, [], [], false⟩])))
def f_law06_DiskHits_B : ICode :=
  (.seq
    (.ops [
      ⟨some 4, .id, [.c (.bool false)], none, [], [], false⟩])
    (.seq
      (.ops [
        ⟨some 12, .id, [.t 0], none, [], [], false⟩,
        ⟨some 13, .convInt .u64, [.t 12], none, [], [], false⟩,
        ⟨some 14, .bin .rem, [.t 13, .c (.int .u64 12)], none, [], [], false⟩,
        ⟨some 15, .convInt .i64, [.t 14], none, [], [], false⟩,
        ⟨some 16, .bin .add, [.c (.int .i64 1), .t 15], none, [], [], false⟩,
        ⟨some 0, .id, [.t 16], none, [], [], false⟩])
      (.seq
        (.ops [
          ⟨some 18, .call "haberdash/disk.New" [0, 1, 2, 3], [.c (.int .i64 20)], none, [], [], false⟩,
          ⟨some 17, .id, [.t 18], none, [], [], false⟩,
          ⟨some 19, .extract 0, [.t 17], none, [], [], false⟩,
          ⟨some 20, .extract 1, [.t 17], none, [], [], false⟩,
          ⟨some 5, .id, [.t 19], none, [], [], false⟩,
          ⟨some 6, .id, [.t 20], none, [], [], false⟩])
        (.seq
          (.seq
            (.ops [
              ⟨some 21, .call "haberdash/haberdashlaw06.awake" [], [], none, [], [], false⟩,
              ⟨some 22, .un .not, [.t 21], none, [], [], false⟩,
              ⟨some 23, .id, [.t 22], none, [], [], false⟩,
              ⟨some 24, .id, [.t 6], (some (23, false)), [], [], false⟩,
              ⟨some 25, .bin .neq, [.t 24, .c (.int .i64 0)], (some (23, false)), [], [], false⟩,
              ⟨some 26, .pick, [.t 23, .c (.bool true), .t 25], none, [], [], false⟩,
              ⟨some 27, .id, [.t 26], none, [], [], false⟩,
              ⟨some 28, .id, [.t 5], (some (27, false)), [], [], false⟩,
              ⟨some 29, .eqNil false .ptr, [.t 28, .c (.pointer none)], (some (27, false)), [], [], false⟩,
              ⟨some 30, .pick, [.t 27, .c (.bool true), .t 29], none, [], [], false⟩,
              ⟨some 31, .id, [.t 30], none, [], [], false⟩,
              ⟨some 32, .id, [.t 1], (some (31, false)), [], [], false⟩,
              ⟨some 33, .lenSlice, [.t 32], (some (31, false)), [], [], false⟩,
              ⟨some 34, .bin .gtr, [.t 33, .c (.int .i64 15)], (some (31, false)), [], [], false⟩,
              ⟨some 35, .pick, [.t 31, .c (.bool true), .t 34], none, [], [], false⟩])
            (.cond (.t 35)
              (.seq
                (.ops [
                  ⟨some 36, .call "haberdash/haberdashlaw06.awake" [], [], none, [], [], false⟩,
                  ⟨some 4, .id, [.t 36], none, [], [], false⟩])
                .ret)
              .skip))
          (.seq
            (.ops [
              ⟨some 37, .id, [.t 5], none, [], [], false⟩,
              ⟨some 38, .id, [.t 0], none, [], [], false⟩,
              ⟨some 39, .call "(*haberdash/disk.Disk).Arm" [], [.t 37, .t 38], none, [], [], false⟩])
            (.seq
              (.seq
                (.ops [
                  ⟨some 7, .id, [.c (.int .i64 0)], none, [], [], false⟩])
                (.block 0
                  (.loop [2, 3, 4, 6, 8, 9, 10, 11, 12, 13, 14, 15, 16, 17, 18, 19, 20, 21, 22, 23, 24, 25, 26, 27, 28, 29, 30, 31, 32, 33, 34, 35, 36, 37, 38, 39, 40, 41, 42, 43, 44, 45, 46, 47, 48, 49, 50, 51, 52, 53, 54, 55, 56, 57, 58, 59, 60, 61, 62, 63, 64, 65, 66, 67, 68, 69, 70, 71, 72, 73, 74, 75, 76, 77, 78, 79, 80, 81, 82, 83, 84, 85, 86, 87, 88, 89, 90, 91, 92, 93, 94, 95, 96, 97, 98, 99, 100, 101, 102, 103, 104, 105, 106, 107, 108] [4] f_law06_DiskHits_L0)))
              (.seq
                (.ops [
                  ⟨some 4, .id, [.c (.bool true)], none, [], [], false⟩])
                .ret)))))))
def f_law06_DiskHits : IFn := ⟨109, 5, [.tmp 4], f_law06_DiskHits_B⟩
def f_law06_DiskNil_B : ICode :=
  (.seq
    (.ops [
      ⟨some 6, .id, [.c (.bool false)], none, [], [], false⟩])
    (.seq
      (.ops [
        ⟨some 7, .id, [.c (.pointer none)], none, [], [], false⟩])
      (.seq
        (.ops [
          ⟨some 16, .id, [.t 7], none, [], [], false⟩,
          ⟨some 17, .id, [.t 0], none, [], [], false⟩,
          ⟨some 18, .call "(*haberdash/disk.Disk).Read" [], [.t 16, .t 17], none, [], [], false⟩,
          ⟨some 15, .id, [.t 18], none, [], [], false⟩,
          ⟨some 19, .extract 0, [.t 15], none, [], [], false⟩,
          ⟨some 20, .extract 1, [.t 15], none, [], [], false⟩,
          ⟨some 8, .alloc 0 zeros64 [], [], none, [], [], false⟩,
          ⟨none, .store 64 false, [.t 8, .t 19], none, [], [], false⟩,
          ⟨some 9, .id, [.t 20], none, [], [], false⟩])
        (.seq
          (.ops [
            ⟨some 21, .id, [.t 7], none, [], [], false⟩,
            ⟨some 22, .id, [.t 0], none, [], [], false⟩,
            ⟨some 23, .call "haberdash/haberdashlaw06.full" [], [.c (.int .u8 3)], none, [], [], false⟩,
            ⟨some 24, .call "(*haberdash/disk.Disk).Write" [], [.t 21, .t 22, .t 23], none, [], [], false⟩,
            ⟨some 10, .id, [.t 24], none, [], [], false⟩])
          (.seq
            (.ops [
              ⟨some 25, .id, [.t 7], none, [], [], false⟩,
              ⟨some 26, .call "(*haberdash/disk.Disk).Sync" [], [.t 25], none, [], [], false⟩,
              ⟨some 11, .id, [.t 26], none, [], [], false⟩])
            (.seq
              (.ops [
                ⟨some 27, .id, [.t 7], none, [], [], false⟩,
                ⟨some 28, .id, [.t 1], none, [], [], false⟩,
                ⟨some 29, .call "(*haberdash/disk.Disk).Arm" [], [.t 27, .t 28], none, [], [], false⟩])
              (.seq
                (.ops [
                  ⟨some 30, .id, [.t 7], none, [], [], false⟩,
                  ⟨some 31, .id, [.t 2], none, [], [], false⟩,
                  ⟨some 32, .call "(*haberdash/disk.Disk).Crash" [], [.t 30, .t 31], none, [], [], false⟩])
                (.seq
                  (.ops [
                    ⟨some 33, .id, [.t 7], none, [], [], false⟩,
                    ⟨some 34, .call "(*haberdash/disk.Disk).Start" [], [.t 33], none, [], [], false⟩])
                  (.seq
                    (.ops [
                      ⟨some 36, .id, [.t 1], none, [], [], false⟩,
                      ⟨some 37, .call "haberdash/disk.New" [1, 2, 3, 4], [.t 36], none, [], [], false⟩,
                      ⟨some 35, .id, [.t 37], none, [], [], false⟩,
                      ⟨some 38, .extract 0, [.t 35], none, [], [], false⟩,
                      ⟨some 39, .extract 1, [.t 35], none, [], [], false⟩,
                      ⟨some 12, .id, [.t 38], none, [], [], false⟩,
                      ⟨some 13, .id, [.t 39], none, [], [], false⟩])
                    (.seq
                      (.seq
                        (.ops [
                          ⟨some 40, .id, [.t 1], none, [], [], false⟩,
                          ⟨some 41, .bin .gtr, [.t 40, .c (.int .i64 2000)], none, [], [], false⟩,
                          ⟨some 42, .id, [.t 41], none, [], [], false⟩,
                          ⟨some 43, .id, [.t 1], (some (42, true)), [], [], false⟩,
                          ⟨some 44, .bin .leq, [.t 43, .c (.int .i64 20000)], (some (42, true)), [], [], false⟩,
                          ⟨some 45, .pick, [.t 42, .t 44, .c (.bool false)], none, [], [], false⟩])
                        (.cond (.t 45)
                          (.seq
                            (.ops [
                              ⟨some 46, .call "haberdash/haberdashlaw06.awake" [], [], none, [], [], false⟩,
                              ⟨some 6, .id, [.t 46], none, [], [], false⟩])
                            .ret)
                          .skip))
                      (.seq
                        (.ops [
                          ⟨some 47, .id, [.t 1], none, [], [], false⟩,
                          ⟨some 48, .bin .geq, [.t 47, .c (.int .i64 1)], none, [], [], false⟩,
                          ⟨some 49, .id, [.t 48], none, [], [], false⟩,
                          ⟨some 50, .id, [.t 1], (some (49, true)), [], [], false⟩,
                          ⟨some 51, .bin .leq, [.t 50, .c (.int .i64 20000)], (some (49, true)), [], [], false⟩,
                          ⟨some 52, .pick, [.t 49, .t 51, .c (.bool false)], none, [], [], false⟩,
                          ⟨some 14, .id, [.t 52], none, [], [], false⟩])
                        (.seq
                          (.ops [
                            ⟨some 53, .call "haberdash/haberdashlaw06.awake" [], [], none, [], [], false⟩,
                            ⟨some 54, .id, [.t 53], none, [], [], false⟩,
                            ⟨some 55, .id, [.t 9], (some (54, true)), [], [], false⟩,
                            ⟨some 56, .bin .eql, [.t 55, .c (.int .i64 1)], (some (54, true)), [], [], false⟩,
                            ⟨some 57, .pick, [.t 54, .t 56, .c (.bool false)], none, [], [], false⟩,
                            ⟨some 58, .id, [.t 57], none, [], [], false⟩,
                            ⟨some 59, .id, [.t 10], (some (58, true)), [], [], false⟩,
                            ⟨some 60, .bin .eql, [.t 59, .c (.int .i64 1)], (some (58, true)), [], [], false⟩,
                            ⟨some 61, .pick, [.t 58, .t 60, .c (.bool false)], none, [], [], false⟩,
                            ⟨some 62, .id, [.t 61], none, [], [], false⟩,
                            ⟨some 63, .id, [.t 11], (some (62, true)), [], [], false⟩,
                            ⟨some 64, .bin .eql, [.t 63, .c (.int .i64 1)], (some (62, true)), [], [], false⟩,
                            ⟨some 65, .pick, [.t 62, .t 64, .c (.bool false)], none, [], [], false⟩,
                            ⟨some 66, .id, [.t 65], none, [], [], false⟩,
                            ⟨some 67, .id, [.t 7], (some (66, true)), [], [], false⟩,
                            ⟨some 68, .call "(*haberdash/disk.Disk).Down" [], [.t 67], (some (66, true)), [], [], false⟩,
                            ⟨some 69, .un .not, [.t 68], (some (66, true)), [], [], false⟩,
                            ⟨some 70, .pick, [.t 66, .t 69, .c (.bool false)], none, [], [], false⟩,
                            ⟨some 71, .id, [.t 70], none, [], [], false⟩,
                            ⟨some 72, .id, [.t 7], (some (71, true)), [], [], false⟩,
                            ⟨some 73, .call "(*haberdash/disk.Disk).Len" [], [.t 72], (some (71, true)), [], [], false⟩,
                            ⟨some 74, .bin .eql, [.t 73, .c (.int .i64 0)], (some (71, true)), [], [], false⟩,
                            ⟨some 75, .pick, [.t 71, .t 74, .c (.bool false)], none, [], [], false⟩,
                            ⟨some 76, .id, [.t 75], none, [], [], false⟩,
                            ⟨some 77, .id, [.t 7], (some (76, true)), [], [], false⟩,
                            ⟨some 78, .call "(*haberdash/disk.Disk).Fork" [5, 6, 7, 8], [.t 77], (some (76, true)), [], [], false⟩,
                            ⟨some 79, .eqNil false .ptr, [.t 78, .c (.pointer none)], (some (76, true)), [], [], false⟩,
                            ⟨some 80, .pick, [.t 76, .t 79, .c (.bool false)], none, [], [], false⟩,
                            ⟨some 81, .id, [.t 80], none, [], [], false⟩,
                            ⟨some 82, .id, [.t 13], (some (81, true)), [], [], false⟩,
                            ⟨some 83, .bin .eql, [.t 82, .c (.int .i64 0)], (some (81, true)), [], [], false⟩,
                            ⟨some 84, .id, [.t 14], (some (81, true)), [], [], false⟩,
                            ⟨some 85, .eqBool false, [.t 83, .t 84], (some (81, true)), [], [], false⟩,
                            ⟨some 86, .pick, [.t 81, .t 85, .c (.bool false)], none, [], [], false⟩,
                            ⟨some 87, .id, [.t 86], none, [], [], false⟩,
                            ⟨some 88, .id, [.t 13], (some (87, true)), [], [], false⟩,
                            ⟨some 89, .bin .eql, [.t 88, .c (.int .i64 2)], (some (87, true)), [], [], false⟩,
                            ⟨some 90, .id, [.t 14], (some (87, true)), [], [], false⟩,
                            ⟨some 91, .un .not, [.t 90], (some (87, true)), [], [], false⟩,
                            ⟨some 92, .eqBool false, [.t 89, .t 91], (some (87, true)), [], [], false⟩,
                            ⟨some 93, .pick, [.t 87, .t 92, .c (.bool false)], none, [], [], false⟩,
                            ⟨some 94, .id, [.t 93], none, [], [], false⟩,
                            ⟨some 95, .id, [.t 12], (some (94, true)), [], [], false⟩,
                            ⟨some 96, .eqNil true .ptr, [.t 95, .c (.pointer none)], (some (94, true)), [], [], false⟩,
                            ⟨some 97, .id, [.t 14], (some (94, true)), [], [], false⟩,
                            ⟨some 98, .eqBool false, [.t 96, .t 97], (some (94, true)), [], [], false⟩,
                            ⟨some 99, .pick, [.t 94, .t 98, .c (.bool false)], none, [], [], false⟩,
                            ⟨some 100, .id, [.t 99], none, [], [], false⟩,
                            ⟨some 101, .id, [.t 12], (some (100, true)), [], [], false⟩,
                            ⟨some 102, .eqNil false .ptr, [.t 101, .c (.pointer none)], (some (100, true)), [], [], false⟩,
                            ⟨some 103, .id, [.t 102], (some (100, true)), [], [], false⟩,
                            ⟨some 104, .id, [.t 12], (some (103, false)), [], [], false⟩,
                            ⟨some 105, .call "(*haberdash/disk.Disk).Len" [], [.t 104], (some (103, false)), [], [], false⟩,
                            ⟨some 106, .id, [.t 1], (some (103, false)), [], [], false⟩,
                            ⟨some 107, .bin .eql, [.t 105, .t 106], (some (103, false)), [], [], false⟩,
                            ⟨some 108, .pick, [.t 103, .c (.bool true), .t 107], (some (100, true)), [], [], false⟩,
                            ⟨some 109, .pick, [.t 100, .t 108, .c (.bool false)], none, [], [], false⟩,
                            ⟨some 6, .id, [.t 109], none, [], [], false⟩])
                          .ret))))))))))))
def f_law06_DiskNil : IFn := ⟨110, 9, [.tmp 6], f_law06_DiskNil_B⟩
def f_law06_awake_B : ICode :=
  (.seq
    (.ops [
      ⟨some 0, .id, [.c (.bool false)], none, [], [], false⟩])
    (.seq
      (.ops [
        ⟨some 7, .call "haberdash/disk.New" [0, 1, 2, 3], [.c (.int .i64 2)], none, [], [], false⟩,
        ⟨some 6, .id, [.t 7], none, [], [], false⟩,
        ⟨some 8, .extract 0, [.t 6], none, [], [], false⟩,
        ⟨some 9, .extract 1, [.t 6], none, [], [], false⟩,
        ⟨some 1, .id, [.t 8], none, [], [], false⟩,
        ⟨some 2, .id, [.t 9], none, [], [], false⟩])
      (.seq
        (.ops [
          ⟨some 10, .id, [.t 1], none, [], [], false⟩,
          ⟨some 11, .call "haberdash/haberdashlaw06.full" [], [.c (.int .u8 1)], none, [], [], false⟩,
          ⟨some 12, .call "(*haberdash/disk.Disk).Write" [], [.t 10, .c (.int .i64 0), .t 11], none, [], [], false⟩,
          ⟨some 3, .id, [.t 12], none, [], [], false⟩])
        (.seq
          (.ops [
            ⟨some 13, .id, [.t 1], none, [], [], false⟩,
            ⟨some 14, .buildSlice 4 false 1 1 [(.int .i64 0)] [(0, 1)], [.c (.int .i64 3)], none, [], [], false⟩,
            ⟨some 15, .call "(*haberdash/disk.Disk).Crash" [], [.t 13, .t 14], none, [], [], false⟩])
          (.seq
            (.ops [
              ⟨some 16, .id, [.t 1], none, [], [], false⟩,
              ⟨some 17, .call "(*haberdash/disk.Disk).Start" [], [.t 16], none, [], [], false⟩])
            (.seq
              (.ops [
                ⟨some 19, .id, [.t 1], none, [], [], false⟩,
                ⟨some 20, .call "(*haberdash/disk.Disk).Read" [], [.t 19, .c (.int .i64 0)], none, [], [], false⟩,
                ⟨some 18, .id, [.t 20], none, [], [], false⟩,
                ⟨some 21, .extract 0, [.t 18], none, [], [], false⟩,
                ⟨some 22, .extract 1, [.t 18], none, [], [], false⟩,
                ⟨some 4, .alloc 5 zeros64 [], [], none, [], [], false⟩,
                ⟨none, .store 64 false, [.t 4, .t 21], none, [], [], false⟩,
                ⟨some 5, .id, [.t 22], none, [], [], false⟩])
              (.seq
                (.ops [
                  ⟨some 23, .id, [.t 2], none, [], [], false⟩,
                  ⟨some 24, .bin .eql, [.t 23, .c (.int .i64 0)], none, [], [], false⟩,
                  ⟨some 25, .id, [.t 24], none, [], [], false⟩,
                  ⟨some 26, .id, [.t 3], (some (25, true)), [], [], false⟩,
                  ⟨some 27, .bin .eql, [.t 26, .c (.int .i64 0)], (some (25, true)), [], [], false⟩,
                  ⟨some 28, .pick, [.t 25, .t 27, .c (.bool false)], none, [], [], false⟩,
                  ⟨some 29, .id, [.t 28], none, [], [], false⟩,
                  ⟨some 30, .id, [.t 5], (some (29, true)), [], [], false⟩,
                  ⟨some 31, .bin .eql, [.t 30, .c (.int .i64 0)], (some (29, true)), [], [], false⟩,
                  ⟨some 32, .pick, [.t 29, .t 31, .c (.bool false)], none, [], [], false⟩,
                  ⟨some 33, .id, [.t 32], none, [], [], false⟩,
                  ⟨some 34, .indexArr 64 1, [.t 4, .c (.int .i64 2)], (some (33, true)), [], [], false⟩,
                  ⟨some 35, .load 1 false, [.t 34], (some (33, true)), [], [], false⟩,
                  ⟨some 36, .bin .eql, [.t 35, .c (.int .u8 1)], (some (33, true)), [], [], false⟩,
                  ⟨some 37, .pick, [.t 33, .t 36, .c (.bool false)], none, [], [], false⟩,
                  ⟨some 38, .id, [.t 37], none, [], [], false⟩,
                  ⟨some 39, .indexArr 64 1, [.t 4, .c (.int .i64 3)], (some (38, true)), [], [], false⟩,
                  ⟨some 40, .load 1 false, [.t 39], (some (38, true)), [], [], false⟩,
                  ⟨some 41, .bin .eql, [.t 40, .c (.int .u8 0)], (some (38, true)), [], [], false⟩,
                  ⟨some 42, .pick, [.t 38, .t 41, .c (.bool false)], none, [], [], false⟩,
                  ⟨some 0, .id, [.t 42], none, [], [], false⟩])
                .ret)))))))
def f_law06_awake : IFn := ⟨43, 6, [.tmp 0], f_law06_awake_B⟩
def f_disk_New_B : ICode :=
  (.seq
    (.ops [
      ⟨some 2, .id, [.c (.pointer none)], none, [], [], false⟩,
      ⟨some 3, .id, [.c (.int .i64 0)], none, [], [], false⟩])
    (.seq
      (.seq
        (.ops [
          ⟨some 4, .id, [.t 0], none, [], [], false⟩,
          ⟨some 5, .bin .lss, [.t 4, .c (.int .i64 1)], none, [], [], false⟩,
          ⟨some 6, .id, [.t 5], none, [], [], false⟩,
          ⟨some 7, .id, [.t 0], (some (6, false)), [], [], false⟩,
          ⟨some 8, .bin .gtr, [.t 7, .c (.int .i64 20000)], (some (6, false)), [], [], false⟩,
          ⟨some 9, .pick, [.t 6, .c (.bool true), .t 8], none, [], [], false⟩])
        (.cond (.t 9)
          (.seq
            (.ops [
              ⟨some 2, .id, [.c (.pointer none)], none, [], [], false⟩,
              ⟨some 3, .id, [.c (.int .i64 2)], none, [], [], false⟩])
            .ret)
          .skip))
      (.seq
        (.draw [
          ⟨some 10, .id, [.t 0], none, [], [], false⟩,
          ⟨some 11, .makeSlice 0 64 64 zeros64, [.t 10, .t 10], none, [1, 2], [], false⟩,
          ⟨some 12, .id, [.t 0], none, [], [], false⟩,
          ⟨some 13, .makeSlice 1 64 64 zeros64, [.t 12, .t 12], none, [0, 2], [], false⟩,
          ⟨some 14, .id, [.t 0], none, [], [], false⟩,
          ⟨some 15, .makeSlice 2 1 1 [(.bool false)], [.t 14, .t 14], none, [0, 1], [], false⟩,
          ⟨some 16, .build [(.slice none 0 0), (.slice none 0 0), (.slice none 0 0), (.bool false), (.int .i64 0)] [(0, 1), (1, 1), (2, 1)], [.t 11, .t 13, .t 15], none, [], [], false⟩,
          ⟨some 17, .box 3, [.t 16], none, [], [], false⟩,
          ⟨some 2, .id, [.t 17], none, [], [], false⟩,
          ⟨some 3, .id, [.c (.int .i64 0)], none, [], [], false⟩])
        .ret)))
def f_disk_New : IFn := ⟨18, 4, [.tmp 2, .tmp 3], f_disk_New_B⟩
def f_law06_full_L0 : ICode :=
  (.seq
    (.ops [
      ⟨some 6, .bin .lss, [.t 5, .c (.int .i64 64)], none, [], [], false⟩])
    (.seq
      (.cond (.t 6)
        .skip
        (.exit 0))
      (.seq
        (.block 1
          (.seq
            (.ops [
              ⟨some 7, .id, [.t 5], none, [], [], false⟩,
              ⟨some 4, .id, [.t 7], none, [], [], false⟩])
            (.ops [
              ⟨some 8, .id, [.t 4], none, [], [], false⟩,
              ⟨some 9, .id, [.t 0], none, [], [], false⟩,
              ⟨some 10, .indexArr 64 1, [.t 3, .t 8], none, [], [], false⟩,
              ⟨none, .store 1 false, [.t 10, .t 9], none, [], [], false⟩])))
        (.ops [
          ⟨some 11, .bin .add, [.t 5, .c (.int .i64 1)], none, [], [], false⟩,
          ⟨some 5, .id, [.t 11], none, [], [], false⟩]))))
def f_law06_full_H0 (t0 t2 t3 t5 : AV) : List AV := [t0, .dead, t2, t3, .dead, t5, .dead, .dead, .dead, .dead, .dead, .dead, .dead]
def f_law06_full_B : ICode :=
  (.seq
    (.ops [
      ⟨some 2, .alloc 0 zeros64 [], [], none, [], [], false⟩])
    (.seq
      (.ops [
        ⟨some 3, .alloc 1 zeros64 [], [], none, [], [], false⟩])
      (.seq
        (.seq
          (.ops [
            ⟨some 5, .id, [.c (.int .i64 0)], none, [], [], false⟩])
          (.block 0
            (.loop [1, 4, 6, 7, 8, 9, 10, 11, 12] [] f_law06_full_L0)))
        (.seq
          (.ops [
            ⟨some 12, .load 64 true, [.t 3], none, [], [], false⟩,
            ⟨none, .store 64 false, [.t 2, .t 12], none, [], [], false⟩])
          .ret))))
def f_law06_full : IFn := ⟨13, 2, [.cell 2 64 true], f_law06_full_B⟩
def f___disk_Disk__Write_B : ICode :=
  (.seq
    (.ops [
      ⟨some 5, .box 0, [.t 2], none, [], [], false⟩,
      ⟨some 6, .id, [.c (.int .i64 0)], none, [], [], false⟩])
    (.seq
      (.seq
        (.ops [
          ⟨some 8, .id, [.t 0], none, [], [], false⟩,
          ⟨some 9, .id, [.t 1], none, [], [], false⟩,
          ⟨some 10, .call "(*haberdash/disk.Disk).may" [], [.t 8, .t 9], none, [], [], false⟩,
          ⟨some 7, .id, [.t 10], none, [], [], false⟩])
        (.seq
          (.ops [
            ⟨some 11, .id, [.t 7], none, [], [], false⟩,
            ⟨some 12, .bin .neq, [.t 11, .c (.int .i64 0)], none, [], [], false⟩])
          (.cond (.t 12)
            (.seq
              (.ops [
                ⟨some 13, .id, [.t 7], none, [], [], false⟩,
                ⟨some 6, .id, [.t 13], none, [], [], false⟩])
              .ret)
            .skip)))
      (.seq
        (.draw [
          ⟨some 14, .id, [.t 0], none, [], [], false⟩,
          ⟨some 15, .nilCheck, [.t 14], none, [], [], false⟩,
          ⟨some 16, .fieldAddr 1, [.t 15], none, [], [], false⟩,
          ⟨some 17, .load 1 false, [.t 16], none, [], [], false⟩,
          ⟨some 18, .id, [.t 1], none, [], [], false⟩,
          ⟨some 19, .id, [.t 0], none, [], [], false⟩,
          ⟨some 20, .nilCheck, [.t 19], none, [], [], false⟩,
          ⟨some 21, .fieldAddr 2, [.t 20], none, [], [], false⟩,
          ⟨some 22, .load 1 false, [.t 21], none, [], [], false⟩,
          ⟨some 23, .id, [.t 1], none, [], [], false⟩,
          ⟨some 24, .load 64 true, [.t 5], none, [], [], false⟩,
          ⟨some 25, .indexAddr 64, [.t 17, .t 18], none, [], [], false⟩,
          ⟨none, .store 64 false, [.t 25, .t 24], none, [], [], true⟩,
          ⟨some 26, .indexAddr 1, [.t 22, .t 23], none, [], [], false⟩,
          ⟨none, .store 1 false, [.t 26, .c (.bool true)], none, [], [], true⟩])
        (.seq
          (.seq
            (.ops [
              ⟨some 27, .id, [.t 0], none, [], [], false⟩,
              ⟨some 28, .call "(*haberdash/disk.Disk).hit" [], [.t 27], none, [], [], false⟩])
            (.cond (.t 28)
              (.seq
                (.ops [
                  ⟨some 6, .id, [.c (.int .i64 9)], none, [], [], false⟩])
                .ret)
              .skip))
          (.seq
            (.ops [
              ⟨some 6, .id, [.c (.int .i64 0)], none, [], [], false⟩])
            .ret)))))
def f___disk_Disk__Write : IFn := ⟨29, 1, [.tmp 6], f___disk_Disk__Write_B⟩
def f___disk_Disk__Sync_L0 : ICode :=
  (.seq
    (.ops [
      ⟨some 18, .bin .lss, [.t 17, .t 16], none, [], [], false⟩])
    (.seq
      (.cond (.t 18)
        .skip
        (.exit 0))
      (.seq
        (.block 1
          (.seq
            (.ops [
              ⟨some 19, .id, [.t 17], none, [], [], false⟩,
              ⟨some 4, .id, [.t 19], none, [], [], false⟩])
            (.draw [
              ⟨some 20, .id, [.t 0], none, [], [], false⟩,
              ⟨some 21, .nilCheck, [.t 20], none, [], [], false⟩,
              ⟨some 22, .fieldAddr 0, [.t 21], none, [], [], false⟩,
              ⟨some 23, .load 1 false, [.t 22], none, [], [], false⟩,
              ⟨some 24, .id, [.t 4], none, [], [], false⟩,
              ⟨some 25, .id, [.t 0], none, [], [], false⟩,
              ⟨some 26, .nilCheck, [.t 25], none, [], [], false⟩,
              ⟨some 27, .fieldAddr 2, [.t 26], none, [], [], false⟩,
              ⟨some 28, .load 1 false, [.t 27], none, [], [], false⟩,
              ⟨some 29, .id, [.t 4], none, [], [], false⟩,
              ⟨some 30, .id, [.t 0], none, [], [], false⟩,
              ⟨some 31, .nilCheck, [.t 30], none, [], [], false⟩,
              ⟨some 32, .fieldAddr 1, [.t 31], none, [], [], false⟩,
              ⟨some 33, .load 1 false, [.t 32], none, [], [], false⟩,
              ⟨some 34, .id, [.t 4], none, [], [], false⟩,
              ⟨some 35, .indexAddr 64, [.t 33, .t 34], none, [], [], false⟩,
              ⟨some 36, .load 64 true, [.t 35], none, [], [], false⟩,
              ⟨some 37, .indexAddr 64, [.t 23, .t 24], none, [], [], false⟩,
              ⟨none, .store 64 false, [.t 37, .t 36], none, [], [], true⟩,
              ⟨some 38, .indexAddr 1, [.t 28, .t 29], none, [], [], false⟩,
              ⟨none, .store 1 false, [.t 38, .c (.bool false)], none, [], [], true⟩])))
        (.ops [
          ⟨some 39, .bin .add, [.t 17, .c (.int .i64 1)], none, [], [], false⟩,
          ⟨some 17, .id, [.t 39], none, [], [], false⟩]))))
def f___disk_Disk__Sync_B : ICode :=
  (.seq
    (.ops [
      ⟨some 2, .id, [.c (.int .i64 0)], none, [], [], false⟩])
    (.seq
      (.seq
        (.ops [
          ⟨some 5, .id, [.t 0], none, [], [], false⟩,
          ⟨some 6, .call "(*haberdash/disk.Disk).may" [], [.t 5, .c (.int .i64 0)], none, [], [], false⟩,
          ⟨some 3, .id, [.t 6], none, [], [], false⟩])
        (.seq
          (.ops [
            ⟨some 7, .id, [.t 3], none, [], [], false⟩,
            ⟨some 8, .bin .neq, [.t 7, .c (.int .i64 0)], none, [], [], false⟩])
          (.cond (.t 8)
            (.seq
              (.ops [
                ⟨some 9, .id, [.t 3], none, [], [], false⟩,
                ⟨some 2, .id, [.t 9], none, [], [], false⟩])
              .ret)
            .skip)))
      (.seq
        (.seq
          (.ops [
            ⟨some 10, .id, [.t 0], none, [], [], false⟩,
            ⟨some 11, .call "(*haberdash/disk.Disk).hit" [], [.t 10], none, [], [], false⟩])
          (.cond (.t 11)
            (.seq
              (.ops [
                ⟨some 2, .id, [.c (.int .i64 9)], none, [], [], false⟩])
              .ret)
            .skip))
        (.seq
          (.seq
            (.ops [
              ⟨some 12, .id, [.t 0], none, [], [], false⟩,
              ⟨some 13, .nilCheck, [.t 12], none, [], [], false⟩,
              ⟨some 14, .fieldAddr 1, [.t 13], none, [], [], false⟩,
              ⟨some 15, .load 1 false, [.t 14], none, [], [], false⟩,
              ⟨some 16, .lenSlice, [.t 15], none, [], [], false⟩,
              ⟨some 17, .id, [.c (.int .i64 0)], none, [], [], false⟩])
            (.block 0
              (.loop [1, 2, 3, 4, 5, 6, 7, 8, 9, 10, 11, 12, 13, 14, 15, 18, 19, 20, 21, 22, 23, 24, 25, 26, 27, 28, 29, 30, 31, 32, 33, 34, 35, 36, 37, 38, 39] [] f___disk_Disk__Sync_L0)))
          (.seq
            (.ops [
              ⟨some 2, .id, [.c (.int .i64 0)], none, [], [], false⟩])
            .ret)))))
def f___disk_Disk__Sync : IFn := ⟨40, 0, [.tmp 2], f___disk_Disk__Sync_B⟩
def f___disk_Disk__Crash_B : ICode :=
  (.seq
    (.ops [
      ⟨some 3, .box 0, [.t 1], none, [], [], false⟩])
    (.seq
      (.seq
        (.ops [
          ⟨some 4, .id, [.t 0], none, [], [], false⟩,
          ⟨some 5, .eqNil false .ptr, [.t 4, .c (.pointer none)], none, [], [], false⟩])
        (.cond (.t 5)
          .ret
          .skip))
      (.seq
        (.ops [
          ⟨some 6, .id, [.t 0], none, [], [], false⟩,
          ⟨some 7, .makeFunc "(*haberdash/disk.Disk).Crash$1" 0, [.t 3], none, [], [], false⟩,
          ⟨some 8, .call "(*haberdash/disk.Disk).settle" [], [.t 6, .t 7], none, [], [], false⟩])
        (.ops [
          ⟨some 9, .id, [.t 0], none, [], [], false⟩,
          ⟨some 10, .nilCheck, [.t 9], none, [], [], false⟩,
          ⟨some 11, .fieldAddr 3, [.t 10], none, [], [], false⟩,
          ⟨none, .store 1 false, [.t 11, .c (.bool true)], none, [], [], false⟩]))))
def f___disk_Disk__Crash : IFn := ⟨12, 1, [], f___disk_Disk__Crash_B⟩
def f___disk_Disk__Start_B : ICode :=
  (.seq
    (.ops [
      ⟨some 2, .id, [.t 0], none, [], [], false⟩,
      ⟨some 3, .eqNil true .ptr, [.t 2, .c (.pointer none)], none, [], [], false⟩,
      ⟨some 4, .id, [.t 3], none, [], [], false⟩,
      ⟨some 5, .id, [.t 0], (some (4, true)), [], [], false⟩,
      ⟨some 6, .nilCheck, [.t 5], (some (4, true)), [], [], false⟩,
      ⟨some 7, .fieldAddr 3, [.t 6], (some (4, true)), [], [], false⟩,
      ⟨some 8, .load 1 false, [.t 7], (some (4, true)), [], [], false⟩,
      ⟨some 9, .pick, [.t 4, .t 8, .c (.bool false)], none, [], [], false⟩])
    (.cond (.t 9)
      (.seq
        (.ops [
          ⟨some 10, .id, [.t 0], none, [], [], false⟩,
          ⟨some 11, .call "(*haberdash/disk.Disk).settle" [], [.t 10, .f "(*haberdash/disk.Disk).Start$1"], none, [], [], false⟩])
        (.ops [
          ⟨some 12, .id, [.t 0], none, [], [], false⟩,
          ⟨some 13, .nilCheck, [.t 12], none, [], [], false⟩,
          ⟨some 14, .fieldAddr 3, [.t 13], none, [], [], false⟩,
          ⟨none, .store 1 false, [.t 14, .c (.bool false)], none, [], [], false⟩]))
      .skip))
def f___disk_Disk__Start : IFn := ⟨15, 0, [], f___disk_Disk__Start_B⟩
def f___disk_Disk__Read_B : ICode :=
  (.seq
    (.ops [
      ⟨some 4, .alloc 0 zeros64 [], [], none, [], [], false⟩,
      ⟨some 5, .id, [.c (.int .i64 0)], none, [], [], false⟩])
    (.seq
      (.seq
        (.ops [
          ⟨some 7, .id, [.t 0], none, [], [], false⟩,
          ⟨some 8, .id, [.t 1], none, [], [], false⟩,
          ⟨some 9, .call "(*haberdash/disk.Disk).may" [], [.t 7, .t 8], none, [], [], false⟩,
          ⟨some 6, .id, [.t 9], none, [], [], false⟩])
        (.seq
          (.ops [
            ⟨some 10, .id, [.t 6], none, [], [], false⟩,
            ⟨some 11, .bin .neq, [.t 10, .c (.int .i64 0)], none, [], [], false⟩])
          (.cond (.t 11)
            (.seq
              (.ops [
                ⟨some 12, .build zeros64 [], [], none, [], [], false⟩,
                ⟨some 13, .id, [.t 6], none, [], [], false⟩,
                ⟨none, .store 64 false, [.t 4, .t 12], none, [], [], false⟩,
                ⟨some 5, .id, [.t 13], none, [], [], false⟩])
              .ret)
            .skip)))
      (.seq
        (.ops [
          ⟨some 14, .id, [.t 0], none, [], [], false⟩,
          ⟨some 15, .nilCheck, [.t 14], none, [], [], false⟩,
          ⟨some 16, .fieldAddr 1, [.t 15], none, [], [], false⟩,
          ⟨some 17, .load 1 false, [.t 16], none, [], [], false⟩,
          ⟨some 18, .id, [.t 1], none, [], [], false⟩,
          ⟨some 19, .indexAddr 64, [.t 17, .t 18], none, [], [], false⟩,
          ⟨some 20, .load 64 true, [.t 19], none, [], [], false⟩,
          ⟨none, .store 64 false, [.t 4, .t 20], none, [], [], false⟩,
          ⟨some 5, .id, [.c (.int .i64 0)], none, [], [], false⟩])
        .ret)))
def f___disk_Disk__Read : IFn := ⟨21, 1, [.cell 4 64 true, .tmp 5], f___disk_Disk__Read_B⟩
def f___disk_Disk__Arm_B : ICode :=
  (.seq
    (.ops [
      ⟨some 4, .id, [.t 0], none, [], [], false⟩,
      ⟨some 5, .eqNil true .ptr, [.t 4, .c (.pointer none)], none, [], [], false⟩])
    (.cond (.t 5)
      (.ops [
        ⟨some 6, .id, [.t 0], none, [], [], false⟩,
        ⟨some 7, .id, [.t 1], none, [], [], false⟩,
        ⟨some 8, .max, [.t 7, .c (.int .i64 0)], none, [], [], false⟩,
        ⟨some 9, .nilCheck, [.t 6], none, [], [], false⟩,
        ⟨some 10, .fieldAddr 4, [.t 9], none, [], [], false⟩,
        ⟨none, .store 1 false, [.t 10, .t 8], none, [], [], false⟩])
      .skip))
def f___disk_Disk__Arm : IFn := ⟨11, 0, [], f___disk_Disk__Arm_B⟩
def f___disk_Disk__Down_B : ICode :=
  (.seq
    (.ops [
      ⟨some 2, .id, [.c (.bool false)], none, [], [], false⟩])
    (.seq
      (.ops [
        ⟨some 3, .id, [.t 0], none, [], [], false⟩,
        ⟨some 4, .eqNil true .ptr, [.t 3, .c (.pointer none)], none, [], [], false⟩,
        ⟨some 5, .id, [.t 4], none, [], [], false⟩,
        ⟨some 6, .id, [.t 0], (some (5, true)), [], [], false⟩,
        ⟨some 7, .nilCheck, [.t 6], (some (5, true)), [], [], false⟩,
        ⟨some 8, .fieldAddr 3, [.t 7], (some (5, true)), [], [], false⟩,
        ⟨some 9, .load 1 false, [.t 8], (some (5, true)), [], [], false⟩,
        ⟨some 10, .pick, [.t 5, .t 9, .c (.bool false)], none, [], [], false⟩,
        ⟨some 2, .id, [.t 10], none, [], [], false⟩])
      .ret))
def f___disk_Disk__Down : IFn := ⟨11, 0, [.tmp 2], f___disk_Disk__Down_B⟩
def f___disk_Disk__Fork_B : ICode :=
  (.seq
    (.ops [
      ⟨some 2, .id, [.c (.pointer none)], none, [], [], false⟩])
    (.seq
      (.seq
        (.ops [
          ⟨some 4, .id, [.t 0], none, [], [], false⟩,
          ⟨some 5, .eqNil false .ptr, [.t 4, .c (.pointer none)], none, [], [], false⟩])
        (.cond (.t 5)
          (.seq
            (.ops [
              ⟨some 2, .id, [.c (.pointer none)], none, [], [], false⟩])
            .ret)
          .skip))
      (.seq
        (.ops [
          ⟨some 6, .id, [.t 0], none, [], [], false⟩,
          ⟨some 7, .nilCheck, [.t 6], none, [], [], false⟩,
          ⟨some 8, .load 5 true, [.t 7], none, [], [], false⟩,
          ⟨some 3, .alloc 3 [(.slice none 0 0), (.slice none 0 0), (.slice none 0 0), (.bool false), (.int .i64 0)] [], [], none, [], [], false⟩,
          ⟨none, .store 5 false, [.t 3, .t 8], none, [], [], false⟩])
        (.seq
          (.draw [
            ⟨some 9, .id, [.t 0], none, [], [], false⟩,
            ⟨some 10, .nilCheck, [.t 9], none, [], [], false⟩,
            ⟨some 11, .fieldAddr 0, [.t 10], none, [], [], false⟩,
            ⟨some 12, .load 1 false, [.t 11], none, [], [], false⟩,
            ⟨some 13, .call "slices.Clone[[][64]byte,[64]byte]" [0], [.t 12], none, [], [], false⟩,
            ⟨some 14, .id, [.t 0], none, [], [], false⟩,
            ⟨some 15, .nilCheck, [.t 14], none, [], [], false⟩,
            ⟨some 16, .fieldAddr 1, [.t 15], none, [], [], false⟩,
            ⟨some 17, .load 1 false, [.t 16], none, [0], [], false⟩,
            ⟨some 18, .call "slices.Clone[[][64]byte,[64]byte]" [1], [.t 17], none, [], [], false⟩,
            ⟨some 19, .id, [.t 0], none, [], [], false⟩,
            ⟨some 20, .nilCheck, [.t 19], none, [], [], false⟩,
            ⟨some 21, .fieldAddr 2, [.t 20], none, [], [], false⟩,
            ⟨some 22, .load 1 false, [.t 21], none, [0, 1], [], false⟩,
            ⟨some 23, .call "slices.Clone[[]bool,bool]" [2], [.t 22], none, [], [], false⟩,
            ⟨some 24, .fieldAddr 0, [.t 3], none, [], [], false⟩,
            ⟨none, .store 1 false, [.t 24, .t 13], none, [], [3], false⟩,
            ⟨some 25, .fieldAddr 1, [.t 3], none, [], [], false⟩,
            ⟨none, .store 1 false, [.t 25, .t 18], none, [], [3], false⟩,
            ⟨some 26, .fieldAddr 2, [.t 3], none, [], [], false⟩,
            ⟨none, .store 1 false, [.t 26, .t 23], none, [], [3], false⟩])
          (.seq
            (.ops [
              ⟨some 2, .id, [.t 3], none, [], [], false⟩])
            .ret)))))
def f___disk_Disk__Fork : IFn := ⟨27, 4, [.tmp 2], f___disk_Disk__Fork_B⟩
def f___disk_Disk__Len_B : ICode :=
  (.seq
    (.ops [
      ⟨some 2, .id, [.c (.int .i64 0)], none, [], [], false⟩])
    (.seq
      (.seq
        (.ops [
          ⟨some 3, .id, [.t 0], none, [], [], false⟩,
          ⟨some 4, .eqNil false .ptr, [.t 3, .c (.pointer none)], none, [], [], false⟩])
        (.cond (.t 4)
          (.seq
            (.ops [
              ⟨some 2, .id, [.c (.int .i64 0)], none, [], [], false⟩])
            .ret)
          .skip))
      (.seq
        (.ops [
          ⟨some 5, .id, [.t 0], none, [], [], false⟩,
          ⟨some 6, .nilCheck, [.t 5], none, [], [], false⟩,
          ⟨some 7, .fieldAddr 1, [.t 6], none, [], [], false⟩,
          ⟨some 8, .load 1 false, [.t 7], none, [], [], false⟩,
          ⟨some 9, .lenSlice, [.t 8], none, [], [], false⟩,
          ⟨some 2, .id, [.t 9], none, [], [], false⟩])
        .ret)))
def f___disk_Disk__Len : IFn := ⟨10, 0, [.tmp 2], f___disk_Disk__Len_B⟩
def f___disk_Disk__may_B : ICode :=
  (.seq
    (.ops [
      ⟨some 4, .id, [.c (.int .i64 0)], none, [], [], false⟩])
    (.seq
      (.block 0
        (.seq
          (.ops [
            ⟨some 6, .id, [.t 0], none, [], [], false⟩,
            ⟨some 7, .eqNil false .ptr, [.t 6, .c (.pointer none)], none, [], [], false⟩,
            ⟨some 5, .id, [.t 7], none, [], [], false⟩])
          (.cond (.t 5)
            (.seq
              (.ops [
                ⟨some 4, .id, [.c (.int .i64 1)], none, [], [], false⟩])
              .ret)
            (.seq
              (.ops [
                ⟨some 9, .id, [.t 0], none, [], [], false⟩,
                ⟨some 10, .nilCheck, [.t 9], none, [], [], false⟩,
                ⟨some 11, .fieldAddr 3, [.t 10], none, [], [], false⟩,
                ⟨some 12, .load 1 false, [.t 11], none, [], [], false⟩,
                ⟨some 8, .id, [.t 12], none, [], [], false⟩])
              (.cond (.t 8)
                (.seq
                  (.ops [
                    ⟨some 4, .id, [.c (.int .i64 9)], none, [], [], false⟩])
                  .ret)
                (.seq
                  (.ops [
                    ⟨some 14, .id, [.t 1], none, [], [], false⟩,
                    ⟨some 15, .bin .lss, [.t 14, .c (.int .i64 0)], none, [], [], false⟩,
                    ⟨some 16, .id, [.t 15], none, [], [], false⟩,
                    ⟨some 17, .id, [.t 1], (some (16, false)), [], [], false⟩,
                    ⟨some 18, .id, [.t 0], (some (16, false)), [], [], false⟩,
                    ⟨some 19, .nilCheck, [.t 18], (some (16, false)), [], [], false⟩,
                    ⟨some 20, .fieldAddr 1, [.t 19], (some (16, false)), [], [], false⟩,
                    ⟨some 21, .load 1 false, [.t 20], (some (16, false)), [], [], false⟩,
                    ⟨some 22, .lenSlice, [.t 21], (some (16, false)), [], [], false⟩,
                    ⟨some 23, .bin .geq, [.t 17, .t 22], (some (16, false)), [], [], false⟩,
                    ⟨some 24, .pick, [.t 16, .c (.bool true), .t 23], none, [], [], false⟩,
                    ⟨some 13, .id, [.t 24], none, [], [], false⟩])
                  (.cond (.t 13)
                    (.seq
                      (.ops [
                        ⟨some 4, .id, [.c (.int .i64 2)], none, [], [], false⟩])
                      .ret)
                    .skip)))))))
      (.seq
        (.ops [
          ⟨some 4, .id, [.c (.int .i64 0)], none, [], [], false⟩])
        .ret)))
def f___disk_Disk__may : IFn := ⟨25, 0, [.tmp 4], f___disk_Disk__may_B⟩
def f___disk_Disk__hit_B : ICode :=
  (.seq
    (.ops [
      ⟨some 2, .id, [.c (.bool false)], none, [], [], false⟩])
    (.seq
      (.seq
        (.ops [
          ⟨some 3, .id, [.t 0], none, [], [], false⟩,
          ⟨some 4, .nilCheck, [.t 3], none, [], [], false⟩,
          ⟨some 5, .fieldAddr 4, [.t 4], none, [], [], false⟩,
          ⟨some 6, .load 1 false, [.t 5], none, [], [], false⟩,
          ⟨some 7, .bin .eql, [.t 6, .c (.int .i64 0)], none, [], [], false⟩])
        (.cond (.t 7)
          (.seq
            (.ops [
              ⟨some 2, .id, [.c (.bool false)], none, [], [], false⟩])
            .ret)
          .skip))
      (.seq
        (.ops [
          ⟨some 8, .id, [.t 0], none, [], [], false⟩,
          ⟨some 9, .nilCheck, [.t 8], none, [], [], false⟩,
          ⟨some 10, .fieldAddr 4, [.t 9], none, [], [], false⟩,
          ⟨some 11, .load 1 false, [.t 10], none, [], [], false⟩,
          ⟨some 12, .bin .sub, [.t 11, .c (.int .i64 1)], none, [], [], false⟩,
          ⟨some 13, .nilCheck, [.t 8], none, [], [], false⟩,
          ⟨some 14, .fieldAddr 4, [.t 13], none, [], [], false⟩,
          ⟨none, .store 1 false, [.t 14, .t 12], none, [], [], false⟩])
        (.seq
          (.ops [
            ⟨some 15, .id, [.t 0], none, [], [], false⟩,
            ⟨some 16, .id, [.t 0], none, [], [], false⟩,
            ⟨some 17, .nilCheck, [.t 16], none, [], [], false⟩,
            ⟨some 18, .fieldAddr 4, [.t 17], none, [], [], false⟩,
            ⟨some 19, .load 1 false, [.t 18], none, [], [], false⟩,
            ⟨some 20, .bin .eql, [.t 19, .c (.int .i64 0)], none, [], [], false⟩,
            ⟨some 21, .nilCheck, [.t 15], none, [], [], false⟩,
            ⟨some 22, .fieldAddr 3, [.t 21], none, [], [], false⟩,
            ⟨none, .store 1 false, [.t 22, .t 20], none, [], [], false⟩])
          (.seq
            (.ops [
              ⟨some 23, .id, [.t 0], none, [], [], false⟩,
              ⟨some 24, .nilCheck, [.t 23], none, [], [], false⟩,
              ⟨some 25, .fieldAddr 3, [.t 24], none, [], [], false⟩,
              ⟨some 26, .load 1 false, [.t 25], none, [], [], false⟩,
              ⟨some 2, .id, [.t 26], none, [], [], false⟩])
            .ret)))))
def f___disk_Disk__hit : IFn := ⟨27, 0, [.tmp 2], f___disk_Disk__hit_B⟩
def f___disk_Disk__Crash_1_B : ICode :=
  (.seq
    (.ops [
      ⟨some 3, .id, [.c (.int .i64 0)], none, [], [], false⟩])
    (.seq
      (.seq
        (.ops [
          ⟨some 4, .load 1 false, [.t 1], none, [], [], false⟩,
          ⟨some 5, .lenSlice, [.t 4], none, [], [], false⟩,
          ⟨some 6, .bin .eql, [.t 5, .c (.int .i64 0)], none, [], [], false⟩])
        (.cond (.t 6)
          (.seq
            (.ops [
              ⟨some 3, .id, [.c (.int .i64 0)], none, [], [], false⟩])
            .ret)
          .skip))
      (.seq
        (.draw [
          ⟨some 7, .load 1 false, [.t 1], none, [], [], false⟩,
          ⟨some 8, .id, [.t 0], none, [], [], false⟩,
          ⟨some 9, .load 1 false, [.t 1], none, [], [], false⟩,
          ⟨some 10, .lenSlice, [.t 9], none, [], [], false⟩,
          ⟨some 11, .bin .rem, [.t 8, .t 10], none, [], [], false⟩,
          ⟨some 12, .indexAddr 1, [.t 7, .t 11], none, [], [], false⟩,
          ⟨some 13, .load 1 false, [.t 12], none, [], [], false⟩,
          ⟨some 3, .id, [.t 13], none, [], [], false⟩])
        .ret)))
def f___disk_Disk__Crash_1 : IFn := ⟨14, 0, [.tmp 3], f___disk_Disk__Crash_1_B⟩
def f___disk_Disk__settle_L0 : ICode :=
  (.seq
    (.ops [
      ⟨some 13, .bin .lss, [.t 12, .t 11], none, [], [], false⟩])
    (.seq
      (.cond (.t 13)
        .skip
        (.exit 0))
      (.seq
        (.block 1
          (.seq
            (.ops [
              ⟨some 14, .id, [.t 12], none, [], [], false⟩,
              ⟨some 5, .id, [.t 14], none, [], [], false⟩])
            (.seq
              (.seq
                (.ops [
                  ⟨some 15, .id, [.t 0], none, [], [], false⟩,
                  ⟨some 16, .nilCheck, [.t 15], none, [], [], false⟩,
                  ⟨some 17, .fieldAddr 2, [.t 16], none, [], [], false⟩,
                  ⟨some 18, .load 1 false, [.t 17], none, [], [], false⟩,
                  ⟨some 19, .id, [.t 5], none, [], [], false⟩,
                  ⟨some 20, .indexAddr 1, [.t 18, .t 19], none, [], [], false⟩,
                  ⟨some 21, .load 1 false, [.t 20], none, [], [], false⟩,
                  ⟨some 22, .un .not, [.t 21], none, [], [], false⟩])
                (.cond (.t 22)
                  (.exit 1)
                  .skip))
              (.seq
                (.ops [
                  ⟨some 23, .id, [.t 1], none, [], [], false⟩,
                  ⟨some 24, .id, [.t 4], none, [], [], false⟩,
                  ⟨some 25, .callV [], [.t 23, .t 24], none, [], [], false⟩,
                  ⟨some 26, .max, [.t 25, .c (.int .i64 0)], none, [], [], false⟩,
                  ⟨some 27, .min, [.t 26, .c (.int .i64 64)], none, [], [], false⟩,
                  ⟨some 6, .id, [.t 27], none, [], [], false⟩])
                (.seq
                  (.draw [
                    ⟨some 28, .id, [.t 0], none, [], [], false⟩,
                    ⟨some 29, .nilCheck, [.t 28], none, [], [], false⟩,
                    ⟨some 30, .fieldAddr 0, [.t 29], none, [], [], false⟩,
                    ⟨some 31, .load 1 false, [.t 30], none, [], [], false⟩,
                    ⟨some 32, .id, [.t 5], none, [], [], false⟩,
                    ⟨some 33, .indexAddr 64, [.t 31, .t 32], none, [], [], false⟩,
                    ⟨some 34, .id, [.t 6], none, [], [], false⟩,
                    ⟨some 35, .sliceArr 64 1 false true false, [.t 33, .t 34], none, [], [], false⟩,
                    ⟨some 36, .id, [.t 0], none, [], [], false⟩,
                    ⟨some 37, .nilCheck, [.t 36], none, [], [], false⟩,
                    ⟨some 38, .fieldAddr 1, [.t 37], none, [], [], false⟩,
                    ⟨some 39, .load 1 false, [.t 38], none, [], [], false⟩,
                    ⟨some 40, .id, [.t 5], none, [], [], false⟩,
                    ⟨some 41, .indexAddr 64, [.t 39, .t 40], none, [], [], false⟩,
                    ⟨some 42, .id, [.t 6], none, [], [], false⟩,
                    ⟨some 43, .sliceArr 64 1 false true false, [.t 41, .t 42], none, [], [], false⟩,
                    ⟨some 44, .copy 1, [.t 35, .t 43], none, [], [], true⟩])
                  (.seq
                    (.draw [
                      ⟨some 45, .id, [.t 0], none, [], [], false⟩,
                      ⟨some 46, .nilCheck, [.t 45], none, [], [], false⟩,
                      ⟨some 47, .fieldAddr 1, [.t 46], none, [], [], false⟩,
                      ⟨some 48, .load 1 false, [.t 47], none, [], [], false⟩,
                      ⟨some 49, .id, [.t 5], none, [], [], false⟩,
                      ⟨some 50, .id, [.t 0], none, [], [], false⟩,
                      ⟨some 51, .nilCheck, [.t 50], none, [], [], false⟩,
                      ⟨some 52, .fieldAddr 2, [.t 51], none, [], [], false⟩,
                      ⟨some 53, .load 1 false, [.t 52], none, [], [], false⟩,
                      ⟨some 54, .id, [.t 5], none, [], [], false⟩,
                      ⟨some 55, .id, [.t 0], none, [], [], false⟩,
                      ⟨some 56, .nilCheck, [.t 55], none, [], [], false⟩,
                      ⟨some 57, .fieldAddr 0, [.t 56], none, [], [], false⟩,
                      ⟨some 58, .load 1 false, [.t 57], none, [], [], false⟩,
                      ⟨some 59, .id, [.t 5], none, [], [], false⟩,
                      ⟨some 60, .indexAddr 64, [.t 58, .t 59], none, [], [], false⟩,
                      ⟨some 61, .load 64 true, [.t 60], none, [], [], false⟩,
                      ⟨some 62, .indexAddr 64, [.t 48, .t 49], none, [], [], false⟩,
                      ⟨none, .store 64 false, [.t 62, .t 61], none, [], [], true⟩,
                      ⟨some 63, .indexAddr 1, [.t 53, .t 54], none, [], [], false⟩,
                      ⟨none, .store 1 false, [.t 63, .c (.bool false)], none, [], [], true⟩])
                    (.ops [
                      ⟨some 64, .id, [.t 4], none, [], [], false⟩,
                      ⟨some 65, .bin .add, [.t 64, .c (.int .i64 1)], none, [], [], false⟩,
                      ⟨some 4, .id, [.t 65], none, [], [], false⟩])))))))
        (.ops [
          ⟨some 66, .bin .add, [.t 12, .c (.int .i64 1)], none, [], [], false⟩,
          ⟨some 12, .id, [.t 66], none, [], [], false⟩]))))
def f___disk_Disk__settle_B : ICode :=
  (.seq
    (.ops [
      ⟨some 4, .id, [.c (.int .i64 0)], none, [], [], false⟩])
    (.seq
      (.seq
        (.ops [
          ⟨some 7, .id, [.t 0], none, [], [], false⟩,
          ⟨some 8, .nilCheck, [.t 7], none, [], [], false⟩,
          ⟨some 9, .fieldAddr 1, [.t 8], none, [], [], false⟩,
          ⟨some 10, .load 1 false, [.t 9], none, [], [], false⟩,
          ⟨some 11, .lenSlice, [.t 10], none, [], [], false⟩,
          ⟨some 12, .id, [.c (.int .i64 0)], none, [], [], false⟩])
        (.block 0
          (.loop [2, 3, 5, 6, 7, 8, 9, 10, 13, 14, 15, 16, 17, 18, 19, 20, 21, 22, 23, 24, 25, 26, 27, 28, 29, 30, 31, 32, 33, 34, 35, 36, 37, 38, 39, 40, 41, 42, 43, 44, 45, 46, 47, 48, 49, 50, 51, 52, 53, 54, 55, 56, 57, 58, 59, 60, 61, 62, 63, 64, 65, 66, 67, 68, 69] [] f___disk_Disk__settle_L0)))
      (.ops [
        ⟨some 67, .id, [.t 0], none, [], [], false⟩,
        ⟨some 68, .nilCheck, [.t 67], none, [], [], false⟩,
        ⟨some 69, .fieldAddr 4, [.t 68], none, [], [], false⟩,
        ⟨none, .store 1 false, [.t 69, .c (.int .i64 0)], none, [], [], false⟩])))
def f___disk_Disk__settle : IFn := ⟨70, 0, [], f___disk_Disk__settle_B⟩
def f___disk_Disk__Start_1_B : ICode :=
  (.seq
    (.ops [
      ⟨some 2, .id, [.c (.int .i64 0)], none, [], [], false⟩])
    (.seq
      (.ops [
        ⟨some 2, .id, [.c (.int .i64 0)], none, [], [], false⟩])
      .ret))
def f___disk_Disk__Start_1 : IFn := ⟨3, 0, [.tmp 2], f___disk_Disk__Start_1_B⟩
def f_slices_Clone____64_byte__64_byte__B : ICode :=
  (.seq
    (.ops [
      ⟨some 2, .id, [.c (.slice none 0 0)], none, [], [], false⟩])
    (.seq
      (.seq
        (.ops [
          ⟨some 3, .id, [.t 0], none, [], [], false⟩,
          ⟨some 4, .eqNil false .slice, [.t 3, .c (.slice none 0 0)], none, [], [], false⟩])
        (.cond (.t 4)
          (.seq
            (.ops [
              ⟨some 2, .id, [.c (.slice none 0 0)], none, [], [], false⟩])
            .ret)
          .skip))
      (.seq
        (.ops [
          ⟨some 5, .buildSlice 0 false 64 0 zeros64 [], [], none, [], [], false⟩,
          ⟨some 6, .id, [.t 0], none, [], [], false⟩,
          ⟨some 7, .append 1 false 64 64, [.t 5, .t 6], none, [], [], false⟩,
          ⟨some 2, .id, [.t 7], none, [], [], false⟩])
        .ret)))
def f_slices_Clone____64_byte__64_byte_ : IFn := ⟨8, 2, [.tmp 2], f_slices_Clone____64_byte__64_byte__B⟩
def f_slices_Clone___bool_bool__B : ICode :=
  (.seq
    (.ops [
      ⟨some 2, .id, [.c (.slice none 0 0)], none, [], [], false⟩])
    (.seq
      (.seq
        (.ops [
          ⟨some 3, .id, [.t 0], none, [], [], false⟩,
          ⟨some 4, .eqNil false .slice, [.t 3, .c (.slice none 0 0)], none, [], [], false⟩])
        (.cond (.t 4)
          (.seq
            (.ops [
              ⟨some 2, .id, [.c (.slice none 0 0)], none, [], [], false⟩])
            .ret)
          .skip))
      (.seq
        (.ops [
          ⟨some 5, .buildSlice 0 false 1 0 [(.bool false)] [], [], none, [], [], false⟩,
          ⟨some 6, .id, [.t 0], none, [], [], false⟩,
          ⟨some 7, .append 1 false 1 1, [.t 5, .t 6], none, [], [], false⟩,
          ⟨some 2, .id, [.t 7], none, [], [], false⟩])
        .ret)))
def f_slices_Clone___bool_bool_ : IFn := ⟨8, 2, [.tmp 2], f_slices_Clone___bool_bool__B⟩
end Go.AM
namespace Go.AM
variable {prog : String → Option IFn}
abbrev Sec := {t : Txt // t.length = 64}
def secE : Enc Sec := ⟨fun s => s.1.map byteAV, 64, true, fun s => by rw [List.length_map]; exact s.2, by omega, .inl rfl, fun _ => bytes_lfs, fun h => by cases h⟩
def booE : Enc Bool := ⟨fun b => [.v (.bool b)], 1, false, fun _ => rfl, by omega, .inr rfl, fun _ => rfl, fun _ b => ⟨_, rfl, rfl⟩⟩
structure DskD where
  a : List Sec
  b : List Sec
  l : List Bool
  off : Bool
  armed : Nat
structure DPos where
  q0 : Nat
  q1 : Nat
  q2 : Nat
  p : Nat
  c0 : Option Nat
  c1 : Option Nat
  c2 : Option Nat
  o0 : Bool
  o1 : Bool
  o2 : Bool
structure DskD.Ok (D : DskD) : Prop where
  b : D.b.length = D.a.length
  l : D.l.length = D.a.length
  n : D.a.length ≤ 20000
  armed : D.armed < 2 ^ 63
structure DPos.Ok (P : DPos) (g n : Nat) : Prop where
  h0 : P.q0 < P.p
  h1 : P.q1 < P.p
  h2 : P.q2 < P.p
  hp : P.p < g
  n01 : P.q0 ≠ P.q1
  n02 : P.q0 ≠ P.q2
  n12 : P.q1 ≠ P.q2
  k0 : ∀ x, P.c0 = some x → n ≤ x
  k1 : ∀ x, P.c1 = some x → n ≤ x
  k2 : ∀ x, P.c2 = some x → n ≤ x
def dsec (o : Bool) (A : List Sec) : Option Blk := some (dBlk (secE.row A) o false)
def dboo (o : Bool) (l : List Bool) : Option Blk := some (dBlk (booE.row l) o false)
def dav0 (f : Nat → Lab) (P : DPos) (D : DskD) : AV := .own (f P.q0) (D.a.length * 64) 0 D.a.length 64 P.c0
def dav1 (f : Nat → Lab) (P : DPos) (D : DskD) : AV := .own (f P.q1) (D.b.length * 64) 0 D.b.length 64 P.c1
def dav2 (f : Nat → Lab) (P : DPos) (D : DskD) : AV := .own (f P.q2) (D.l.length * 1) 0 D.l.length 1 P.c2
def dobjC (f : Nat → Lab) (P : DPos) (D : DskD) : List AV := [dav0 f P D, dav1 f P D, dav2 f P D, .v (.bool D.off), .v (.int .i64 (D.armed : Nat))]
def dobj (f : Nat → Lab) (P : DPos) (D : DskD) : Option Blk := some (sBlk (dobjC f P D) false)
def dset (G : List (Option Blk)) (P : DPos) (D : DskD) : List (Option Blk) := (((G.set P.q0 (dsec P.o0 D.a)).set P.q1 (dsec P.o1 D.b)).set P.q2 (dboo P.o2 D.l)).set P.p (dobj .o P D)
variable {G L : List (Option Blk)} {P : DPos} {D : DskD} {n : Nat}
section
variable (h : P.Ok G.length n)
include h
theorem dset_p : (dset G P D)[P.p]? = some (dobj .o P D) := by
  have := h.hp
  unfold dset; rw [List.getElem?_set_self (by simpa using this)]
theorem d_ld1 : prim ⟨dset G P D, L⟩ (.load 1 false) [.ptr (.o P.p) 5 1] = some (dav1 .o P D, ⟨dset G P D, L⟩) := by rw [px_load_o, dset_p h]; rfl
end
end Go.AM
namespace Go.AM
variable {prog : String → Option IFn}
structure DiskLib (prog : String → Option IFn) : Prop where
  new : prog "haberdash/disk.New" = some f_disk_New
  full : prog "haberdash/haberdashlaw06.full" = some f_law06_full
  write : prog "(*haberdash/disk.Disk).Write" = some f___disk_Disk__Write
  sync : prog "(*haberdash/disk.Disk).Sync" = some f___disk_Disk__Sync
  crash : prog "(*haberdash/disk.Disk).Crash" = some f___disk_Disk__Crash
  crash1 : prog "(*haberdash/disk.Disk).Crash$1" = some f___disk_Disk__Crash_1
  start : prog "(*haberdash/disk.Disk).Start" = some f___disk_Disk__Start
  start1 : prog "(*haberdash/disk.Disk).Start$1" = some f___disk_Disk__Start_1
  read : prog "(*haberdash/disk.Disk).Read" = some f___disk_Disk__Read
  arm : prog "(*haberdash/disk.Disk).Arm" = some f___disk_Disk__Arm
  down : prog "(*haberdash/disk.Disk).Down" = some f___disk_Disk__Down
  len : prog "(*haberdash/disk.Disk).Len" = some f___disk_Disk__Len
  may : prog "(*haberdash/disk.Disk).may" = some f___disk_Disk__may
  hit : prog "(*haberdash/disk.Disk).hit" = some f___disk_Disk__hit
  settle : prog "(*haberdash/disk.Disk).settle" = some f___disk_Disk__settle
def mayE (D : DskD) (at' : Int) : Int := if D.off then 9 else if at' < 0 ∨ at' ≥ (D.b.length : Int) then 2 else 0
def DskD.hits (D : DskD) : Bool := D.armed == 1
def DskD.hit (D : DskD) : DskD := if D.armed = 0 then D else { D with armed := D.armed - 1, off := D.armed == 1 }
variable {G L : List (Option Blk)} {P : DPos} {D : DskD} {n : Nat}
theorem Len_spec (H : DiskLib prog) (h : P.Ok G.length n) :
    Ev prog (.call "(*haberdash/disk.Disk).Len" [.ptr (.o P.p) 5 0] (dset G P D)) (.ret (.v (.int .i64 (D.b.length : Nat))) (dset G P D)) := by
  refine call_of_fin H.len ?_
  simp only [f___disk_Disk__Len_B, enter, List.length_cons, List.length_nil, List.replicate, Nat.reduceAdd, Nat.reduceSub, List.cons_append, List.nil_append]
  have ln : ∀ L, prim ⟨dset G P D, L⟩ .lenSlice [dav1 .o P D] = some (.v (.int .i64 (D.b.length : Nat)), ⟨dset G P D, L⟩) := fun L => rfl
  simp (disch := first | (simp only [ne_eq, reduceCtorEq, not_false_eq_true, implies_true, List.getElem?_cons_zero, List.getElem?_cons_succ]; done) | omega) only [WS, St.guard, St.put, evalO, reduceCtorEq, reduceIte, Nat.reduceAdd, Nat.reduceEqDiff, isNilV, Hp.isNil, d_ld1 h, ln, fin_tmp, leave_v]
  simp
theorem load_sec {G L} {j n : Nat} {bs : Txt} {o v : Bool} (hL : L[j]? = some (some (dBlk (bs.map byteAV) o v))) (hn : bs.length = n) : prim ⟨G, L⟩ (.load n true) [.ptr (.l j) n 0] = some (.agg (bs.map byteAV), ⟨G, L⟩) := by
  rw [px_load_l, hL]
  show (if (bs.map byteAV).length = n ∧ 0 + n ≤ n then (whole true (((bs.map byteAV).drop 0).take n)).map fun a => (a, _) else none) = _
  rw [if_pos ⟨by simpa using hn, by omega⟩, List.drop_zero, List.take_of_length_le (by simp [hn])]
  rfl
theorem fin_sec {t u sz : Nat} {s : St} {bs : Txt} {x : Value} (hl : prim s.h (.load sz true) [s.env.getD t .dead] = some (.agg (bs.map byteAV), s.h)) (hu : s.env.getD u .dead = .v x) : fin [.cell t sz true, .tmp u] s = some (.tup [.agg (bs.map byteAV), .v x], s.h.G) := by
  have : fin [.cell t sz true, .tmp u] s = ((prim s.h (.load sz true) [s.env.getD t .dead]).map (·.1)).bind fun a => s.h.leave (.tup [a, s.env.getD u .dead]) := by
    simp only [fin, resVals, resVal]
    cases (prim s.h (.load sz true) [s.env.getD t .dead]).map (·.1) <;> rfl
  rw [this, hl, hu]
  exact leave_lf (by simp [AV.lf, AV.lf.lfs, bytes_lfs])
theorem fin_sec1 {t sz : Nat} {s : St} {bs cs : Txt} (hl : prim s.h (.load sz true) [s.env.getD t .dead] = some (.agg (bs.map byteAV), s.h)) (hb : bs = cs) : fin [.cell t sz true] s = some (.agg (cs.map byteAV), s.h.G) := by
  subst hb
  rw [fin_cell, hl]
  exact leave_lf (by simp [AV.lf, bytes_lfs])
def zsec : Sec := ⟨zs64, rfl⟩
def fullS (c : UInt8) : Sec := ⟨List.replicate 64 c, by simp⟩
theorem full_spec (H : DiskLib prog) {G} {c : UInt8} :
    Ev prog (.call "haberdash/haberdashlaw06.full" [.v (u8 c)] G) (.ret (.agg ((fullS c).1.map byteAV)) G) := by
  refine call_of_fin H.full ?_
  simp only [f_law06_full_B, enter, List.length_cons, List.length_nil, List.replicate, Nat.reduceAdd, Nat.reduceSub, List.cons_append, List.nil_append]
  simp (disch := first | (simp only [ne_eq, reduceCtorEq, not_false_eq_true, implies_true, List.getElem?_cons_zero, List.getElem?_cons_succ]; done) | omega) only [WS, St.guard, St.put, evalO, reduceCtorEq, reduceIte, Nat.reduceAdd, Nat.reduceEqDiff, alloc_zeros]
  refine WC_count (fun i => ⟨f_law06_full_H0 (.v (u8 c)) (.ptr (.l 0) 64 0) (.ptr (.l 1) 64 0) (.v (.int .i64 (i : Nat))), ⟨G, [some (dBlk (zs64.map byteAV) false false), some (dBlk ((List.replicate i c ++ List.replicate (64 - i) 0).map byteAV) false false)]⟩⟩) 64 ?_ (fun i hi => ?_) ?_
  · exact clear_fre (by simp only [clear_nil, List.foldl_cons, List.foldl_nil, Option.some.injEq, List.map_cons, List.map_nil, List.getD_cons_zero, List.getD_cons_succ, List.set_cons_zero, List.set_cons_succ, Option.map_some, Option.bind_some, ne_eq, reduceCtorEq, not_false_eq_true, implies_true, beq_self_eq_true, BEq.rfl, if_true, if_false, Bool.false_eq_true, not_true_eq_false, Option.some.injEq, reduceIte, Bool.not_true, Bool.not_false, beq_true, beq_false, Bool.true_and, Bool.and_true, Bool.false_and, Bool.and_false, true_and, List.getElem?_cons_zero, List.getElem?_cons_succ, List.length_cons, List.length_nil, Nat.reduceAdd] <;> rfl) (by rfl) (by rfl) (by rfl)
  · have hlt : (i : Int) < 64 := by omega
    have st := store_byte (G := G) (L := [some (dBlk (zs64.map byteAV) false false), some (dBlk ((List.replicate i c ++ List.replicate (64 - i) 0).map byteAV) false false)]) (j := 1) (n := 64) (off := i) (b := c) (bs := List.replicate i c ++ List.replicate (64 - i) 0) (o := false) (v := false) rfl (by simp; omega) hi
    have e : (List.replicate i c ++ List.replicate (64 - i) (0 : UInt8)).set i c = List.replicate (i + 1) c ++ List.replicate (64 - (i + 1)) 0 := by
      rw [List.set_append_right _ _ (by simp), List.length_replicate, Nat.sub_self, show 64 - i = (64 - (i + 1)) + 1 by omega, List.replicate_succ, List.set_cons_zero, List.replicate_succ', List.append_assoc]; rfl
    rw [e] at st
    simp (disch := first | (simp only [ne_eq, reduceCtorEq, not_false_eq_true, implies_true, List.getElem?_cons_zero, List.getElem?_cons_succ]; done) | omega) only [f_law06_full_L0, f_law06_full_H0, WS, St.guard, St.put, evalO, reduceCtorEq, reduceIte, Nat.reduceAdd, Nat.reduceEqDiff, hlt, decide_true, indexArr_at hi, st, vBin_add_i64]
    exact clear_fre (by simp only [clear_nil, List.foldl_cons, List.foldl_nil, Option.some.injEq, List.map_cons, List.map_nil, List.getD_cons_zero, List.getD_cons_succ, List.set_cons_zero, List.set_cons_succ, Option.map_some, Option.bind_some, ne_eq, reduceCtorEq, not_false_eq_true, implies_true, beq_self_eq_true, BEq.rfl, if_true, if_false, Bool.false_eq_true, not_true_eq_false, Option.some.injEq, reduceIte, Bool.not_true, Bool.not_false, beq_true, beq_false, Bool.true_and, Bool.and_true, Bool.false_and, Bool.and_false, true_and, List.getElem?_cons_zero, List.getElem?_cons_succ, List.length_cons, List.length_nil, Nat.reduceAdd] <;> rfl) (by rfl) (by rfl) (by rfl)
  · have hlt : ¬ ((64 : Nat) : Int) < 64 := by omega
    have st := store_all (G := G) (L := [some (dBlk (zs64.map byteAV) false false), some (dBlk ((List.replicate 64 c ++ List.replicate (64 - 64) 0).map byteAV) false false)]) (j := 0) (n := 64) (xs := (List.replicate 64 c ++ List.replicate (64 - 64) 0).map byteAV) (cells := zs64.map byteAV) (o := false) (v := false) rfl rfl (by simp) bytes_lfs
    have ld := load_sec (G := G) (L := [some (dBlk (zs64.map byteAV) false false), some (dBlk ((List.replicate 64 c ++ List.replicate (64 - 64) 0).map byteAV) false false)]) (j := 1) (n := 64) (bs := List.replicate 64 c ++ List.replicate (64 - 64) 0) (o := false) (v := false) rfl (by simp)
    simp (disch := first | (simp only [ne_eq, reduceCtorEq, not_false_eq_true, implies_true, List.getElem?_cons_zero, List.getElem?_cons_succ]; done) | omega) only [f_law06_full_L0, f_law06_full_H0, WS, St.guard, St.put, evalO, reduceCtorEq, reduceIte, Nat.reduceAdd, Nat.reduceEqDiff, hlt, decide_false, ld, st]
    refine ⟨.inr trivial, ?_⟩
    have ld2 := load_sec (G := G) (L := [some (dBlk ((List.replicate 64 c ++ List.replicate (64 - 64) 0).map byteAV) false false), some (dBlk ((List.replicate 64 c ++ List.replicate (64 - 64) 0).map byteAV) false false)]) (j := 0) (n := 64) (bs := List.replicate 64 c ++ List.replicate (64 - 64) 0) (o := false) (v := false) rfl (by simp)
    exact fin_sec1 ld2 (by simp [fullS])
def DskD.put (D : DskD) (i : Nat) (s : Sec) : DskD := { D with b := D.b.set i s, l := D.l.set i true }
def DskD.write (D : DskD) (at' : Int) (s : Sec) : DskD := if mayE D at' = 0 then (D.put at'.toNat s).hit else D
end Go.AM
namespace Go.AM
variable {prog : String → Option IFn}
variable {G L : List (Option Blk)} {P : DPos} {D : DskD} {n : Nat}
def DskD.sync (D : DskD) : DskD := if mayE D 0 = 0 then (if D.hits then D.hit else { D.hit with a := D.b, l := List.replicate D.l.length false }) else D
def clampN (k : Int) : Nat := (min (max k 0) 64).toNat
theorem clampN_le {k : Int} : clampN k ≤ 64 := by unfold clampN; omega
def mixS (k : Int) (s new : Sec) : Sec := ⟨new.1.take (clampN k) ++ s.1.drop (clampN k), by have := s.2; have := new.2; have := clampN_le (k := k); simp; omega⟩
def settleN (K : Nat → Int) (D : DskD) : Nat → DskD × Nat
  | 0 => (D, 0)
  | k + 1 =>
    let q := settleN K D k
    if q.1.l.getD k false then
      ({ q.1 with a := q.1.a.set k (mixS (K q.2) (q.1.a.getD k zsec) (q.1.b.getD k zsec)), b := q.1.b.set k (mixS (K q.2) (q.1.a.getD k zsec) (q.1.b.getD k zsec)), l := q.1.l.set k false }, q.2 + 1)
    else q
def DskD.settle (K : Nat → Int) (D : DskD) : DskD := { (settleN K D D.b.length).1 with armed := 0 }
end Go.AM
namespace Go.AM
variable {prog : String → Option IFn}
variable {G L : List (Option Blk)} {P : DPos} {D : DskD} {n : Nat}
def keepAt (ks : List Int) (i : Nat) : Int := if ks.length = 0 then 0 else ks.getD (i % ks.length) 0
theorem ints_plain {a : AV} {ks : List Int} (va : ∀ h, View h a 1 ks.length (ks.map intAV)) : a.labs = [] ∧ a.lf = true ∧ a.cellsOf = some [a] := by
  rcases (va ⟨[], []⟩).cases with ⟨rfl, e1, e2⟩ | ⟨nl, rfl⟩ | ⟨ℓ, n, off, cap, B, rfl, hB, hl, hc, hlt⟩
  · exact ⟨rfl, rfl, rfl⟩
  · have hlf : (AV.ro nl 1 ks.length (ks.map intAV)).lf = true := by
      simp only [AV.lf]
    exact ⟨lf_of_labs_nil hlf, hlf, rfl⟩
  · cases ℓ <;> simp [Hp.get] at hB
def DskD.crash (D : DskD) (ks : List Int) : DskD := { D.settle (keepAt ks) with off := true }
def DskD.start (D : DskD) : DskD := if D.off then { D.settle (fun _ => 0) with off := false } else D
end Go.AM
