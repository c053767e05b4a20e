import Derived.Test.YtdcnjckkcfoppaaAMA
import Derived.Test.YtdcnjckkcfoppaaCrc
import Derived.Test.YtdcnjckkcfoppaaLeafA
import Derived.Test.YtdcnjckkcfoppaaHelp
import Derived.Test.YtdcnjckkcfoppaaScopeA
import Derived.Test.YtdcnjckkcfoppaaSortA
import Derived.Test.YtdcnjckkcfoppaaPackA
import Derived.Test.YtdcnjckkcfoppaaDiskA
set_option linter.unusedVariables false
set_option linter.unusedSimpArgs false
namespace Go.AM
def f_journal_New_B : ICode :=
 (.seq
 (.ops [ iP 8 .id [.c (.pointer none)], iP 9 .id [kI 0]])
 (.seq
 (.block 0
 (.seq
 (.ops [ iP 11 .id [.t 0], iP 12 (.eqNil false .ptr) [.t 11, .c (.pointer none)], iP 10 .id [.t 12]])
 (.cond (.t 10)
 (.seq
 (.ops [ iP 8 .id [.c (.pointer none)], iP 9 .id [kI 1]])
 .ret)
 (.seq
 (.ops [ iP 14 .id [.t 1], iP 15 (.bin .lss) [.t 14, kI 0], iP 16 .id [.t 15], iG 16 false 17 .id [.t 2], iG 16 false 18 (.bin .lss) [.t 17, kI 1], iP 19 .pick [.t 16, .c (.bool true), .t 18], iP 20 .id [.t 19], iG 20 false 21 .id [.t 2], iG 20 false 22 .id [.t 0], iG 20 false 23 (.call "(*haberdash/disk.Disk).Len" []) [.t 22], iG 20 false 24 .id [.t 1], iG 20 false 25 (.bin .sub) [.t 23, .t 24], iG 20 false 26 (.bin .gtr) [.t 21, .t 25], iP 27 .pick [.t 20, .c (.bool true), .t 26], iP 28 .id [.t 27], iG 28 false 29 .id [.t 3], iG 28 false 30 (.bin .eql) [.t 29, .c (.int .u32 0)], iP 31 .pick [.t 28, .c (.bool true), .t 30], iP 13 .id [.t 31]])
 (.cond (.t 13)
 (.seq
 (.ops [ iP 8 .id [.c (.pointer none)], iP 9 .id [kI 2]])
 .ret)
 (.seq
 (.ops [ iP 33 .id [.t 0], iP 34 (.call "(*haberdash/disk.Disk).Down" []) [.t 33], iP 32 .id [.t 34]])
 (.cond (.t 32)
 (.seq
 (.ops [ iP 8 .id [.c (.pointer none)], iP 9 .id [kI 9]])
 .ret)
 .skip)))))))
 (.seq
 (.ops [ iP 35 .id [.t 0], iP 36 .id [.t 1], iP 37 .id [.t 2], iP 38 .id [.t 3], iP 39 (.build [(.pointer none), (.int .i64 0), (.int .i64 0), (.int .u32 0), (.int .u32 0), (.int .u32 0), (.slice none 0 0), (.int .i64 0), (.bool false)] [(0, 1), (1, 1), (2, 1), (3, 1)]) [.t 35, .t 36, .t 37, .t 38], iP 40 (.boxK 1 [(6, 0, 1)]) [.t 39], iP 8 .id [.t 40], iP 9 .id [kI 0]])
 .ret)))
def f_journal_New : IFn := ⟨41, 2, [.tmp 8, .tmp 9], f_journal_New_B⟩
def f_law08_awake_B : ICode :=
 (.seq
 (.ops [ iP 0 .id [.c (.bool false)]])
 (.seq
 (.ops [ iP 7 (.call "haberdash/disk.New" [0, 1, 2, 3]) [kI 3], iP 6 .id [.t 7], iP 8 (.extract 0) [.t 6], iP 9 (.extract 1) [.t 6], iP 1 .id [.t 8], iP 2 .id [.t 9]])
 (.seq
 (.ops [ iP 11 .id [.t 1], iP 12 (.call "haberdash/journal.New" [4, 5]) [.t 11, kI 0, kI 3, .c (.int .u32 1)], iP 10 .id [.t 12], iP 13 (.extract 0) [.t 10], iP 14 (.extract 1) [.t 10], iP 3 .id [.t 13], iP 4 .id [.t 14]])
 (.seq
 (.ops [ iP 15 .id [.t 3], iP 16 (.makeSlice 6 1 1 [(.int .u8 0)]) [kI 47, kI 47], iP 17 (.call "(*haberdash/journal.Journal).Add" []) [.t 15, .t 16], iP 5 .id [.t 17]])
 (.seq
 (.ops [ iP 18 .id [.t 4], iP 19 (.bin .eql) [.t 18, kI 0], iP 20 .id [.t 19], iG 20 true 21 .id [.t 5], iG 20 true 22 (.bin .eql) [.t 21, kI 0], iP 23 .pick [.t 20, .t 22, .c (.bool false)], iP 24 .id [.t 23], iG 24 true 25 .id [.t 3], iG 24 true 26 (.call "(*haberdash/journal.Journal).Used" []) [.t 25], iG 24 true 27 (.bin .eql) [.t 26, kI 2], iP 28 .pick [.t 24, .t 27, .c (.bool false)], iP 29 .id [.t 28], iG 29 true 30 .id [.t 3], iG 29 true 31 (.call "(*haberdash/journal.Journal).Records" [7]) [.t 30], iG 29 true 32 .lenSlice [.t 31], iG 29 true 33 (.bin .eql) [.t 32, kI 1], iP 34 .pick [.t 29, .t 33, .c (.bool false)], iP 35 .id [.t 34], iG 35 true 36 .id [.t 3], iG 35 true 37 (.call "(*haberdash/journal.Journal).First" []) [.t 36], iG 35 true 38 (.bin .eql) [.t 37, .c (.int .u32 1)], iP 39 .pick [.t 35, .t 38, .c (.bool false)], iP 40 .id [.t 39], iG 40 true 41 (.call "haberdash/journal.Need" []) [kI 47], iG 40 true 42 (.bin .eql) [.t 41, kI 2], iP 43 .pick [.t 40, .t 42, .c (.bool false)], iP 0 .id [.t 43]])
 .ret)))))
def f_law08_awake : IFn := ⟨44, 8, [.tmp 0], f_law08_awake_B⟩
def f___journal_Journal__Add_B : ICode :=
 (.seq
 (.ops [ iP 4 .id [kI 0]])
 (.seq
 (.block 0
 (.seq
 (.ops [ iP 7 .id [.t 0], iP 8 (.eqNil false .ptr) [.t 7, .c (.pointer none)], iP 6 .id [.t 8]])
 (.cond (.t 6)
 (.seq
 (.ops [ iP 4 .id [kI 1]])
 .ret)
 (.seq
 (.ops [ iP 10 .id [.t 0], iP 11 .nilCheck [.t 10], iP 12 (.fieldAddr 8) [.t 11], iP 13 (.load 1 false) [.t 12], iP 14 .id [.t 13], iG 14 false 15 .id [.t 0], iG 14 false 16 .nilCheck [.t 15], iG 14 false 17 (.fieldAddr 0) [.t 16], iG 14 false 18 (.load 1 false) [.t 17], iG 14 false 19 (.call "(*haberdash/disk.Disk).Down" []) [.t 18], iP 20 .pick [.t 14, .c (.bool true), .t 19], iP 9 .id [.t 20]])
 (.cond (.t 9)
 (.seq
 (.ops [ iP 21 .id [.t 0], iP 22 .nilCheck [.t 21], iP 23 (.fieldAddr 8) [.t 22], iN (.store 1 false) [.t 23, .c (.bool true)]])
 (.seq
 (.ops [ iP 4 .id [kI 9]])
 .ret))
 (.seq
 (.ops [ iP 25 .id [.t 1], iP 26 .lenSlice [.t 25], iP 27 (.bin .lss) [.t 26, kI 1], iP 28 .id [.t 27], iG 28 false 29 .id [.t 1], iG 28 false 30 .lenSlice [.t 29], iG 28 false 31 (.bin .gtr) [.t 30, kI 400000], iP 32 .pick [.t 28, .c (.bool true), .t 31], iP 24 .id [.t 32]])
 (.cond (.t 24)
 (.seq
 (.ops [ iP 4 .id [kI 2]])
 .ret)
 (.seq
 (.draw [ iP 34 .id [.t 1], iP 35 .lenSlice [.t 34], iP 36 (.call "haberdash/journal.Need" []) [.t 35], iP 37 .id [.t 0], iP 38 .nilCheck [.t 37], iP 39 (.fieldAddr 2) [.t 38], iP 40 (.load 1 false) [.t 39], iP 41 .id [.t 0], iP 42 .nilCheck [.t 41], iP 43 (.fieldAddr 7) [.t 42], iP 44 (.load 1 false) [.t 43], iP 45 (.bin .sub) [.t 40, .t 44], iP 46 (.bin .gtr) [.t 36, .t 45], iP 33 .id [.t 46]])
 (.cond (.t 33)
 (.seq
 (.ops [ iP 4 .id [kI 6]])
 .ret)
 .skip)))))))))
 (.seq
 (.seq
 (.ops [ iP 47 .id [.t 0], iP 48 .id [.t 1], iP 49 (.call "(*haberdash/journal.Journal).lay" []) [.t 47, .t 48], iP 5 .id [.t 49]])
 (.seq
 (.ops [ iP 50 .id [.t 5], iP 51 (.bin .neq) [.t 50, kI 0]])
 (.cond (.t 51)
 (.seq
 (.ops [ iP 52 .id [.t 0], iP 53 .nilCheck [.t 52], iP 54 (.fieldAddr 8) [.t 53], iN (.store 1 false) [.t 54, .c (.bool true)]])
 (.seq
 (.ops [ iP 55 .id [.t 5], iP 4 .id [.t 55]])
 .ret))
 .skip)))
 (.seq
 (.ops [ iP 56 .id [.t 0], iP 57 .id [.t 1], iP 58 .id [.t 1], iP 59 .lenSlice [.t 58], iP 60 (.call "haberdash/journal.Need" []) [.t 59], iP 61 (.call "(*haberdash/journal.Journal).note" []) [.t 56, .t 57, .t 60]])
 (.seq
 (.ops [ iP 4 .id [kI 0]])
 .ret)))))
def f___journal_Journal__Add : IFn := ⟨62, 0, [.tmp 4], f___journal_Journal__Add_B⟩
def f_journal_Need_B : ICode :=
 (.seq
 (.ops [ iP 2 .id [kI 0]])
 (.seq
 (.seq
 (.ops [ iP 3 .id [.t 0], iP 4 (.bin .lss) [.t 3, kI 1]])
 (.cond (.t 4)
 (.seq
 (.ops [ iP 2 .id [kI 0]])
 .ret)
 .skip))
 (.seq
 (.ops [ iP 5 .id [.t 0], iP 6 (.bin .sub) [.t 5, kI 1], iP 7 (.bin .quo) [.t 6, kI 46], iP 8 (.bin .add) [.t 7, kI 1], iP 2 .id [.t 8]])
 .ret)))
def f_journal_Need : IFn := ⟨9, 0, [.tmp 2], f_journal_Need_B⟩
def f___journal_Journal__Used_B : ICode :=
 (.seq
 (.ops [ iP 2 .id [kI 0]])
 (.seq
 (.seq
 (.ops [ iP 3 .id [.t 0], iP 4 (.eqNil false .ptr) [.t 3, .c (.pointer none)]])
 (.cond (.t 4)
 (.seq
 (.ops [ iP 2 .id [kI 0]])
 .ret)
 .skip))
 (.seq
 (.ops [ iP 5 .id [.t 0], iP 6 .nilCheck [.t 5], iP 7 (.fieldAddr 7) [.t 6], iP 8 (.load 1 false) [.t 7], iP 2 .id [.t 8]])
 .ret)))
def f___journal_Journal__Used : IFn := ⟨9, 0, [.tmp 2], f___journal_Journal__Used_B⟩
def f___journal_Journal__Records_L0 : ICode :=
 (.seq
 (.ops [ iP 14 (.bin .lss) [.t 13, .t 12]])
 (.seq
 (.cond (.t 14)
 .skip
 (.exit 0))
 (.seq
 (.block 1
 (.seq
 (.ops [ iP 15 (.indexAddr 1) [.t 11, .t 13], iP 16 (.load 1 false) [.t 15], iP 5 .id [.t 16]])
 (.ops [ iP 17 .id [.t 3], iP 18 .id [.t 5], iP 19 (.call "bytes.Clone" [1]) [.t 18], iP 20 (.buildSlice 2 true 1 1 [(.slice none 0 0)] [(0, 1)]) [.t 19], iP 21 (.append 3 true 1 24) [.t 17, .t 20], iP 3 .id [.t 21]])))
 (.ops [ iP 22 (.bin .add) [.t 13, kI 1], iP 13 .id [.t 22]]))))
def f___journal_Journal__Records_H0 (t3 t11 t12 t13 : AV) : List AV := [.dead, .dead, .dead, t3, .dead, .dead, .dead, .dead, .dead, .dead, .dead, t11, t12, t13, .dead, .dead, .dead, .dead, .dead, .dead, .dead, .dead, .dead, .dead]
def f___journal_Journal__Records_B : ICode :=
 (.seq
 (.ops [ iP 2 .id [.c (.slice none 0 0)]])
 (.seq
 (.seq
 (.ops [ iP 6 .id [.t 0], iP 7 (.eqNil false .ptr) [.t 6, .c (.pointer none)]])
 (.cond (.t 7)
 (.seq
 (.ops [ iP 2 .id [.c (.slice none 0 0)]])
 .ret)
 .skip))
 (.seq
 (.ops [ iP 3 (.nilv 0 1) [.c (.slice none 0 0)]])
 (.seq
 (.seq
 (.ops [ iP 8 .id [.t 0], iP 9 .nilCheck [.t 8], iP 10 (.fieldAddr 6) [.t 9], iP 11 (.load 1 false) [.t 10], iP 12 .lenSlice [.t 11], iP 13 .id [kI 0]])
 (.block 0
 (.loop [0, 1, 2, 4, 5, 6, 7, 8, 9, 10, 14, 15, 16, 17, 18, 19, 20, 21, 22, 23] [1, 2, 3] f___journal_Journal__Records_L0)))
 (.seq
 (.ops [ iP 23 .id [.t 3], iP 2 .id [.t 23]])
 .ret)))))
def f___journal_Journal__Records : IFn := ⟨24, 4, [.tmp 2], f___journal_Journal__Records_B⟩
def f_law08_put_L0 : ICode :=
 (.seq
 (.seq
 (.ops [ iP 13 .id [.t 9], iP 14 .id [.t 2], iP 15 .lenSlice [.t 14], iP 16 (.bin .lss) [.t 13, .t 15]])
 (.cond (.t 16)
 .skip
 (.exit 0)))
 (.seq
 (.block 1
 (.seq
 (.draw [ iP 19 (.buildSlice 0 false 1 1 [(.int .u8 0)] [(0, 1)]) [.c (.int .u8 1)], iP 20 .id [.t 2], iP 21 .id [.t 9], iP 22 (.indexAddr 1) [.t 20, .t 21],
 ⟨some 23, .load 1 false, [.t 22], none, [0], [], false⟩, iP 24 .id [.t 2], iP 25 .id [.t 9], iP 26 (.indexAddr 1) [.t 24, .t 25],
 ⟨some 27, .load 1 false, [.t 26], none, [0], [], false⟩, iP 28 .lenSlice [.t 27], iP 29 .min [.t 28, kI 200], iP 30 (.slice 1 false true false) [.t 23, .t 29],
 ⟨some 31, .append 1 false 1 1, [.t 19, .t 30], none, [], [0], false⟩, iP 10 .id [.t 31]])
 (.seq
 (.ops [ iP 32 .id [.t 1], iP 33 .id [.t 10], iP 34 (.buildSlice 2 true 1 1 [(.slice none 0 0)] [(0, 1)]) [.t 33], iP 35 (.append 3 true 1 24) [.t 32, .t 34], iP 1 .id [.t 35]])
 (.seq
 (.seq
 (.ops [ iP 36 .id [.t 0], iP 37 .id [.t 10], iP 38 (.call "(*haberdash/journal.Journal).Add" []) [.t 36, .t 37], iP 39 (.bin .neq) [.t 38, kI 0]])
 (.cond (.t 39)
 (.seq
 (.ops [ iP 40 .id [.t 1], iP 41 .id [.t 8], iP 6 .id [.t 40], iP 7 .id [.t 41]])
 .ret)
 .skip))
 (.ops [ iP 42 .id [.t 8], iP 43 (.bin .add) [.t 42, kI 1], iP 8 .id [.t 43]])))))
 (.ops [ iP 17 .id [.t 9], iP 18 (.bin .add) [.t 17, kI 1], iP 9 .id [.t 18]])))
def f_law08_put_B : ICode :=
 (.seq
 (.ops [ iP 6 .id [.c (.slice none 0 0)], iP 7 .id [kI 0]])
 (.seq
 (.ops [ iP 11 .id [.t 1], iP 12 .lenSlice [.t 11], iP 8 .id [.t 12]])
 (.seq
 (.seq
 (.ops [ iP 9 .id [kI 0]])
 (.block 0
 (.loop [3, 4, 5, 6, 7, 10, 11, 12, 13, 14, 15, 16, 17, 18, 19, 20, 21, 22, 23, 24, 25, 26, 27, 28, 29, 30, 31, 32, 33, 34, 35, 36, 37, 38, 39, 40, 41, 42, 43, 44, 45] [0, 1, 2] f_law08_put_L0)))
 (.seq
 (.ops [ iP 44 .id [.t 1], iP 45 .id [.t 8], iP 6 .id [.t 44], iP 7 .id [.t 45]])
 .ret))))
def f_law08_put : IFn := ⟨46, 4, [.tmp 6, .tmp 7], f_law08_put_B⟩
def f_journal_Open_L0 : ICode :=
 (.seq
 (.seq
 (.ops [ iP 23 .id [.t 10], iP 24 (.call "(*haberdash/journal.Journal).take" []) [.t 23]])
 (.cond (.t 24)
 .skip
 (.exit 0)))
 (.block 1
 .skip))
def f_journal_Open_H0 (t3 t10 : AV) : List AV := [.dead, .dead, .dead, t3, .dead, .dead, .dead, .dead, .dead, .dead, t10, .dead, .dead, .dead, .dead, .dead, .dead, .dead, .dead, .dead, .dead, .dead, .dead, .dead, .dead, .dead, .dead, .dead, .dead, .dead]
def f_journal_Open_B : ICode :=
 (.seq
 (.ops [ iP 8 .id [.c (.pointer none)], iP 9 .id [kI 0]])
 (.seq
 (.ops [ iP 13 .id [.t 0], iP 14 .id [.t 1], iP 15 .id [.t 2], iP 16 .id [.t 3], iP 17 (.call "haberdash/journal.New" [0, 1]) [.t 13, .t 14, .t 15, .t 16], iP 12 .id [.t 17], iP 18 (.extract 0) [.t 12], iP 19 (.extract 1) [.t 12], iP 10 .id [.t 18], iP 11 .id [.t 19]])
 (.seq
 (.seq
 (.ops [ iP 20 .id [.t 11], iP 21 (.bin .neq) [.t 20, kI 0]])
 (.cond (.t 21)
 (.seq
 (.ops [ iP 22 .id [.t 11], iP 8 .id [.c (.pointer none)], iP 9 .id [.t 22]])
 .ret)
 .skip))
 (.seq
 (.block 0
 (.loop [0, 1, 2, 4, 5, 6, 7, 8, 9, 11, 12, 13, 14, 15, 16, 17, 18, 19, 20, 21, 22, 23, 24, 25, 26, 27, 28, 29] [] f_journal_Open_L0))
 (.seq
 (.ops [ iP 25 .id [.t 10], iP 26 .id [.t 3], iP 27 .nilCheck [.t 25], iP 28 (.fieldAddr 3) [.t 27], iN (.store 1 false) [.t 28, .t 26]])
 (.seq
 (.ops [ iP 29 .id [.t 10], iP 8 .id [.t 29], iP 9 .id [kI 0]])
 .ret))))))
def f_journal_Open : IFn := ⟨30, 2, [.tmp 8, .tmp 9], f_journal_Open_B⟩
def f_help_Rows_B : ICode :=
 (.seq
 (.ops [ iP 4 .id [.c (.bool false)]])
 (.seq
 (.ops [ iP 5 .id [.t 0], iP 6 .id [.t 1], iP 7 (.call "haberdash/haberdashhelp.Same[[]byte]" []) [.t 5, .t 6, .f "haberdash/haberdashhelp.Bytes"], iP 4 .id [.t 7]])
 .ret))
def f_help_Rows : IFn := ⟨8, 0, [.tmp 4], f_help_Rows_B⟩
def f___journal_Journal__First_B : ICode :=
 (.seq
 (.ops [ iP 2 .id [.c (.int .u32 0)]])
 (.seq
 (.seq
 (.ops [ iP 3 .id [.t 0], iP 4 (.eqNil false .ptr) [.t 3, .c (.pointer none)]])
 (.cond (.t 4)
 (.seq
 (.ops [ iP 2 .id [.c (.int .u32 0)]])
 .ret)
 .skip))
 (.seq
 (.ops [ iP 5 .id [.t 0], iP 6 .nilCheck [.t 5], iP 7 (.fieldAddr 5) [.t 6], iP 8 (.load 1 false) [.t 7], iP 2 .id [.t 8]])
 .ret)))
def f___journal_Journal__First : IFn := ⟨9, 0, [.tmp 2], f___journal_Journal__First_B⟩
def f_ref06_Blank_B : ICode :=
 (.seq
 (.ops [ iP 8 .id [.c (.pointer none)], iP 9 .id [kI 0]])
 (.seq
 (.seq
 (.ops [ iP 10 .id [.t 0], iP 11 (.eqNil false .ptr) [.t 10, .c (.pointer none)]])
 (.cond (.t 11)
 (.seq
 (.ops [ iP 8 .id [.c (.pointer none)], iP 9 .id [kI 1]])
 .ret)
 .skip))
 (.seq
 (.seq
 (.ops [ iP 12 .id [.t 1], iP 13 (.bin .lss) [.t 12, kI 0], iP 14 .id [.t 13], iG 14 false 15 .id [.t 2], iG 14 false 16 (.bin .lss) [.t 15, kI 1], iP 17 .pick [.t 14, .c (.bool true), .t 16], iP 18 .id [.t 17], iG 18 false 19 .id [.t 1], iG 18 false 20 .id [.t 0], iG 18 false 21 .nilCheck [.t 20], iG 18 false 22 (.fieldAddr 0) [.t 21], iG 18 false 23 (.load 1 false) [.t 22], iG 18 false 24 .lenSlice [.t 23], iG 18 false 25 (.bin .gtr) [.t 19, .t 24], iP 26 .pick [.t 18, .c (.bool true), .t 25], iP 27 .id [.t 26], iG 27 false 28 .id [.t 2], iG 27 false 29 .id [.t 0], iG 27 false 30 .nilCheck [.t 29], iG 27 false 31 (.fieldAddr 0) [.t 30], iG 27 false 32 (.load 1 false) [.t 31], iG 27 false 33 .lenSlice [.t 32], iG 27 false 34 .id [.t 1], iG 27 false 35 (.bin .sub) [.t 33, .t 34], iG 27 false 36 (.bin .gtr) [.t 28, .t 35], iP 37 .pick [.t 27, .c (.bool true), .t 36], iP 38 .id [.t 37], iG 38 false 39 .id [.t 3], iG 38 false 40 (.bin .eql) [.t 39, .c (.int .u32 0)], iP 41 .pick [.t 38, .c (.bool true), .t 40]])
 (.cond (.t 41)
 (.seq
 (.ops [ iP 8 .id [.c (.pointer none)], iP 9 .id [kI 2]])
 .ret)
 .skip))
 (.seq
 (.seq
 (.ops [ iP 42 .id [.t 0], iP 43 .nilCheck [.t 42], iP 44 (.fieldAddr 3) [.t 43], iP 45 (.load 1 false) [.t 44]])
 (.cond (.t 45)
 (.seq
 (.ops [ iP 8 .id [.c (.pointer none)], iP 9 .id [kI 9]])
 .ret)
 .skip))
 (.seq
 (.ops [ iP 46 .id [.t 0], iP 47 .id [.t 1], iP 48 .id [.t 2], iP 49 .id [.t 3], iP 50 (.build [(.pointer none), (.int .i64 0), (.int .i64 0), (.int .u32 0), (.slice none 0 0), (.int .u32 0), (.int .i64 0), (.bool false)] [(0, 1), (1, 1), (2, 1), (3, 1)]) [.t 46, .t 47, .t 48, .t 49], iP 51 (.boxK 1 [(4, 0, 1)]) [.t 50], iP 8 .id [.t 51], iP 9 .id [kI 0]])
 .ret)))))
def f_ref06_Blank : IFn := ⟨52, 2, [.tmp 8, .tmp 9], f_ref06_Blank_B⟩
def f_ref06_Open_L0 : ICode :=
 (.block 1
 (.seq
 (.draw [ iP 28 .id [.t 10], iP 29 .id [.t 10], iP 30 .nilCheck [.t 29], iP 31 (.fieldAddr 6) [.t 30], iP 32 (.load 1 false) [.t 31], iP 33 .id [.t 10], iP 34 .nilCheck [.t 33], iP 35 (.fieldAddr 4) [.t 34], iP 36 (.load 1 false) [.t 35], iP 37 .lenSlice [.t 36], iP 38 (.convInt .u32) [.t 37], iP 39 .id [.t 12], iP 40 (.call "(*haberdash/haberdashref06.Journal).record" [2]) [.t 28, .t 32, .t 38, .t 39], iP 27 .id [.t 40], iP 41 (.extract 0) [.t 27], iP 42 (.extract 1) [.t 27], iP 43 (.extract 2) [.t 27], iP 13 .id [.t 41], iP 14 .id [.t 42], iP 15 .id [.t 43]])
 (.seq
 (.seq
 (.ops [ iP 44 .id [.t 14], iP 45 (.bin .eql) [.t 44, kI 0]])
 (.cond (.t 45)
 (.seq
 (.ops [ iP 46 .id [.t 10], iP 8 .id [.t 46], iP 9 .id [kI 0]])
 .ret)
 .skip))
 (.seq
 (.seq
 (.ops [ iP 47 .id [.t 10], iP 48 .nilCheck [.t 47], iP 49 (.fieldAddr 4) [.t 48], iP 50 (.load 1 false) [.t 49], iP 51 .lenSlice [.t 50], iP 52 (.bin .eql) [.t 51, kI 0]])
 (.cond (.t 52)
 (.ops [ iP 53 .id [.t 10], iP 54 .id [.t 15], iP 55 .nilCheck [.t 53], iP 56 (.fieldAddr 5) [.t 55], iN (.store 1 false) [.t 56, .t 54]])
 .skip))
 (.seq
 (.ops [ iP 57 .id [.t 10], iP 58 .id [.t 10], iP 59 .nilCheck [.t 58], iP 60 (.fieldAddr 4) [.t 59], iP 61 (.load 1 false) [.t 60], iP 62 .id [.t 13], iP 63 (.buildSlice 3 true 1 1 [(.slice none 0 0)] [(0, 1)]) [.t 62], iP 64 (.append 4 true 1 24) [.t 61, .t 63], iP 65 .nilCheck [.t 57], iP 66 (.fieldAddr 4) [.t 65], iN (.store 1 false) [.t 66, .t 64]])
 (.ops [ iP 67 .id [.t 10], iP 68 .id [.t 10], iP 69 .nilCheck [.t 68], iP 70 (.fieldAddr 6) [.t 69], iP 71 (.load 1 false) [.t 70], iP 72 .id [.t 14], iP 73 (.bin .add) [.t 71, .t 72], iP 74 .id [.t 15], iP 75 .nilCheck [.t 67], iP 76 (.fieldAddr 6) [.t 75], iN (.store 1 false) [.t 76, .t 73], iP 12 .id [.t 74]]))))))
def f_ref06_Open_H0 (t10 t12 : AV) : List AV := [.dead, .dead, .dead, .dead, .dead, .dead, .dead, .dead, .dead, .dead, t10, .dead, t12, .dead, .dead, .dead, .dead, .dead, .dead, .dead, .dead, .dead, .dead, .dead, .dead, .dead, .dead, .dead, .dead, .dead, .dead, .dead, .dead, .dead, .dead, .dead, .dead, .dead, .dead, .dead, .dead, .dead, .dead, .dead, .dead, .dead, .dead, .dead, .dead, .dead, .dead, .dead, .dead, .dead, .dead, .dead, .dead, .dead, .dead, .dead, .dead, .dead, .dead, .dead, .dead, .dead, .dead, .dead, .dead, .dead, .dead, .dead, .dead, .dead, .dead, .dead, .dead]
def f_ref06_Open_B : ICode :=
 (.seq
 (.ops [ iP 8 .id [.c (.pointer none)], iP 9 .id [kI 0]])
 (.seq
 (.ops [ iP 17 .id [.t 0], iP 18 .id [.t 1], iP 19 .id [.t 2], iP 20 .id [.t 3], iP 21 (.call "haberdash/haberdashref06.Blank" [0, 1]) [.t 17, .t 18, .t 19, .t 20], iP 16 .id [.t 21], iP 22 (.extract 0) [.t 16], iP 23 (.extract 1) [.t 16], iP 10 .id [.t 22], iP 11 .id [.t 23]])
 (.seq
 (.seq
 (.ops [ iP 24 .id [.t 11], iP 25 (.bin .neq) [.t 24, kI 0]])
 (.cond (.t 25)
 (.seq
 (.ops [ iP 26 .id [.t 11], iP 8 .id [.c (.pointer none)], iP 9 .id [.t 26]])
 .ret)
 .skip))
 (.seq
 (.ops [ iP 12 .id [.c (.int .u32 1)]])
 (.block 0
 (.loop [0, 1, 2, 3, 4, 5, 6, 7, 8, 9, 11, 13, 14, 15, 16, 17, 18, 19, 20, 21, 22, 23, 24, 25, 26, 27, 28, 29, 30, 31, 32, 33, 34, 35, 36, 37, 38, 39, 40, 41, 42, 43, 44, 45, 46, 47, 48, 49, 50, 51, 52, 53, 54, 55, 56, 57, 58, 59, 60, 61, 62, 63, 64, 65, 66, 67, 68, 69, 70, 71, 72, 73, 74, 75, 76] [2, 3, 4] f_ref06_Open_L0))))))
def f_ref06_Open : IFn := ⟨77, 5, [.tmp 8, .tmp 9], f_ref06_Open_B⟩
def f___ref06_Journal__Add_L0 : ICode :=
 (.seq
 (.seq
 (.ops [ iP 48 .id [.t 6], iP 49 .id [.t 5], iP 50 (.bin .lss) [.t 48, .t 49]])
 (.cond (.t 50)
 .skip
 (.exit 0)))
 (.seq
 (.block 1
 (.seq
 (.draw [ iP 53 .id [.t 0], iP 54 .nilCheck [.t 53], iP 55 (.fieldAddr 3) [.t 54],
 ⟨some 56, .load 1 false, [.t 55], none, [0], [], false⟩, iP 57 .id [.t 0], iP 58 .nilCheck [.t 57], iP 59 (.fieldAddr 4) [.t 58],
 ⟨some 60, .load 1 false, [.t 59], none, [0], [], false⟩, iP 61 .lenSlice [.t 60], iP 62 (.convInt .u32) [.t 61], iP 63 .id [.t 6], iP 64 (.bin .eql) [.t 63, kI 0], iP 65 .id [.t 6], iP 66 .id [.t 5], iP 67 (.bin .sub) [.t 66, kI 1], iP 68 (.bin .eql) [.t 65, .t 67], iP 69 .id [.t 1], iP 70 .id [.t 6], iP 71 (.bin .mul) [kI 46, .t 70], iP 72 .id [.t 6], iP 73 (.bin .mul) [kI 46, .t 72], iP 74 (.bin .add) [.t 73, kI 46], iP 75 .id [.t 1], iP 76 .lenSlice [.t 75], iP 77 .min [.t 74, .t 76], iP 78 (.slice 1 true true false) [.t 69, .t 71, .t 77], iP 79 (.build [(.int .u32 0), (.int .u32 0), (.bool false), (.bool false), (.slice none 0 0)] [(0, 1), (1, 1), (2, 1), (3, 1), (4, 1)]) [.t 56, .t 62, .t 64, .t 68, .t 78], iP 7 (.alloc 0 [(.int .u32 0), (.int .u32 0), (.bool false), (.bool false), (.slice none 0 0)] []) [],
 ⟨none, .store 5 false, [.t 7, .t 79], none, [], [0], false⟩])
 (.seq
 (.ops [ iP 81 (.load 5 true) [.t 7], iP 82 (.call "haberdash/haberdashref04.Lay" []) [.t 81], iP 80 .id [.t 82], iP 83 (.extract 0) [.t 80], iP 84 (.extract 1) [.t 80], iP 8 (.alloc 1 zeros64 []) [], iN (.store 64 false) [.t 8, .t 83], iP 9 .id [.t 84]])
 (.seq
 (.draw [ iP 85 .id [.t 0], iP 86 .nilCheck [.t 85], iP 87 (.fieldAddr 0) [.t 86], iP 88 (.load 1 false) [.t 87], iP 89 .id [.t 0], iP 90 .nilCheck [.t 89], iP 91 (.fieldAddr 1) [.t 90], iP 92 (.load 1 false) [.t 91], iP 93 .id [.t 0], iP 94 .nilCheck [.t 93], iP 95 (.fieldAddr 6) [.t 94], iP 96 (.load 1 false) [.t 95], iP 97 (.bin .add) [.t 92, .t 96], iP 98 .id [.t 6], iP 99 (.bin .add) [.t 97, .t 98], iP 100 (.load 64 true) [.t 8],
 ⟨some 101, .call "(*haberdash/haberdashref06.Disk).Write" [], [.t 88, .t 99, .t 100], none, [], [], true⟩, iP 102 (.bin .neq) [.t 101, kI 0]])
 (.cond (.t 102)
 (.seq
 (.ops [ iP 103 .id [.t 0], iP 104 .nilCheck [.t 103], iP 105 (.fieldAddr 7) [.t 104], iN (.store 1 false) [.t 105, .c (.bool true)]])
 (.seq
 (.ops [ iP 4 .id [kI 9]])
 .ret))
 .skip)))))
 (.ops [ iP 51 .id [.t 6], iP 52 (.bin .add) [.t 51, kI 1], iP 6 .id [.t 52]])))
def f___ref06_Journal__Add_H0 (t0 t1 t5 t6 : AV) : List AV := [t0, t1, .dead, .dead, .dead, t5, t6, .dead, .dead, .dead, .dead, .dead, .dead, .dead, .dead, .dead, .dead, .dead, .dead, .dead, .dead, .dead, .dead, .dead, .dead, .dead, .dead, .dead, .dead, .dead, .dead, .dead, .dead, .dead, .dead, .dead, .dead, .dead, .dead, .dead, .dead, .dead, .dead, .dead, .dead, .dead, .dead, .dead, .dead, .dead, .dead, .dead, .dead, .dead, .dead, .dead, .dead, .dead, .dead, .dead, .dead, .dead, .dead, .dead, .dead, .dead, .dead, .dead, .dead, .dead, .dead, .dead, .dead, .dead, .dead, .dead, .dead, .dead, .dead, .dead, .dead, .dead, .dead, .dead, .dead, .dead, .dead, .dead, .dead, .dead, .dead, .dead, .dead, .dead, .dead, .dead, .dead, .dead, .dead, .dead, .dead, .dead, .dead, .dead, .dead, .dead, .dead, .dead, .dead, .dead, .dead, .dead, .dead, .dead, .dead, .dead, .dead, .dead, .dead, .dead, .dead, .dead, .dead, .dead, .dead, .dead, .dead, .dead, .dead, .dead, .dead, .dead, .dead, .dead, .dead, .dead, .dead, .dead, .dead, .dead, .dead, .dead, .dead, .dead, .dead, .dead, .dead, .dead]
def f___ref06_Journal__Add_B : ICode :=
 (.seq
 (.ops [ iP 4 .id [kI 0]])
 (.seq
 (.seq
 (.ops [ iP 10 .id [.t 0], iP 11 .nilCheck [.t 10], iP 12 (.fieldAddr 7) [.t 11], iP 13 (.load 1 false) [.t 12], iP 14 .id [.t 13], iG 14 false 15 .id [.t 0], iG 14 false 16 .nilCheck [.t 15], iG 14 false 17 (.fieldAddr 0) [.t 16], iG 14 false 18 (.load 1 false) [.t 17], iG 14 false 19 .nilCheck [.t 18], iG 14 false 20 (.fieldAddr 3) [.t 19], iG 14 false 21 (.load 1 false) [.t 20], iP 22 .pick [.t 14, .c (.bool true), .t 21]])
 (.cond (.t 22)
 (.seq
 (.ops [ iP 23 .id [.t 0], iP 24 .nilCheck [.t 23], iP 25 (.fieldAddr 7) [.t 24], iN (.store 1 false) [.t 25, .c (.bool true)]])
 (.seq
 (.ops [ iP 4 .id [kI 9]])
 .ret))
 .skip))
 (.seq
 (.seq
 (.ops [ iP 26 .id [.t 1], iP 27 .lenSlice [.t 26], iP 28 (.bin .lss) [.t 27, kI 1], iP 29 .id [.t 28], iG 29 false 30 .id [.t 1], iG 29 false 31 .lenSlice [.t 30], iG 29 false 32 (.bin .gtr) [.t 31, kI 400000], iP 33 .pick [.t 29, .c (.bool true), .t 32]])
 (.cond (.t 33)
 (.seq
 (.ops [ iP 4 .id [kI 2]])
 .ret)
 .skip))
 (.seq
 (.ops [ iP 34 .id [.t 1], iP 35 .lenSlice [.t 34], iP 36 (.call "haberdash/haberdashref06.Need" []) [.t 35], iP 5 .id [.t 36]])
 (.seq
 (.seq
 (.draw [ iP 37 .id [.t 5], iP 38 .id [.t 0], iP 39 .nilCheck [.t 38], iP 40 (.fieldAddr 2) [.t 39], iP 41 (.load 1 false) [.t 40], iP 42 .id [.t 0], iP 43 .nilCheck [.t 42], iP 44 (.fieldAddr 6) [.t 43], iP 45 (.load 1 false) [.t 44], iP 46 (.bin .sub) [.t 41, .t 45], iP 47 (.bin .gtr) [.t 37, .t 46]])
 (.cond (.t 47)
 (.seq
 (.ops [ iP 4 .id [kI 6]])
 .ret)
 .skip))
 (.seq
 (.seq
 (.ops [ iP 6 .id [kI 0]])
 (.block 0
 (.loop [2, 3, 4, 7, 8, 9, 10, 11, 12, 13, 14, 15, 16, 17, 18, 19, 20, 21, 22, 23, 24, 25, 26, 27, 28, 29, 30, 31, 32, 33, 34, 35, 36, 37, 38, 39, 40, 41, 42, 43, 44, 45, 46, 47, 48, 49, 50, 51, 52, 53, 54, 55, 56, 57, 58, 59, 60, 61, 62, 63, 64, 65, 66, 67, 68, 69, 70, 71, 72, 73, 74, 75, 76, 77, 78, 79, 80, 81, 82, 83, 84, 85, 86, 87, 88, 89, 90, 91, 92, 93, 94, 95, 96, 97, 98, 99, 100, 101, 102, 103, 104, 105, 106, 107, 108, 109, 110, 111, 112, 113, 114, 115, 116, 117, 118, 119, 120, 121, 122, 123, 124, 125, 126, 127, 128, 129, 130, 131, 132, 133, 134, 135, 136, 137, 138, 139, 140, 141, 142, 143, 144, 145, 146, 147] [0, 1] f___ref06_Journal__Add_L0)))
 (.seq
 (.seq
 (.ops [ iP 106 .id [.t 0], iP 107 .nilCheck [.t 106], iP 108 (.fieldAddr 0) [.t 107], iP 109 (.load 1 false) [.t 108], iP 110 (.call "(*haberdash/haberdashref06.Disk).Sync" []) [.t 109], iP 111 (.bin .neq) [.t 110, kI 0]])
 (.cond (.t 111)
 (.seq
 (.ops [ iP 112 .id [.t 0], iP 113 .nilCheck [.t 112], iP 114 (.fieldAddr 7) [.t 113], iN (.store 1 false) [.t 114, .c (.bool true)]])
 (.seq
 (.ops [ iP 4 .id [kI 9]])
 .ret))
 .skip))
 (.seq
 (.seq
 (.ops [ iP 115 .id [.t 0], iP 116 .nilCheck [.t 115], iP 117 (.fieldAddr 4) [.t 116], iP 118 (.load 1 false) [.t 117], iP 119 .lenSlice [.t 118], iP 120 (.bin .eql) [.t 119, kI 0]])
 (.cond (.t 120)
 (.ops [ iP 121 .id [.t 0], iP 122 .id [.t 0], iP 123 .nilCheck [.t 122], iP 124 (.fieldAddr 3) [.t 123], iP 125 (.load 1 false) [.t 124], iP 126 .nilCheck [.t 121], iP 127 (.fieldAddr 5) [.t 126], iN (.store 1 false) [.t 127, .t 125]])
 .skip))
 (.seq
 (.draw [ iP 128 .id [.t 0], iP 129 .id [.t 0], iP 130 .nilCheck [.t 129], iP 131 (.fieldAddr 4) [.t 130],
 ⟨some 132, .load 1 false, [.t 131], none, [2, 3], [], false⟩, iP 133 .id [.t 1], iP 134 (.append 2 false 1 1) [.c (.slice none 0 0), .t 133],
 ⟨some 135, .buildSlice 3 true 1 1 [(.slice none 0 0)] [(0, 1)], [.t 134], none, [], [2], false⟩,
 ⟨some 136, .append 4 true 1 24, [.t 132, .t 135], none, [], [], true⟩, iP 137 .nilCheck [.t 128], iP 138 (.fieldAddr 4) [.t 137],
 ⟨none, .store 1 false, [.t 138, .t 136], none, [], [], true⟩])
 (.seq
 (.ops [ iP 139 .id [.t 0], iP 140 .id [.t 0], iP 141 .nilCheck [.t 140], iP 142 (.fieldAddr 6) [.t 141], iP 143 (.load 1 false) [.t 142], iP 144 .id [.t 5], iP 145 (.bin .add) [.t 143, .t 144], iP 146 .nilCheck [.t 139], iP 147 (.fieldAddr 6) [.t 146], iN (.store 1 false) [.t 147, .t 145]])
 (.seq
 (.ops [ iP 4 .id [kI 0]])
 .ret)))))))))))
def f___ref06_Journal__Add : IFn := ⟨148, 5, [.tmp 4], f___ref06_Journal__Add_B⟩
def f_law08_alike_B : ICode :=
 (.seq
 (.ops [ iP 4 .id [.c (.bool false)]])
 (.seq
 (.draw [ iP 5 .id [.t 0], iP 6 (.call "(*haberdash/journal.Journal).Records" [0]) [.t 5], iP 7 .id [.t 1], iP 8 .nilCheck [.t 7], iP 9 (.fieldAddr 4) [.t 8],
 ⟨some 10, .load 1 false, [.t 9], none, [0], [], false⟩, iP 11 (.call "haberdash/haberdashhelp.Rows" []) [.t 6, .t 10], iP 12 .id [.t 11], iG 12 true 13 .id [.t 0], iG 12 true 14 (.call "(*haberdash/journal.Journal).First" []) [.t 13], iG 12 true 15 .id [.t 1], iG 12 true 16 .nilCheck [.t 15], iG 12 true 17 (.fieldAddr 5) [.t 16], iG 12 true 18 (.load 1 false) [.t 17], iG 12 true 19 (.bin .eql) [.t 14, .t 18], iP 20 .pick [.t 12, .t 19, .c (.bool false)], iP 21 .id [.t 20], iG 21 true 22 .id [.t 0], iG 21 true 23 (.call "(*haberdash/journal.Journal).Used" []) [.t 22], iG 21 true 24 .id [.t 1], iG 21 true 25 .nilCheck [.t 24], iG 21 true 26 (.fieldAddr 6) [.t 25], iG 21 true 27 (.load 1 false) [.t 26], iG 21 true 28 (.bin .eql) [.t 23, .t 27], iP 29 .pick [.t 21, .t 28, .c (.bool false)], iP 4 .id [.t 29]])
 .ret))
def f_law08_alike : IFn := ⟨30, 1, [.tmp 4], f_law08_alike_B⟩
def f___journal_Journal__lay_L0 : ICode :=
 (.seq
 (.ops [ iP 16 (.bin .lss) [.t 15, .t 14]])
 (.seq
 (.cond (.t 16)
 .skip
 (.exit 0))
 (.seq
 (.block 1
 (.seq
 (.ops [ iP 17 .id [.t 15], iP 6 .id [.t 17]])
 (.seq
 (.ops [ iP 18 .id [.t 1], iP 19 .id [.t 6], iP 20 (.bin .mul) [.t 19, kI 46], iP 21 .id [.t 6], iP 22 (.bin .add) [.t 21, kI 1], iP 23 (.bin .mul) [.t 22, kI 46], iP 24 .id [.t 1], iP 25 .lenSlice [.t 24], iP 26 .min [.t 23, .t 25], iP 27 (.slice 1 true true false) [.t 18, .t 20, .t 26], iP 7 .id [.t 27]])
 (.seq
 (.draw [ iP 29 .id [.t 0], iP 30 .nilCheck [.t 29], iP 31 (.fieldAddr 3) [.t 30],
 ⟨some 32, .load 1 false, [.t 31], none, [0], [], false⟩, iP 33 .id [.t 0], iP 34 .nilCheck [.t 33], iP 35 (.fieldAddr 6) [.t 34],
 ⟨some 36, .load 1 false, [.t 35], none, [0], [], false⟩, iP 37 .lenSlice [.t 36], iP 38 (.convInt .u32) [.t 37], iP 39 .id [.t 6], iP 40 (.bin .eql) [.t 39, kI 0], iP 41 .id [.t 6], iP 42 .id [.t 5], iP 43 (.bin .sub) [.t 42, kI 1], iP 44 (.bin .eql) [.t 41, .t 43], iP 45 .id [.t 7], iP 46 (.build [(.int .u32 0), (.int .u32 0), (.bool false), (.bool false), (.slice none 0 0)] [(0, 1), (1, 1), (2, 1), (3, 1), (4, 1)]) [.t 32, .t 38, .t 40, .t 44, .t 45],
 ⟨some 47, .call "haberdash/leaf.Lay" [], [.t 46], none, [0], [], false⟩, iP 28 .id [.t 47], iP 48 (.extract 0) [.t 28], iP 49 (.extract 1) [.t 28], iP 8 (.alloc 0 zeros64 []) [],
 ⟨none, .store 64 false, [.t 8, .t 48], none, [], [0], false⟩, iP 9 .id [.t 49]])
 (.seq
 (.seq
 (.ops [ iP 50 .id [.t 9], iP 51 (.bin .neq) [.t 50, kI 0]])
 (.cond (.t 51)
 (.seq
 (.ops [ iP 52 .id [.t 9], iP 4 .id [.t 52]])
 .ret)
 .skip))
 (.seq
 (.draw [ iP 53 .id [.t 0], iP 54 .nilCheck [.t 53], iP 55 (.fieldAddr 0) [.t 54], iP 56 (.load 1 false) [.t 55], iP 57 .id [.t 0], iP 58 .nilCheck [.t 57], iP 59 (.fieldAddr 1) [.t 58], iP 60 (.load 1 false) [.t 59], iP 61 .id [.t 0], iP 62 .nilCheck [.t 61], iP 63 (.fieldAddr 7) [.t 62], iP 64 (.load 1 false) [.t 63], iP 65 (.bin .add) [.t 60, .t 64], iP 66 .id [.t 6], iP 67 (.bin .add) [.t 65, .t 66], iP 68 (.load 64 true) [.t 8],
 ⟨some 69, .call "(*haberdash/disk.Disk).Write" [], [.t 56, .t 67, .t 68], none, [], [], true⟩, iP 10 .id [.t 69]])
 (.seq
 (.ops [ iP 70 .id [.t 10], iP 71 (.bin .neq) [.t 70, kI 0]])
 (.cond (.t 71)
 (.seq
 (.ops [ iP 72 .id [.t 10], iP 4 .id [.t 72]])
 .ret)
 .skip))))))))
 (.ops [ iP 73 (.bin .add) [.t 15, kI 1], iP 15 .id [.t 73]]))))
def f___journal_Journal__lay_H0 (t0 t1 t5 t14 t15 : AV) : List AV := [t0, t1, .dead, .dead, .dead, t5, .dead, .dead, .dead, .dead, .dead, .dead, .dead, .dead, t14, t15, .dead, .dead, .dead, .dead, .dead, .dead, .dead, .dead, .dead, .dead, .dead, .dead, .dead, .dead, .dead, .dead, .dead, .dead, .dead, .dead, .dead, .dead, .dead, .dead, .dead, .dead, .dead, .dead, .dead, .dead, .dead, .dead, .dead, .dead, .dead, .dead, .dead, .dead, .dead, .dead, .dead, .dead, .dead, .dead, .dead, .dead, .dead, .dead, .dead, .dead, .dead, .dead, .dead, .dead, .dead, .dead, .dead, .dead, .dead, .dead, .dead, .dead, .dead]
def f___journal_Journal__lay_B : ICode :=
 (.seq
 (.ops [ iP 4 .id [kI 0]])
 (.seq
 (.ops [ iP 11 .id [.t 1], iP 12 .lenSlice [.t 11], iP 13 (.call "haberdash/journal.Need" []) [.t 12], iP 5 .id [.t 13]])
 (.seq
 (.seq
 (.ops [ iP 14 .id [.t 5], iP 15 .id [kI 0]])
 (.block 0
 (.loop [2, 3, 4, 6, 7, 8, 9, 10, 11, 12, 13, 16, 17, 18, 19, 20, 21, 22, 23, 24, 25, 26, 27, 28, 29, 30, 31, 32, 33, 34, 35, 36, 37, 38, 39, 40, 41, 42, 43, 44, 45, 46, 47, 48, 49, 50, 51, 52, 53, 54, 55, 56, 57, 58, 59, 60, 61, 62, 63, 64, 65, 66, 67, 68, 69, 70, 71, 72, 73, 74, 75, 76, 77, 78] [0] f___journal_Journal__lay_L0)))
 (.seq
 (.ops [ iP 74 .id [.t 0], iP 75 .nilCheck [.t 74], iP 76 (.fieldAddr 0) [.t 75], iP 77 (.load 1 false) [.t 76], iP 78 (.call "(*haberdash/disk.Disk).Sync" []) [.t 77], iP 4 .id [.t 78]])
 .ret))))
def f___journal_Journal__lay : IFn := ⟨79, 1, [.tmp 4], f___journal_Journal__lay_B⟩
def f___journal_Journal__note_B : ICode :=
 (.seq
 (.seq
 (.ops [ iP 6 .id [.t 0], iP 7 .nilCheck [.t 6], iP 8 (.fieldAddr 6) [.t 7], iP 9 (.load 1 false) [.t 8], iP 10 .lenSlice [.t 9], iP 11 (.bin .eql) [.t 10, kI 0]])
 (.cond (.t 11)
 (.ops [ iP 12 .id [.t 0], iP 13 .id [.t 0], iP 14 .nilCheck [.t 13], iP 15 (.fieldAddr 3) [.t 14], iP 16 (.load 1 false) [.t 15], iP 17 .nilCheck [.t 12], iP 18 (.fieldAddr 5) [.t 17], iN (.store 1 false) [.t 18, .t 16]])
 .skip))
 (.seq
 (.draw [ iP 19 .id [.t 0], iP 20 .id [.t 0], iP 21 .nilCheck [.t 20], iP 22 (.fieldAddr 6) [.t 21],
 ⟨some 23, .load 1 false, [.t 22], none, [0, 1], [], false⟩, iP 24 .id [.t 1], iP 25 (.call "bytes.Clone" [0]) [.t 24],
 ⟨some 26, .buildSlice 1 true 1 1 [(.slice none 0 0)] [(0, 1)], [.t 25], none, [], [0], false⟩,
 ⟨some 27, .append 2 true 1 24, [.t 23, .t 26], none, [], [], true⟩, iP 28 .nilCheck [.t 19], iP 29 (.fieldAddr 6) [.t 28],
 ⟨none, .store 1 false, [.t 29, .t 27], none, [], [], true⟩])
 (.seq
 (.ops [ iP 30 .id [.t 0], iP 31 .id [.t 0], iP 32 .nilCheck [.t 31], iP 33 (.fieldAddr 3) [.t 32], iP 34 (.load 1 false) [.t 33], iP 35 .nilCheck [.t 30], iP 36 (.fieldAddr 4) [.t 35], iN (.store 1 false) [.t 36, .t 34]])
 (.ops [ iP 37 .id [.t 0], iP 38 .nilCheck [.t 37], iP 39 (.fieldAddr 7) [.t 38], iP 40 (.load 1 false) [.t 39], iP 41 .id [.t 2], iP 42 (.bin .add) [.t 40, .t 41], iP 43 .nilCheck [.t 37], iP 44 (.fieldAddr 7) [.t 43], iN (.store 1 false) [.t 44, .t 42]]))))
def f___journal_Journal__note : IFn := ⟨45, 3, [], f___journal_Journal__note_B⟩
def f___journal_Journal__take_L0 : ICode :=
 (.seq
 (.block 1
 (.seq
 (.ops [ iP 13 .id [.t 3], iP 14 (.callV [3]) [.t 13], iP 12 .id [.t 14], iP 15 (.extract 0) [.t 12], iP 16 (.extract 1) [.t 12], iP 6 (.alloc 4 [(.int .u32 0), (.int .u32 0), (.bool false), (.bool false), (.slice none 0 0)] []) [], iN (.store 5 false) [.t 6, .t 15], iP 7 .id [.t 16]])
 (.seq
 (.seq
 (.draw [ iP 17 .id [.t 7], iP 18 (.un .not) [.t 17], iP 19 .id [.t 18], iG 19 false 20 (.fieldAddr 1) [.t 6], iG 19 false 21 (.load 1 false) [.t 20], iG 19 false 22 (.convInt .i64) [.t 21], iG 19 false 23 .id [.t 0], iG 19 false 24 .nilCheck [.t 23], iG 19 false 25 (.fieldAddr 6) [.t 24], iG 19 false 26 (.load 1 false) [.t 25], iG 19 false 27 .lenSlice [.t 26], iG 19 false 28 (.bin .neq) [.t 22, .t 27], iP 29 .pick [.t 19, .c (.bool true), .t 28], iP 30 .id [.t 29], iG 30 false 31 (.fieldAddr 2) [.t 6], iG 30 false 32 (.load 1 false) [.t 31], iG 30 false 33 .id [.t 5], iG 30 false 34 (.bin .eql) [.t 33, kI 0], iG 30 false 35 (.eqBool true) [.t 32, .t 34], iP 36 .pick [.t 30, .c (.bool true), .t 35], iP 37 .id [.t 36], iG 37 false 38 (.fieldAddr 0) [.t 6], iG 37 false 39 (.load 1 false) [.t 38], iG 37 false 40 .id [.t 0], iG 37 false 41 .nilCheck [.t 40], iG 37 false 42 (.fieldAddr 4) [.t 41], iG 37 false 43 (.load 1 false) [.t 42], iG 37 false 44 (.bin .lss) [.t 39, .t 43], iP 45 .pick [.t 37, .c (.bool true), .t 44], iP 46 .id [.t 45], iG 46 false 47 .id [.t 5], iG 46 false 48 (.bin .gtr) [.t 47, kI 0], iG 46 false 49 .id [.t 48], iG 49 true 50 (.fieldAddr 0) [.t 6], iG 49 true 51 (.load 1 false) [.t 50], iG 49 true 52 .id [.t 0], iG 49 true 53 .nilCheck [.t 52], iG 49 true 54 (.fieldAddr 3) [.t 53], iG 49 true 55 (.load 1 false) [.t 54], iG 49 true 56 (.bin .neq) [.t 51, .t 55], iG 46 false 57 .pick [.t 49, .t 56, .c (.bool false)], iP 58 .pick [.t 46, .c (.bool true), .t 57]])
 (.cond (.t 58)
 (.seq
 (.ops [ iP 2 .id [.c (.bool false)]])
 .ret)
 .skip))
 (.seq
 (.ops [ iP 59 .id [.t 4], iP 60 (.fieldAddr 4) [.t 6], iP 61 (.load 1 false) [.t 60], iP 62 (.append 5 false 1 1) [.t 59, .t 61], iP 4 .id [.t 62]])
 (.seq
 (.ops [ iP 63 .id [.t 0], iP 64 (.fieldAddr 0) [.t 6], iP 65 (.load 1 false) [.t 64], iP 66 .nilCheck [.t 63], iP 67 (.fieldAddr 3) [.t 66], iN (.store 1 false) [.t 67, .t 65]])
 (.seq
 (.ops [ iP 68 (.fieldAddr 3) [.t 6], iP 69 (.load 1 false) [.t 68]])
 (.cond (.t 69)
 (.seq
 (.ops [ iP 70 .id [.t 0], iP 71 .id [.t 4], iP 72 .id [.t 5], iP 73 (.bin .add) [.t 72, kI 1], iP 74 (.call "(*haberdash/journal.Journal).note" []) [.t 70, .t 71, .t 73]])
 (.seq
 (.ops [ iP 2 .id [.c (.bool true)]])
 .ret))
 .skip)))))))
 (.ops [ iP 10 .id [.t 5], iP 11 (.bin .add) [.t 10, kI 1], iP 5 .id [.t 11]]))
def f___journal_Journal__take_H0 (t0 t3 t4 t5 : AV) : List AV := [t0, .dead, .dead, t3, t4, t5, .dead, .dead, .dead, .dead, .dead, .dead, .dead, .dead, .dead, .dead, .dead, .dead, .dead, .dead, .dead, .dead, .dead, .dead, .dead, .dead, .dead, .dead, .dead, .dead, .dead, .dead, .dead, .dead, .dead, .dead, .dead, .dead, .dead, .dead, .dead, .dead, .dead, .dead, .dead, .dead, .dead, .dead, .dead, .dead, .dead, .dead, .dead, .dead, .dead, .dead, .dead, .dead, .dead, .dead, .dead, .dead, .dead, .dead, .dead, .dead, .dead, .dead, .dead, .dead, .dead, .dead, .dead, .dead, .dead]
def f___journal_Journal__take_B : ICode :=
 (.seq
 (.ops [ iP 2 .id [.c (.bool false)]])
 (.seq
 (.ops [ iP 8 .id [.t 0], iP 9 (.call "(*haberdash/journal.Journal).leaves" [0, 1]) [.t 8], iP 3 .id [.t 9]])
 (.seq
 (.ops [ iP 4 (.nilv 2 1) [.c (.slice none 0 0)]])
 (.seq
 (.ops [ iP 5 .id [kI 0]])
 (.block 0
 (.loop [1, 2, 6, 7, 8, 9, 10, 11, 12, 13, 14, 15, 16, 17, 18, 19, 20, 21, 22, 23, 24, 25, 26, 27, 28, 29, 30, 31, 32, 33, 34, 35, 36, 37, 38, 39, 40, 41, 42, 43, 44, 45, 46, 47, 48, 49, 50, 51, 52, 53, 54, 55, 56, 57, 58, 59, 60, 61, 62, 63, 64, 65, 66, 67, 68, 69, 70, 71, 72, 73, 74] [3, 4, 5] f___journal_Journal__take_L0))))))
def f___journal_Journal__take : IFn := ⟨75, 6, [.tmp 2], f___journal_Journal__take_B⟩
def f_help_Same___byte__L0 : ICode :=
 (.seq
 (.seq
 (.ops [ iP 13 .id [.t 7], iP 14 .id [.t 0], iP 15 .lenSlice [.t 14], iP 16 (.bin .lss) [.t 13, .t 15]])
 (.cond (.t 16)
 .skip
 (.exit 0)))
 (.seq
 (.block 1
 (.seq
 (.draw [ iP 19 .id [.t 2], iP 20 .id [.t 0], iP 21 .id [.t 7], iP 22 (.indexAddr 1) [.t 20, .t 21], iP 23 (.load 1 false) [.t 22], iP 24 .id [.t 1], iP 25 .id [.t 7], iP 26 (.indexAddr 1) [.t 24, .t 25], iP 27 (.load 1 false) [.t 26], iP 28 (.callV []) [.t 19, .t 23, .t 27], iP 29 (.un .not) [.t 28]])
 (.cond (.t 29)
 (.seq
 (.ops [ iP 6 .id [.c (.bool false)]])
 .ret)
 .skip)))
 (.ops [ iP 17 .id [.t 7], iP 18 (.bin .add) [.t 17, kI 1], iP 7 .id [.t 18]])))
def f_help_Same___byte__B : ICode :=
 (.seq
 (.ops [ iP 6 .id [.c (.bool false)]])
 (.seq
 (.seq
 (.ops [ iP 8 .id [.t 0], iP 9 .lenSlice [.t 8], iP 10 .id [.t 1], iP 11 .lenSlice [.t 10], iP 12 (.bin .neq) [.t 9, .t 11]])
 (.cond (.t 12)
 (.seq
 (.ops [ iP 6 .id [.c (.bool false)]])
 .ret)
 .skip))
 (.seq
 (.seq
 (.ops [ iP 7 .id [kI 0]])
 (.block 0
 (.loop [3, 4, 5, 6, 8, 9, 10, 11, 12, 13, 14, 15, 16, 17, 18, 19, 20, 21, 22, 23, 24, 25, 26, 27, 28, 29] [] f_help_Same___byte__L0)))
 (.seq
 (.ops [ iP 6 .id [.c (.bool true)]])
 .ret))))
def f_help_Same___byte_ : IFn := ⟨30, 0, [.tmp 6], f_help_Same___byte__B⟩
def f___ref06_Journal__record_L0 : ICode :=
 (.seq
 (.seq
 (.ops [ iP 16 .id [.t 1], iP 17 .id [.t 13], iP 18 (.bin .add) [.t 16, .t 17], iP 19 .id [.t 0], iP 20 .nilCheck [.t 19], iP 21 (.fieldAddr 2) [.t 20], iP 22 (.load 1 false) [.t 21], iP 23 (.bin .lss) [.t 18, .t 22]])
 (.cond (.t 23)
 .skip
 (.exit 0)))
 (.seq
 (.block 1
 (.seq
 (.draw [ iP 27 .id [.t 0], iP 28 .nilCheck [.t 27], iP 29 (.fieldAddr 0) [.t 28],
 ⟨some 30, .load 1 false, [.t 29], none, [2], [], false⟩, iP 31 .nilCheck [.t 30], iP 32 (.fieldAddr 0) [.t 31],
 ⟨some 33, .load 1 false, [.t 32], none, [2], [], false⟩, iP 34 .id [.t 0], iP 35 .nilCheck [.t 34], iP 36 (.fieldAddr 1) [.t 35],
 ⟨some 37, .load 1 false, [.t 36], none, [2], [], false⟩, iP 38 .id [.t 1], iP 39 (.bin .add) [.t 37, .t 38], iP 40 .id [.t 13], iP 41 (.bin .add) [.t 39, .t 40], iP 42 (.indexAddr 64) [.t 33, .t 41],
 ⟨some 43, .load 64 true, [.t 42], none, [2], [], false⟩,
 ⟨some 44, .call "haberdash/haberdashref04.Take" [1], [.t 43], none, [2], [], false⟩, iP 26 .id [.t 44], iP 45 (.extract 0) [.t 26], iP 46 (.extract 1) [.t 26],
 ⟨some 14, .alloc 2 [(.int .u32 0), (.int .u32 0), (.bool false), (.bool false), (.slice none 0 0)] [], [], none, [1], [], false⟩,
 ⟨none, .store 5 false, [.t 14, .t 45], none, [], [2], false⟩, iP 15 .id [.t 46]])
 (.seq
 (.seq
 (.ops [ iP 47 .id [.t 15], iP 48 (.un .not) [.t 47], iP 49 .id [.t 48], iG 49 false 50 (.fieldAddr 1) [.t 14], iG 49 false 51 (.load 1 false) [.t 50], iG 49 false 52 .id [.t 2], iG 49 false 53 (.bin .neq) [.t 51, .t 52], iP 54 .pick [.t 49, .c (.bool true), .t 53], iP 55 .id [.t 54], iG 55 false 56 (.fieldAddr 2) [.t 14], iG 55 false 57 (.load 1 false) [.t 56], iG 55 false 58 .id [.t 13], iG 55 false 59 (.bin .eql) [.t 58, kI 0], iG 55 false 60 (.eqBool true) [.t 57, .t 59], iP 61 .pick [.t 55, .c (.bool true), .t 60], iP 62 .id [.t 61], iG 62 false 63 .id [.t 13], iG 62 false 64 (.bin .gtr) [.t 63, kI 0], iG 62 false 65 .id [.t 64], iG 65 true 66 (.fieldAddr 0) [.t 14], iG 65 true 67 (.load 1 false) [.t 66], iG 65 true 68 .id [.t 12], iG 65 true 69 (.bin .neq) [.t 67, .t 68], iG 62 false 70 .pick [.t 65, .t 69, .c (.bool false)], iP 71 .pick [.t 62, .c (.bool true), .t 70], iP 72 .id [.t 71], iG 72 false 73 (.fieldAddr 0) [.t 14], iG 72 false 74 (.load 1 false) [.t 73], iG 72 false 75 .id [.t 3], iG 72 false 76 (.bin .lss) [.t 74, .t 75], iP 77 .pick [.t 72, .c (.bool true), .t 76]])
 (.cond (.t 77)
 (.seq
 (.ops [ iP 8 .id [.c (.slice none 0 0)], iP 9 .id [kI 0], iP 10 .id [.c (.int .u32 0)]])
 .ret)
 .skip))
 (.seq
 (.ops [ iP 78 (.fieldAddr 0) [.t 14], iP 79 (.load 1 false) [.t 78], iP 12 .id [.t 79]])
 (.seq
 (.ops [ iP 80 .id [.t 11], iP 81 (.fieldAddr 4) [.t 14], iP 82 (.load 1 false) [.t 81], iP 83 (.append 3 false 1 1) [.t 80, .t 82], iP 11 .id [.t 83]])
 (.seq
 (.ops [ iP 84 (.fieldAddr 3) [.t 14], iP 85 (.load 1 false) [.t 84]])
 (.cond (.t 85)
 (.seq
 (.ops [ iP 86 .id [.t 11], iP 87 .id [.t 13], iP 88 (.bin .add) [.t 87, kI 1], iP 89 .id [.t 12], iP 8 .id [.t 86], iP 9 .id [.t 88], iP 10 .id [.t 89]])
 .ret)
 .skip)))))))
 (.ops [ iP 24 .id [.t 13], iP 25 (.bin .add) [.t 24, kI 1], iP 13 .id [.t 25]])))
def f___ref06_Journal__record_H0 (t0 t1 t2 t3 t11 t12 t13 : AV) : List AV := [t0, t1, t2, t3, .dead, .dead, .dead, .dead, .dead, .dead, .dead, t11, t12, t13, .dead, .dead, .dead, .dead, .dead, .dead, .dead, .dead, .dead, .dead, .dead, .dead, .dead, .dead, .dead, .dead, .dead, .dead, .dead, .dead, .dead, .dead, .dead, .dead, .dead, .dead, .dead, .dead, .dead, .dead, .dead, .dead, .dead, .dead, .dead, .dead, .dead, .dead, .dead, .dead, .dead, .dead, .dead, .dead, .dead, .dead, .dead, .dead, .dead, .dead, .dead, .dead, .dead, .dead, .dead, .dead, .dead, .dead, .dead, .dead, .dead, .dead, .dead, .dead, .dead, .dead, .dead, .dead, .dead, .dead, .dead, .dead, .dead, .dead, .dead, .dead]
def f___ref06_Journal__record_B : ICode :=
 (.seq
 (.ops [ iP 8 .id [.c (.slice none 0 0)], iP 9 .id [kI 0], iP 10 .id [.c (.int .u32 0)]])
 (.seq
 (.ops [ iP 11 (.nilv 0 1) [.c (.slice none 0 0)]])
 (.seq
 (.ops [ iP 12 .id [.c (.int .u32 0)]])
 (.seq
 (.seq
 (.ops [ iP 13 .id [kI 0]])
 (.block 0
 (.loop [4, 5, 6, 7, 8, 9, 10, 14, 15, 16, 17, 18, 19, 20, 21, 22, 23, 24, 25, 26, 27, 28, 29, 30, 31, 32, 33, 34, 35, 36, 37, 38, 39, 40, 41, 42, 43, 44, 45, 46, 47, 48, 49, 50, 51, 52, 53, 54, 55, 56, 57, 58, 59, 60, 61, 62, 63, 64, 65, 66, 67, 68, 69, 70, 71, 72, 73, 74, 75, 76, 77, 78, 79, 80, 81, 82, 83, 84, 85, 86, 87, 88, 89] [1, 2, 3] f___ref06_Journal__record_L0)))
 (.seq
 (.ops [ iP 8 .id [.c (.slice none 0 0)], iP 9 .id [kI 0], iP 10 .id [.c (.int .u32 0)]])
 .ret)))))
def f___ref06_Journal__record : IFn := ⟨90, 4, [.tmp 8, .tmp 9, .tmp 10], f___ref06_Journal__record_B⟩
def f_ref06_Need_B : ICode :=
 (.seq
 (.ops [ iP 2 .id [kI 0]])
 (.seq
 (.seq
 (.ops [ iP 3 .id [.t 0], iP 4 (.bin .lss) [.t 3, kI 1]])
 (.cond (.t 4)
 (.seq
 (.ops [ iP 2 .id [kI 0]])
 .ret)
 .skip))
 (.seq
 (.ops [ iP 5 .id [.t 0], iP 6 (.bin .sub) [.t 5, kI 1], iP 7 (.bin .quo) [.t 6, kI 46], iP 8 (.bin .add) [.t 7, kI 1], iP 2 .id [.t 8]])
 .ret)))
def f_ref06_Need : IFn := ⟨9, 0, [.tmp 2], f_ref06_Need_B⟩
def f___journal_Journal__leaves_B : ICode :=
 (.seq
 (.ops [ iP 1 (.box 0) [.t 0], iP 2 .id [.c (.nilFunc)]])
 (.seq
 (.ops [ iP 4 (.load 1 false) [.t 1], iP 5 .nilCheck [.t 4], iP 6 (.fieldAddr 7) [.t 5], iP 7 (.load 1 false) [.t 6], iP 3 (.alloc 1 [(.int .i64 0)] []) [], iN (.store 1 false) [.t 3, .t 7]])
 (.seq
 (.ops [ iP 8 (.makeFunc "(*haberdash/journal.Journal).leaves$1" 0) [.t 3, .t 1], iP 2 .id [.t 8]])
 .ret)))
def f___journal_Journal__leaves : IFn := ⟨9, 2, [.tmp 2], f___journal_Journal__leaves_B⟩
def f___journal_Journal__leaves_1_B : ICode :=
 (.seq
 (.ops [ iP 2 (.alloc 1 [(.int .u32 0), (.int .u32 0), (.bool false), (.bool false), (.slice none 0 0)] []) [], iP 3 .id [.c (.bool false)]])
 (.seq
 (.seq
 (.draw [ iP 6 (.load 1 false) [.t 0], iP 7 (.load 1 false) [.t 1], iP 8 .nilCheck [.t 7], iP 9 (.fieldAddr 2) [.t 8], iP 10 (.load 1 false) [.t 9], iP 11 (.bin .geq) [.t 6, .t 10]])
 (.cond (.t 11)
 (.seq
 (.ops [ iP 12 (.build [(.int .u32 0), (.int .u32 0), (.bool false), (.bool false), (.slice none 0 0)] []) [], iN (.store 5 false) [.t 2, .t 12], iP 3 .id [.c (.bool false)]])
 .ret)
 .skip))
 (.seq
 (.draw [
 ⟨some 14, .load 1 false, [.t 1], none, [2], [], false⟩, iP 15 .nilCheck [.t 14], iP 16 (.fieldAddr 0) [.t 15],
 ⟨some 17, .load 1 false, [.t 16], none, [2], [], false⟩,
 ⟨some 18, .load 1 false, [.t 1], none, [2], [], false⟩, iP 19 .nilCheck [.t 18], iP 20 (.fieldAddr 1) [.t 19],
 ⟨some 21, .load 1 false, [.t 20], none, [2], [], false⟩,
 ⟨some 22, .load 1 false, [.t 0], none, [2], [], false⟩, iP 23 (.bin .add) [.t 21, .t 22],
 ⟨some 24, .call "(*haberdash/disk.Disk).Read" [], [.t 17, .t 23], none, [2], [], false⟩, iP 13 .id [.t 24], iP 25 (.extract 0) [.t 13], iP 26 (.extract 1) [.t 13], iP 4 (.alloc 2 zeros64 []) [],
 ⟨none, .store 64 false, [.t 4, .t 25], none, [], [2], false⟩, iP 5 .id [.t 26]])
 (.seq
 (.ops [ iP 27 (.load 1 false) [.t 0], iP 28 (.bin .add) [.t 27, kI 1], iN (.store 1 false) [.t 0, .t 28]])
 (.seq
 (.seq
 (.ops [ iP 29 .id [.t 5], iP 30 (.bin .neq) [.t 29, kI 0]])
 (.cond (.t 30)
 (.seq
 (.ops [ iP 31 (.build [(.int .u32 0), (.int .u32 0), (.bool false), (.bool false), (.slice none 0 0)] []) [], iN (.store 5 false) [.t 2, .t 31], iP 3 .id [.c (.bool false)]])
 .ret)
 .skip))
 (.seq
 (.ops [ iP 32 (.load 64 true) [.t 4], iP 33 (.call "haberdash/leaf.Take" [0]) [.t 32], iP 34 (.extract 0) [.t 33], iP 35 (.extract 1) [.t 33], iN (.store 5 false) [.t 2, .t 34], iP 3 .id [.t 35]])
 .ret))))))
def f___journal_Journal__leaves_1 : IFn := ⟨36, 3, [.cell 2 5 true, .tmp 3], f___journal_Journal__leaves_1_B⟩
end Go.AM
