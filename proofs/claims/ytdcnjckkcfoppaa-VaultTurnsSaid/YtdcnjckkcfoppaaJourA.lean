import Derived.Test.YtdcnjckkcfoppaaAMA
import Derived.Test.YtdcnjckkcfoppaaCrc
import Derived.Test.YtdcnjckkcfoppaaLeafA
import Derived.Test.YtdcnjckkcfoppaaHelp
import Derived.Test.YtdcnjckkcfoppaaScopeA
import Derived.Test.YtdcnjckkcfoppaaSortA
import Derived.Test.YtdcnjckkcfoppaaPackA
import Derived.Test.YtdcnjckkcfoppaaDiskA
set_option linter.unusedVariables false
set_option linter.unusedSimpArgs false
namespace Go.AM
def f_law08_JournalNeeds_L0 : ICode :=
 (.seq
 (.seq
 (.ops [ iP 39 .id [.t 11], iP 40 .id [.t 1], iP 41 .lenSlice [.t 40], iP 42 (.bin .lss) [.t 39, .t 41], iP 43 .id [.t 42], iG 43 true 44 .id [.t 11], iG 43 true 45 (.bin .lss) [.t 44, kI 30], iP 46 .pick [.t 43, .t 45, .c (.bool false)]])
 (.cond (.t 46)
 .skip
 (.exit 0)))
 (.seq
 (.block 1
 (.seq
 (.ops [ iP 49 .id [.t 1], iP 50 .id [.t 11], iP 51 (.indexAddr 1) [.t 49, .t 50], iP 52 (.load 1 false) [.t 51], iP 53 (.call "haberdash/haberdashplay.Mod" []) [.t 52, kI 200], iP 54 (.bin .add) [kI 1, .t 53], iP 12 .id [.t 54]])
 (.seq
 (.ops [ iP 55 .id [.t 12], iP 56 (.bin .add) [.t 55, kI 45], iP 57 (.bin .quo) [.t 56, kI 46], iP 13 .id [.t 57]])
 (.seq
 (.ops [ iP 58 .id [.t 7], iP 59 .id [.t 12], iP 60 (.makeSlice 6 1 1 [(.int .u8 0)]) [.t 59, .t 59], iP 61 (.call "(*haberdash/journal.Journal).Add" []) [.t 58, .t 60], iP 14 .id [.t 61]])
 (.seq
 (.seq
 (.ops [ iP 62 .id [.t 12], iP 63 (.call "haberdash/journal.Need" []) [.t 62], iP 64 .id [.t 13], iP 65 (.bin .neq) [.t 63, .t 64], iP 66 .id [.t 65], iG 66 false 67 .id [.t 14], iG 66 false 68 (.bin .eql) [.t 67, kI 0], iG 66 false 69 .id [.t 9], iG 66 false 70 .id [.t 13], iG 66 false 71 (.bin .add) [.t 69, .t 70], iG 66 false 72 .id [.t 0], iG 66 false 73 (.bin .leq) [.t 71, .t 72], iG 66 false 74 (.eqBool true) [.t 68, .t 73], iP 75 .pick [.t 66, .c (.bool true), .t 74], iP 76 .id [.t 75], iG 76 false 77 .id [.t 14], iG 76 false 78 (.bin .neq) [.t 77, kI 0], iG 76 false 79 .id [.t 78], iG 79 true 80 .id [.t 14], iG 79 true 81 (.bin .neq) [.t 80, kI 6], iG 76 false 82 .pick [.t 79, .t 81, .c (.bool false)], iP 83 .pick [.t 76, .c (.bool true), .t 82]])
 (.cond (.t 83)
 (.seq
 (.ops [ iP 4 .id [.c (.bool false)]])
 .ret)
 .skip))
 (.seq
 (.seq
 (.ops [ iP 84 .id [.t 14], iP 85 (.bin .eql) [.t 84, kI 0]])
 (.cond (.t 85)
 (.ops [ iP 86 .id [.t 9], iP 87 .id [.t 13], iP 88 (.bin .add) [.t 86, .t 87], iP 89 .id [.t 10], iP 90 (.bin .add) [.t 89, kI 1], iP 9 .id [.t 88], iP 10 .id [.t 90]])
 .skip))
 (.seq
 (.ops [ iP 91 .id [.t 7], iP 92 (.call "(*haberdash/journal.Journal).Used" []) [.t 91], iP 93 .id [.t 9], iP 94 (.bin .neq) [.t 92, .t 93], iP 95 .id [.t 94], iG 95 false 96 .id [.t 7], iG 95 false 97 (.call "(*haberdash/journal.Journal).Records" [7]) [.t 96], iG 95 false 98 .lenSlice [.t 97], iG 95 false 99 .id [.t 10], iG 95 false 100 (.bin .neq) [.t 98, .t 99], iP 101 .pick [.t 95, .c (.bool true), .t 100]])
 (.cond (.t 101)
 (.seq
 (.ops [ iP 4 .id [.c (.bool false)]])
 .ret)
 .skip))))))))
 (.ops [ iP 47 .id [.t 11], iP 48 (.bin .add) [.t 47, kI 1], iP 11 .id [.t 48]])))
def f_law08_JournalNeeds_B : ICode :=
 (.seq
 (.ops [ iP 4 .id [.c (.bool false)]])
 (.seq
 (.ops [ iP 15 .id [.t 0], iP 16 (.call "haberdash/haberdashplay.Mod" []) [.t 15, kI 20], iP 17 (.bin .add) [kI 1, .t 16], iP 0 .id [.t 17]])
 (.seq
 (.ops [ iP 19 .id [.t 0], iP 20 (.call "haberdash/disk.New" [0, 1, 2, 3]) [.t 19], iP 18 .id [.t 20], iP 21 (.extract 0) [.t 18], iP 22 (.extract 1) [.t 18], iP 5 .id [.t 21], iP 6 .id [.t 22]])
 (.seq
 (.ops [ iP 24 .id [.t 5], iP 25 .id [.t 0], iP 26 (.call "haberdash/journal.New" [4, 5]) [.t 24, kI 0, .t 25, .c (.int .u32 1)], iP 23 .id [.t 26], iP 27 (.extract 0) [.t 23], iP 28 (.extract 1) [.t 23], iP 7 .id [.t 27], iP 8 .id [.t 28]])
 (.seq
 (.seq
 (.ops [ iP 29 (.call "haberdash/haberdashlaw08.awake" []) [], iP 30 (.un .not) [.t 29], iP 31 .id [.t 30], iG 31 false 32 .id [.t 8], iG 31 false 33 (.bin .neq) [.t 32, kI 0], iP 34 .pick [.t 31, .c (.bool true), .t 33], iP 35 .id [.t 34], iG 35 false 36 .id [.t 7], iG 35 false 37 (.eqNil false .ptr) [.t 36, .c (.pointer none)], iP 38 .pick [.t 35, .c (.bool true), .t 37]])
 (.cond (.t 38)
 (.seq
 (.ops [ iP 4 .id [.c (.bool false)]])
 .ret)
 .skip))
 (.seq
 (.ops [ iP 9 .id [kI 0], iP 10 .id [kI 0]])
 (.seq
 (.seq
 (.ops [ iP 11 .id [kI 0]])
 (.block 0
 (.loop [2, 3, 4, 5, 6, 8, 12, 13, 14, 15, 16, 17, 18, 19, 20, 21, 22, 23, 24, 25, 26, 27, 28, 29, 30, 31, 32, 33, 34, 35, 36, 37, 38, 39, 40, 41, 42, 43, 44, 45, 46, 47, 48, 49, 50, 51, 52, 53, 54, 55, 56, 57, 58, 59, 60, 61, 62, 63, 64, 65, 66, 67, 68, 69, 70, 71, 72, 73, 74, 75, 76, 77, 78, 79, 80, 81, 82, 83, 84, 85, 86, 87, 88, 89, 90, 91, 92, 93, 94, 95, 96, 97, 98, 99, 100, 101, 102, 103, 104, 105, 106, 107, 108] [6, 7] f_law08_JournalNeeds_L0)))
 (.seq
 (.ops [ iP 102 .id [.t 7], iP 103 (.call "(*haberdash/journal.Journal).Add" []) [.t 102, .c (.slice none 0 0)], iP 104 (.bin .eql) [.t 103, kI 2], iP 105 .id [.t 104], iG 105 true 106 (.call "haberdash/journal.Need" []) [kI 0], iG 105 true 107 (.bin .eql) [.t 106, kI 0], iP 108 .pick [.t 105, .t 107, .c (.bool false)], iP 4 .id [.t 108]])
 .ret))))))))
def f_law08_JournalNeeds : IFn := ⟨109, 8, [.tmp 4], f_law08_JournalNeeds_B⟩
def f_law08_JournalSkips_B : ICode :=
 (.seq
 (.ops [ iP 4 .id [.c (.bool false)]])
 (.seq
 (.seq
 (.ops [ iP 15 .id [.t 0], iP 16 .lenSlice [.t 15], iP 17 (.bin .gtr) [.t 16, kI 10], iP 18 .id [.t 17], iG 18 false 19 .id [.t 1], iG 18 false 20 .lenSlice [.t 19], iG 18 false 21 (.bin .gtr) [.t 20, kI 10], iP 22 .pick [.t 18, .c (.bool true), .t 21]])
 (.cond (.t 22)
 (.seq
 (.ops [ iP 23 (.call "haberdash/haberdashlaw08.awake" []) [], iP 4 .id [.t 23]])
 .ret)
 .skip))
 (.seq
 (.ops [ iP 25 (.call "haberdash/disk.New" [0, 1, 2, 3]) [kI 90], iP 24 .id [.t 25], iP 26 (.extract 0) [.t 24], iP 27 (.extract 1) [.t 24], iP 5 .id [.t 26], iP 6 .id [.t 27]])
 (.seq
 (.ops [ iP 29 .id [.t 5], iP 30 (.call "haberdash/journal.New" [4, 5]) [.t 29, kI 0, kI 90, .c (.int .u32 3)], iP 28 .id [.t 30], iP 31 (.extract 0) [.t 28], iP 32 (.extract 1) [.t 28], iP 7 .id [.t 31], iP 8 .id [.t 32]])
 (.seq
 (.seq
 (.ops [ iP 33 (.call "haberdash/haberdashlaw08.awake" []) [], iP 34 (.un .not) [.t 33], iP 35 .id [.t 34], iG 35 false 36 .id [.t 8], iG 35 false 37 (.bin .neq) [.t 36, kI 0], iP 38 .pick [.t 35, .c (.bool true), .t 37], iP 39 .id [.t 38], iG 39 false 40 .id [.t 7], iG 39 false 41 (.eqNil false .ptr) [.t 40, .c (.pointer none)], iP 42 .pick [.t 39, .c (.bool true), .t 41]])
 (.cond (.t 42)
 (.seq
 (.ops [ iP 4 .id [.c (.bool false)]])
 .ret)
 .skip))
 (.seq
 (.ops [ iP 43 .id [.t 7], iP 44 .id [.t 0], iP 45 (.call "haberdash/haberdashlaw08.put" [6]) [.t 43, .c (.slice none 0 0), .t 44]])
 (.seq
 (.ops [ iP 47 .id [.t 5], iP 48 (.call "haberdash/journal.New" [7, 8]) [.t 47, kI 0, kI 90, .c (.int .u32 4)], iP 46 .id [.t 48], iP 49 (.extract 0) [.t 46], iP 50 (.extract 1) [.t 46], iP 9 .id [.t 49], iP 10 .id [.t 50]])
 (.seq
 (.seq
 (.ops [ iP 51 .id [.t 10], iP 52 (.bin .neq) [.t 51, kI 0], iP 53 .id [.t 52], iG 53 false 54 .id [.t 9], iG 53 false 55 (.eqNil false .ptr) [.t 54, .c (.pointer none)], iP 56 .pick [.t 53, .c (.bool true), .t 55]])
 (.cond (.t 56)
 (.seq
 (.ops [ iP 4 .id [.c (.bool false)]])
 .ret)
 .skip))
 (.seq
 (.ops [ iP 58 .id [.t 9], iP 59 .id [.t 1], iP 60 (.call "haberdash/haberdashlaw08.put" [9]) [.t 58, .c (.slice none 0 0), .t 59], iP 57 .id [.t 60], iP 61 (.extract 0) [.t 57], iP 62 (.extract 1) [.t 57], iP 11 .id [.t 61], iP 12 .id [.t 62]])
 (.seq
 (.ops [ iP 64 .id [.t 5], iP 65 (.call "haberdash/journal.Open" [10, 11]) [.t 64, kI 0, kI 90, .c (.int .u32 5)], iP 63 .id [.t 65], iP 66 (.extract 0) [.t 63], iP 67 (.extract 1) [.t 63], iP 13 .id [.t 66], iP 14 .id [.t 67]])
 (.seq
 (.seq
 (.ops [ iP 68 .id [.t 14], iP 69 (.bin .neq) [.t 68, kI 0], iP 70 .id [.t 69], iG 70 false 71 .id [.t 13], iG 70 false 72 (.eqNil false .ptr) [.t 71, .c (.pointer none)], iP 73 .pick [.t 70, .c (.bool true), .t 72], iP 74 .id [.t 73], iG 74 false 75 .id [.t 12], iG 74 false 76 .id [.t 11], iG 74 false 77 .lenSlice [.t 76], iG 74 false 78 (.bin .neq) [.t 75, .t 77], iP 79 .pick [.t 74, .c (.bool true), .t 78]])
 (.cond (.t 79)
 (.seq
 (.ops [ iP 4 .id [.c (.bool false)]])
 .ret)
 .skip))
 (.seq
 (.seq
 (.ops [ iP 80 .id [.t 12], iP 81 (.bin .eql) [.t 80, kI 0]])
 (.cond (.t 81)
 (.seq
 (.ops [ iP 82 .id [.t 13], iP 83 (.call "(*haberdash/journal.Journal).Records" [12]) [.t 82], iP 84 .lenSlice [.t 83], iP 85 .id [.t 0], iP 86 .lenSlice [.t 85], iP 87 (.bin .eql) [.t 84, .t 86], iP 4 .id [.t 87]])
 .ret)
 .skip))
 (.seq
 (.ops [ iP 88 .id [.t 13], iP 89 (.call "(*haberdash/journal.Journal).Records" [13]) [.t 88], iP 90 .id [.t 11], iP 91 (.call "haberdash/haberdashhelp.Rows" []) [.t 89, .t 90], iP 92 .id [.t 91], iG 92 true 93 .id [.t 13], iG 92 true 94 (.call "(*haberdash/journal.Journal).First" []) [.t 93], iG 92 true 95 (.bin .eql) [.t 94, .c (.int .u32 4)], iP 96 .pick [.t 92, .t 95, .c (.bool false)], iP 4 .id [.t 96]])
 .ret)))))))))))))
def f_law08_JournalSkips : IFn := ⟨97, 14, [.tmp 4], f_law08_JournalSkips_B⟩
def f_law08_JournalErrors_B : ICode :=
 (.seq
 (.ops [ iP 8 .id [.c (.bool false)]])
 (.seq
 (.ops [ iP 24 (.call "haberdash/disk.New" [0, 1, 2, 3]) [kI 10], iP 23 .id [.t 24], iP 25 (.extract 0) [.t 23], iP 26 (.extract 1) [.t 23], iP 9 .id [.t 25], iP 10 .id [.t 26]])
 (.seq
 (.ops [ iP 27 (.call "haberdash/haberdashref06.New" [4, 5, 6, 7]) [kI 10], iP 11 .id [.t 27]])
 (.seq
 (.seq
 (.ops [ iP 28 (.call "haberdash/haberdashlaw08.awake" []) [], iP 29 (.un .not) [.t 28], iP 30 .id [.t 29], iG 30 false 31 .id [.t 9], iG 30 false 32 (.eqNil false .ptr) [.t 31, .c (.pointer none)], iP 33 .pick [.t 30, .c (.bool true), .t 32]])
 (.cond (.t 33)
 (.seq
 (.ops [ iP 8 .id [.c (.bool false)]])
 .ret)
 .skip))
 (.seq
 (.seq
 (.ops [ iP 34 .id [.t 3]])
 (.cond (.t 34)
 (.seq
 (.ops [ iP 35 .id [.t 9], iP 36 (.call "(*haberdash/disk.Disk).Crash" []) [.t 35, .c (.slice none 0 0)]])
 (.ops [ iP 37 .id [.t 11], iP 38 (.call "(*haberdash/haberdashref06.Disk).Crash" []) [.t 37, .c (.slice none 0 0)]]))
 .skip))
 (.seq
 (.ops [ iP 40 .id [.t 9], iP 41 .id [.t 0], iP 42 .id [.t 1], iP 43 .id [.t 2], iP 44 (.call "haberdash/journal.New" [8, 9]) [.t 40, .t 41, .t 42, .t 43], iP 39 .id [.t 44], iP 45 (.extract 0) [.t 39], iP 46 (.extract 1) [.t 39], iP 12 .id [.t 45], iP 13 .id [.t 46]])
 (.seq
 (.ops [ iP 48 .id [.t 9], iP 49 .id [.t 0], iP 50 .id [.t 1], iP 51 .id [.t 2], iP 52 (.call "haberdash/journal.Open" [10, 11]) [.t 48, .t 49, .t 50, .t 51], iP 47 .id [.t 52], iP 53 (.extract 0) [.t 47], iP 54 (.extract 1) [.t 47], iP 14 .id [.t 53], iP 15 .id [.t 54]])
 (.seq
 (.ops [ iP 56 .id [.t 11], iP 57 .id [.t 0], iP 58 .id [.t 1], iP 59 .id [.t 2], iP 60 (.call "haberdash/haberdashref06.Blank" [12, 13]) [.t 56, .t 57, .t 58, .t 59], iP 55 .id [.t 60], iP 61 (.extract 0) [.t 55], iP 62 (.extract 1) [.t 55], iP 16 .id [.t 61], iP 17 .id [.t 62]])
 (.seq
 (.ops [ iP 64 .id [.t 0], iP 65 .id [.t 1], iP 66 .id [.t 2], iP 67 (.call "haberdash/journal.New" [14, 15]) [.c (.pointer none), .t 64, .t 65, .t 66], iP 63 .id [.t 67], iP 68 (.extract 0) [.t 63], iP 69 (.extract 1) [.t 63], iP 18 .id [.t 68], iP 19 .id [.t 69]])
 (.seq
 (.ops [ iP 71 .id [.t 0], iP 72 .id [.t 1], iP 73 .id [.t 2], iP 74 (.call "haberdash/journal.Open" [16, 17]) [.c (.pointer none), .t 71, .t 72, .t 73], iP 70 .id [.t 74], iP 75 (.extract 0) [.t 70], iP 76 (.extract 1) [.t 70], iP 20 .id [.t 75], iP 21 .id [.t 76]])
 (.seq
 (.ops [ iP 22 .id [.c (.pointer none)]])
 (.seq
 (.ops [ iP 77 .id [.t 13], iP 78 .id [.t 17], iP 79 (.bin .eql) [.t 77, .t 78], iP 80 .id [.t 79], iG 80 true 81 .id [.t 15], iG 80 true 82 .id [.t 17], iG 80 true 83 (.bin .eql) [.t 81, .t 82], iP 84 .pick [.t 80, .t 83, .c (.bool false)], iP 85 .id [.t 84], iG 85 true 86 .id [.t 12], iG 85 true 87 (.eqNil false .ptr) [.t 86, .c (.pointer none)], iG 85 true 88 .id [.t 13], iG 85 true 89 (.bin .neq) [.t 88, kI 0], iG 85 true 90 (.eqBool false) [.t 87, .t 89], iP 91 .pick [.t 85, .t 90, .c (.bool false)], iP 92 .id [.t 91], iG 92 true 93 .id [.t 14], iG 92 true 94 (.eqNil false .ptr) [.t 93, .c (.pointer none)], iG 92 true 95 .id [.t 15], iG 92 true 96 (.bin .neq) [.t 95, kI 0], iG 92 true 97 (.eqBool false) [.t 94, .t 96], iP 98 .pick [.t 92, .t 97, .c (.bool false)], iP 99 .id [.t 98], iG 99 true 100 .id [.t 19], iG 99 true 101 (.bin .eql) [.t 100, kI 1], iP 102 .pick [.t 99, .t 101, .c (.bool false)], iP 103 .id [.t 102], iG 103 true 104 .id [.t 21], iG 103 true 105 (.bin .eql) [.t 104, kI 1], iP 106 .pick [.t 103, .t 105, .c (.bool false)], iP 107 .id [.t 106], iG 107 true 108 .id [.t 22], iG 107 true 109 (.buildSlice 18 false 1 1 [(.int .u8 0)] [(0, 1)]) [.c (.int .u8 1)], iG 107 true 110 (.call "(*haberdash/journal.Journal).Add" []) [.t 108, .t 109], iG 107 true 111 (.bin .eql) [.t 110, kI 1], iP 112 .pick [.t 107, .t 111, .c (.bool false)], iP 113 .id [.t 112], iG 113 true 114 .id [.t 22], iG 113 true 115 (.call "(*haberdash/journal.Journal).Records" [19]) [.t 114], iG 113 true 116 .lenSlice [.t 115], iG 113 true 117 (.bin .eql) [.t 116, kI 0], iP 118 .pick [.t 113, .t 117, .c (.bool false)], iP 119 .id [.t 118], iG 119 true 120 .id [.t 22], iG 119 true 121 (.call "(*haberdash/journal.Journal).First" []) [.t 120], iG 119 true 122 (.bin .eql) [.t 121, .c (.int .u32 0)], iP 123 .pick [.t 119, .t 122, .c (.bool false)], iP 124 .id [.t 123], iG 124 true 125 .id [.t 22], iG 124 true 126 (.call "(*haberdash/journal.Journal).Used" []) [.t 125], iG 124 true 127 (.bin .eql) [.t 126, kI 0], iP 128 .pick [.t 124, .t 127, .c (.bool false)], iP 8 .id [.t 128]])
 .ret))))))))))))
def f_law08_JournalErrors : IFn := ⟨129, 20, [.tmp 8], f_law08_JournalErrors_B⟩
def f_law08_JournalPlays_L0 : ICode :=
 (.seq
 (.seq
 (.ops [ iP 68 .id [.t 15], iP 69 .id [.t 2], iP 70 .lenSlice [.t 69], iP 71 (.bin .lss) [.t 68, .t 70], iP 72 .id [.t 71], iG 72 true 73 .id [.t 15], iG 72 true 74 (.bin .lss) [.t 73, kI 40], iP 75 .pick [.t 72, .t 74, .c (.bool false)]])
 (.cond (.t 75)
 .skip
 (.exit 0)))
 (.seq
 (.block 1
 (.seq
 (.ops [ iP 78 .id [.t 2], iP 79 .id [.t 15], iP 80 (.indexAddr 4) [.t 78, .t 79], iP 81 (.load 4 true) [.t 80], iP 16 (.alloc 12 [(.int .i64 0), (.int .i64 0), (.slice none 0 0), (.slice none 0 0)] []) [], iN (.store 4 false) [.t 16, .t 81]])
 (.seq
 (.seq
 (.ops [ iP 82 (.fieldAddr 2) [.t 16], iP 83 (.load 1 false) [.t 82], iP 84 .lenSlice [.t 83], iP 85 (.bin .gtr) [.t 84, kI 300], iP 86 .id [.t 85], iG 86 false 87 (.fieldAddr 3) [.t 16], iG 86 false 88 (.load 1 false) [.t 87], iG 86 false 89 .lenSlice [.t 88], iG 86 false 90 (.bin .gtr) [.t 89, kI 40], iP 91 .pick [.t 86, .c (.bool true), .t 90]])
 (.cond (.t 91)
 (.seq
 (.ops [ iP 6 .id [.c (.bool true)]])
 .ret)
 .skip))
 (.seq
 (.seq
 (.ops [ iP 92 (.fieldAddr 0) [.t 16], iP 93 (.load 1 false) [.t 92], iP 94 (.call "haberdash/haberdashplay.Mod" []) [.t 93, kI 7]])
 (.block 2
 (.seq
 (.ops [ iP 114 (.bin .eql) [.t 94, kI 3], iP 113 .id [.t 114]])
 (.cond (.t 113)
 (.seq
 (.ops [ iP 115 .id [.t 7], iP 116 (.fieldAddr 1) [.t 16], iP 117 (.load 1 false) [.t 116], iP 118 (.call "(*haberdash/disk.Disk).Arm" []) [.t 115, .t 117]])
 (.ops [ iP 119 .id [.t 9], iP 120 (.fieldAddr 1) [.t 16], iP 121 (.load 1 false) [.t 120], iP 122 (.call "(*haberdash/haberdashref06.Disk).Arm" []) [.t 119, .t 121]]))
 (.seq
 (.seq
 (.ops [ iP 124 (.bin .eql) [.t 94, kI 4], iP 123 .id [.t 124]])
 (.cond (.t 123)
 .skip
 (.seq
 (.ops [ iP 125 (.bin .eql) [.t 94, kI 5], iP 123 .id [.t 125]])
 (.cond (.t 123)
 .skip
 (.ops [ iP 126 (.bin .eql) [.t 94, kI 6], iP 123 .id [.t 126]])))))
 (.cond (.t 123)
 (.seq
 (.seq
 (.ops [ iP 127 (.fieldAddr 0) [.t 16], iP 128 (.load 1 false) [.t 127], iP 129 (.call "haberdash/haberdashplay.Mod" []) [.t 128, kI 7], iP 130 (.bin .eql) [.t 129, kI 6]])
 (.cond (.t 130)
 (.seq
 (.ops [ iP 17 (.alloc 13 zeros64 []) []])
 (.seq
 (.draw [ iP 131 (.sliceArr 64 1 false false false) [.t 17], iP 132 (.fieldAddr 2) [.t 16], iP 133 (.load 1 false) [.t 132],
 ⟨some 134, .copy 1, [.t 131, .t 133], none, [], [13], false⟩])
 (.seq
 (.draw [ iP 135 .id [.t 7], iP 136 (.fieldAddr 1) [.t 16], iP 137 (.load 1 false) [.t 136], iP 138 .id [.t 0], iP 139 .id [.t 1], iP 140 (.bin .add) [.t 138, .t 139], iP 141 (.bin .add) [.t 140, kI 2], iP 142 (.call "haberdash/haberdashplay.Mod" []) [.t 137, .t 141], iP 143 (.load 64 true) [.t 17],
 ⟨some 144, .call "(*haberdash/disk.Disk).Write" [], [.t 135, .t 142, .t 143], none, [], [0, 1, 2, 3], false⟩, iP 145 .id [.t 9], iP 146 (.fieldAddr 1) [.t 16],
 ⟨some 147, .load 1 false, [.t 146], none, [0, 1, 2, 3], [], false⟩, iP 148 .id [.t 0], iP 149 .id [.t 1], iP 150 (.bin .add) [.t 148, .t 149], iP 151 (.bin .add) [.t 150, kI 2], iP 152 (.call "haberdash/haberdashplay.Mod" []) [.t 147, .t 151],
 ⟨some 153, .load 64 true, [.t 17], none, [0, 1, 2, 3], [], false⟩,
 ⟨some 154, .call "(*haberdash/haberdashref06.Disk).Write" [], [.t 145, .t 152, .t 153], none, [], [4, 5, 6, 7], false⟩, iP 155 (.bin .neq) [.t 144, .t 154]])
 (.cond (.t 155)
 (.seq
 (.ops [ iP 6 .id [.c (.bool false)]])
 .ret)
 .skip))))
 (.seq
 (.ops [ iP 156 .id [.t 7], iP 157 (.fieldAddr 3) [.t 16], iP 158 (.load 1 false) [.t 157], iP 159 (.call "(*haberdash/disk.Disk).Crash" []) [.t 156, .t 158]])
 (.ops [ iP 160 .id [.t 9], iP 161 (.fieldAddr 3) [.t 16], iP 162 (.load 1 false) [.t 161], iP 163 (.call "(*haberdash/haberdashref06.Disk).Crash" []) [.t 160, .t 162]]))))
 (.seq
 (.ops [ iP 164 .id [.t 7], iP 165 (.call "(*haberdash/disk.Disk).Start" []) [.t 164]])
 (.seq
 (.ops [ iP 166 .id [.t 9], iP 167 (.call "(*haberdash/haberdashref06.Disk).Start" []) [.t 166]])
 (.seq
 (.ops [ iP 168 .id [.t 10], iP 169 (.bin .add) [.t 168, .c (.int .u32 1)], iP 10 .id [.t 169]])
 (.seq
 (.seq
 (.ops [ iP 170 (.fieldAddr 0) [.t 16], iP 171 (.load 1 false) [.t 170], iP 172 (.call "haberdash/haberdashplay.Mod" []) [.t 171, kI 7], iP 173 (.bin .eql) [.t 172, kI 5]])
 (.cond (.t 173)
 (.seq
 (.ops [ iP 175 .id [.t 7], iP 176 .id [.t 1], iP 177 .id [.t 0], iP 178 .id [.t 10], iP 179 (.call "haberdash/journal.New" [14, 15]) [.t 175, .t 176, .t 177, .t 178], iP 174 .id [.t 179], iP 180 (.extract 0) [.t 174], iP 181 (.extract 1) [.t 174], iP 11 .id [.t 180], iP 12 .id [.t 181]])
 (.post [(14, 8), (15, 9), (16, 10), (17, 11)]
 (.ops [ iP 183 .id [.t 9], iP 184 .id [.t 1], iP 185 .id [.t 0], iP 186 .id [.t 10], iP 187 (.call "haberdash/haberdashref06.Blank" [16, 17]) [.t 183, .t 184, .t 185, .t 186], iP 182 .id [.t 187], iP 188 (.extract 0) [.t 182], iP 189 (.extract 1) [.t 182], iP 13 .id [.t 188], iP 14 .id [.t 189]])))
 (.seq
 (.ops [ iP 191 .id [.t 7], iP 192 .id [.t 1], iP 193 .id [.t 0], iP 194 .id [.t 10], iP 195 (.call "haberdash/journal.Open" [18, 19]) [.t 191, .t 192, .t 193, .t 194], iP 190 .id [.t 195], iP 196 (.extract 0) [.t 190], iP 197 (.extract 1) [.t 190], iP 11 .id [.t 196], iP 12 .id [.t 197]])
 (.post [(18, 8), (19, 9), (20, 10), (21, 11)]
 (.ops [ iP 199 .id [.t 9], iP 200 .id [.t 1], iP 201 .id [.t 0], iP 202 .id [.t 10], iP 203 (.call "haberdash/haberdashref06.Open" [20, 21]) [.t 199, .t 200, .t 201, .t 202], iP 198 .id [.t 203], iP 204 (.extract 0) [.t 198], iP 205 (.extract 1) [.t 198], iP 13 .id [.t 204], iP 14 .id [.t 205]])))))
 (.seq
 (.ops [ iP 206 .id [.t 12], iP 207 .id [.t 14], iP 208 (.bin .neq) [.t 206, .t 207], iP 209 .id [.t 208], iG 209 false 210 .id [.t 12], iG 209 false 211 (.bin .neq) [.t 210, kI 0], iP 212 .pick [.t 209, .c (.bool true), .t 211], iP 213 .id [.t 212], iG 213 false 214 .id [.t 11], iG 213 false 215 (.eqNil false .ptr) [.t 214, .c (.pointer none)], iP 216 .pick [.t 213, .c (.bool true), .t 215]])
 (.cond (.t 216)
 (.seq
 (.ops [ iP 6 .id [.c (.bool false)]])
 .ret)
 .skip)))))))
 (.seq
 (.ops [ iP 95 (.fieldAddr 2) [.t 16], iP 96 (.load 1 false) [.t 95], iP 97 (.call "haberdash/haberdashhelp.Own[byte]" [22]) [.t 96, .c (.int .u8 71)], iP 18 .id [.t 97]])
 (.seq
 (.draw [ iP 98 .id [.t 11], iP 99 .id [.t 18],
 ⟨some 100, .call "(*haberdash/journal.Journal).Add" [], [.t 98, .t 99], none, [12], [8, 9, 0, 1, 2, 3, 14, 15, 18, 19, 22], true⟩, iP 101 .id [.t 13], iP 102 (.fieldAddr 2) [.t 16], iP 103 (.loadAt 12 1 false) [.t 102],
 ⟨some 104, .call "(*haberdash/haberdashref06.Journal).Add" [], [.t 101, .t 103], none, [], [10, 11, 4, 5, 6, 7, 16, 17, 20, 21], true⟩, iP 105 (.bin .neq) [.t 100, .t 104], iP 106 .id [.t 105], iG 106 false 107 .id [.t 18], iG 106 false 108 (.fieldAddr 2) [.t 16], iG 106 false 109 (.loadAt 12 1 false) [.t 108], iG 106 false 110 (.call "haberdash/haberdashhelp.Kept[byte]" []) [.t 107, .t 109, .c (.int .u8 71)], iG 106 false 111 (.un .not) [.t 110], iP 112 .pick [.t 106, .c (.bool true), .t 111]])
 (.cond (.t 112)
 (.seq
 (.ops [ iP 6 .id [.c (.bool false)]])
 .ret)
 .skip)))))))))
 (.seq
 (.ops [ iP 217 .id [.t 11], iP 218 .id [.t 13], iP 219 (.call "haberdash/haberdashlaw08.alike" []) [.t 217, .t 218], iP 220 (.un .not) [.t 219]])
 (.cond (.t 220)
 (.seq
 (.ops [ iP 6 .id [.c (.bool false)]])
 .ret)
 .skip))))))
 (.ops [ iP 76 .id [.t 15], iP 77 (.bin .add) [.t 76, kI 1], iP 15 .id [.t 77]])))
def f_law08_JournalPlays_B : ICode :=
 (.seq
 (.ops [ iP 6 .id [.c (.bool false)]])
 (.seq
 (.ops [ iP 19 .id [.t 0], iP 20 (.call "haberdash/haberdashplay.Mod" []) [.t 19, kI 14], iP 21 (.bin .add) [kI 1, .t 20], iP 22 .id [.t 1], iP 23 (.call "haberdash/haberdashplay.Mod" []) [.t 22, kI 3], iP 0 .id [.t 21], iP 1 .id [.t 23]])
 (.seq
 (.ops [ iP 25 .id [.t 0], iP 26 .id [.t 1], iP 27 (.bin .add) [.t 25, .t 26], iP 28 (.bin .add) [.t 27, kI 2], iP 29 (.call "haberdash/disk.New" [0, 1, 2, 3]) [.t 28], iP 24 .id [.t 29], iP 30 (.extract 0) [.t 24], iP 31 (.extract 1) [.t 24], iP 7 .id [.t 30], iP 8 .id [.t 31]])
 (.seq
 (.ops [ iP 32 .id [.t 0], iP 33 .id [.t 1], iP 34 (.bin .add) [.t 32, .t 33], iP 35 (.bin .add) [.t 34, kI 2], iP 36 (.call "haberdash/haberdashref06.New" [4, 5, 6, 7]) [.t 35], iP 9 .id [.t 36]])
 (.seq
 (.ops [ iP 10 .id [.c (.int .u32 1)]])
 (.seq
 (.ops [ iP 38 .id [.t 7], iP 39 .id [.t 1], iP 40 .id [.t 0], iP 41 .id [.t 10], iP 42 (.call "haberdash/journal.New" [8, 9]) [.t 38, .t 39, .t 40, .t 41], iP 37 .id [.t 42], iP 43 (.extract 0) [.t 37], iP 44 (.extract 1) [.t 37], iP 11 .id [.t 43], iP 12 .id [.t 44]])
 (.seq
 (.ops [ iP 46 .id [.t 9], iP 47 .id [.t 1], iP 48 .id [.t 0], iP 49 .id [.t 10], iP 50 (.call "haberdash/haberdashref06.Blank" [10, 11]) [.t 46, .t 47, .t 48, .t 49], iP 45 .id [.t 50], iP 51 (.extract 0) [.t 45], iP 52 (.extract 1) [.t 45], iP 13 .id [.t 51], iP 14 .id [.t 52]])
 (.seq
 (.seq
 (.ops [ iP 53 (.call "haberdash/haberdashlaw08.awake" []) [], iP 54 (.un .not) [.t 53], iP 55 .id [.t 54], iG 55 false 56 .id [.t 12], iG 55 false 57 .id [.t 14], iG 55 false 58 (.bin .neq) [.t 56, .t 57], iP 59 .pick [.t 55, .c (.bool true), .t 58], iP 60 .id [.t 59], iG 60 false 61 .id [.t 12], iG 60 false 62 (.bin .neq) [.t 61, kI 0], iP 63 .pick [.t 60, .c (.bool true), .t 62], iP 64 .id [.t 63], iG 64 false 65 .id [.t 11], iG 64 false 66 (.eqNil false .ptr) [.t 65, .c (.pointer none)], iP 67 .pick [.t 64, .c (.bool true), .t 66]])
 (.cond (.t 67)
 (.seq
 (.ops [ iP 6 .id [.c (.bool false)]])
 .ret)
 .skip))
 (.seq
 (.seq
 (.ops [ iP 15 .id [kI 0]])
 (.block 0
 (.loop [3, 4, 5, 6, 8, 12, 14, 16, 17, 18, 19, 20, 21, 22, 23, 24, 25, 26, 27, 28, 29, 30, 31, 32, 33, 34, 35, 36, 37, 38, 39, 40, 41, 42, 43, 44, 45, 46, 47, 48, 49, 50, 51, 52, 53, 54, 55, 56, 57, 58, 59, 60, 61, 62, 63, 64, 65, 66, 67, 68, 69, 70, 71, 72, 73, 74, 75, 76, 77, 78, 79, 80, 81, 82, 83, 84, 85, 86, 87, 88, 89, 90, 91, 92, 93, 94, 95, 96, 97, 98, 99, 100, 101, 102, 103, 104, 105, 106, 107, 108, 109, 110, 111, 112, 113, 114, 115, 116, 117, 118, 119, 120, 121, 122, 123, 124, 125, 126, 127, 128, 129, 130, 131, 132, 133, 134, 135, 136, 137, 138, 139, 140, 141, 142, 143, 144, 145, 146, 147, 148, 149, 150, 151, 152, 153, 154, 155, 156, 157, 158, 159, 160, 161, 162, 163, 164, 165, 166, 167, 168, 169, 170, 171, 172, 173, 174, 175, 176, 177, 178, 179, 180, 181, 182, 183, 184, 185, 186, 187, 188, 189, 190, 191, 192, 193, 194, 195, 196, 197, 198, 199, 200, 201, 202, 203, 204, 205, 206, 207, 208, 209, 210, 211, 212, 213, 214, 215, 216, 217, 218, 219, 220] [12, 13, 14, 15, 16, 17, 18, 19, 20, 21, 22] f_law08_JournalPlays_L0)))
 (.seq
 (.ops [ iP 6 .id [.c (.bool true)]])
 .ret))))))))))
def f_law08_JournalPlays : IFn := ⟨221, 23, [.tmp 6], f_law08_JournalPlays_B⟩
def f_law08_JournalKeeps_L0 : ICode :=
 (.seq
 (.seq
 (.ops [ iP 71 .id [.t 19], iP 72 (.bin .lss) [.t 71, kI 2]])
 (.cond (.t 72)
 .skip
 (.exit 0)))
 (.seq
 (.block 1
 (.seq
 (.ops [ iP 75 .id [.t 13], iP 76 .id [.t 2], iP 77 (.call "(*haberdash/disk.Disk).Crash" []) [.t 75, .t 76]])
 (.seq
 (.ops [ iP 78 .id [.t 13], iP 79 (.call "(*haberdash/disk.Disk).Start" []) [.t 78]])
 (.seq
 (.ops [ iP 81 .id [.t 13], iP 82 .id [.t 19], iP 83 (.bin .add) [kI 2, .t 82], iP 84 (.convInt .u32) [.t 83], iP 85 (.call "haberdash/journal.Open" [7, 8]) [.t 81, kI 0, kI 90, .t 84], iP 80 .id [.t 85], iP 86 (.extract 0) [.t 80], iP 87 (.extract 1) [.t 80], iP 20 .id [.t 86], iP 21 .id [.t 87]])
 (.seq
 (.seq
 (.ops [ iP 88 .id [.t 21], iP 89 (.bin .neq) [.t 88, kI 0], iP 90 .id [.t 89], iG 90 false 91 .id [.t 20], iG 90 false 92 (.eqNil false .ptr) [.t 91, .c (.pointer none)], iP 93 .pick [.t 90, .c (.bool true), .t 92]])
 (.cond (.t 93)
 (.seq
 (.ops [ iP 12 .id [.c (.bool false)]])
 .ret)
 .skip))
 (.seq
 (.ops [ iP 94 .id [.t 20], iP 95 (.call "(*haberdash/journal.Journal).Records" [9]) [.t 94], iP 22 .id [.t 95]])
 (.seq
 (.seq
 (.ops [ iP 96 .id [.t 22], iP 97 .lenSlice [.t 96], iP 98 .id [.t 18], iP 99 (.bin .lss) [.t 97, .t 98], iP 100 .id [.t 99], iG 100 false 101 .id [.t 22], iG 100 false 102 .lenSlice [.t 101], iG 100 false 103 .id [.t 18], iG 100 false 104 (.bin .add) [.t 103, kI 1], iG 100 false 105 (.bin .gtr) [.t 102, .t 104], iP 106 .pick [.t 100, .c (.bool true), .t 105], iP 107 .id [.t 106], iG 107 false 108 .id [.t 22], iG 107 false 109 .lenSlice [.t 108], iG 107 false 110 .id [.t 17], iG 107 false 111 .lenSlice [.t 110], iG 107 false 112 (.bin .gtr) [.t 109, .t 111], iP 113 .pick [.t 107, .c (.bool true), .t 112], iP 114 .id [.t 113], iG 114 false 115 .id [.t 22], iG 114 false 116 .id [.t 17], iG 114 false 117 .id [.t 22], iG 114 false 118 .lenSlice [.t 117], iG 114 false 119 (.slice 1 false true false) [.t 116, .t 118], iG 114 false 120 (.call "haberdash/haberdashhelp.Rows" []) [.t 115, .t 119], iG 114 false 121 (.un .not) [.t 120], iP 122 .pick [.t 114, .c (.bool true), .t 121]])
 (.cond (.t 122)
 (.seq
 (.ops [ iP 12 .id [.c (.bool false)]])
 .ret)
 .skip))
 (.seq
 (.ops [ iP 123 .id [.t 13], iP 124 .id [.t 4], iP 125 (.call "haberdash/haberdashplay.Mod" []) [.t 124, kI 60], iP 126 (.call "(*haberdash/disk.Disk).Arm" []) [.t 123, .t 125]])
 (.seq
 (.post [(9, 6)]
 (.ops [ iP 128 .id [.t 20], iP 129 .id [.t 22], iP 130 .id [.t 3], iP 131 (.call "haberdash/haberdashlaw08.put" [10]) [.t 128, .t 129, .t 130], iP 127 .id [.t 131], iP 132 (.extract 0) [.t 127], iP 133 (.extract 1) [.t 127], iP 17 .id [.t 132], iP 18 .id [.t 133]]))
 (.ops [ iP 134 .id [.t 5], iP 2 .id [.t 134]]))))))))))
 (.ops [ iP 73 .id [.t 19], iP 74 (.bin .add) [.t 73, kI 1], iP 19 .id [.t 74]])))
def f_law08_JournalKeeps_B : ICode :=
 (.seq
 (.ops [ iP 12 .id [.c (.bool false)]])
 (.seq
 (.seq
 (.ops [ iP 23 .id [.t 0], iP 24 .lenSlice [.t 23], iP 25 (.bin .gtr) [.t 24, kI 12], iP 26 .id [.t 25], iG 26 false 27 .id [.t 3], iG 26 false 28 .lenSlice [.t 27], iG 26 false 29 (.bin .gtr) [.t 28, kI 12], iP 30 .pick [.t 26, .c (.bool true), .t 29], iP 31 .id [.t 30], iG 31 false 32 .id [.t 2], iG 31 false 33 .lenSlice [.t 32], iG 31 false 34 (.bin .gtr) [.t 33, kI 40], iP 35 .pick [.t 31, .c (.bool true), .t 34], iP 36 .id [.t 35], iG 36 false 37 .id [.t 5], iG 36 false 38 .lenSlice [.t 37], iG 36 false 39 (.bin .gtr) [.t 38, kI 40], iP 40 .pick [.t 36, .c (.bool true), .t 39]])
 (.cond (.t 40)
 (.seq
 (.ops [ iP 41 (.call "haberdash/haberdashlaw08.awake" []) [], iP 12 .id [.t 41]])
 .ret)
 .skip))
 (.seq
 (.ops [ iP 43 (.call "haberdash/disk.New" [0, 1, 2, 3]) [kI 90], iP 42 .id [.t 43], iP 44 (.extract 0) [.t 42], iP 45 (.extract 1) [.t 42], iP 13 .id [.t 44], iP 14 .id [.t 45]])
 (.seq
 (.ops [ iP 47 .id [.t 13], iP 48 (.call "haberdash/journal.New" [4, 5]) [.t 47, kI 0, kI 90, .c (.int .u32 1)], iP 46 .id [.t 48], iP 49 (.extract 0) [.t 46], iP 50 (.extract 1) [.t 46], iP 15 .id [.t 49], iP 16 .id [.t 50]])
 (.seq
 (.seq
 (.ops [ iP 51 (.call "haberdash/haberdashlaw08.awake" []) [], iP 52 (.un .not) [.t 51], iP 53 .id [.t 52], iG 53 false 54 .id [.t 16], iG 53 false 55 (.bin .neq) [.t 54, kI 0], iP 56 .pick [.t 53, .c (.bool true), .t 55], iP 57 .id [.t 56], iG 57 false 58 .id [.t 15], iG 57 false 59 (.eqNil false .ptr) [.t 58, .c (.pointer none)], iP 60 .pick [.t 57, .c (.bool true), .t 59]])
 (.cond (.t 60)
 (.seq
 (.ops [ iP 12 .id [.c (.bool false)]])
 .ret)
 .skip))
 (.seq
 (.ops [ iP 61 .id [.t 13], iP 62 .id [.t 1], iP 63 (.call "haberdash/haberdashplay.Mod" []) [.t 62, kI 60], iP 64 (.call "(*haberdash/disk.Disk).Arm" []) [.t 61, .t 63]])
 (.seq
 (.ops [ iP 66 .id [.t 15], iP 67 .id [.t 0], iP 68 (.call "haberdash/haberdashlaw08.put" [6]) [.t 66, .c (.slice none 0 0), .t 67], iP 65 .id [.t 68], iP 69 (.extract 0) [.t 65], iP 70 (.extract 1) [.t 65], iP 17 .id [.t 69], iP 18 .id [.t 70]])
 (.seq
 (.seq
 (.ops [ iP 19 .id [kI 0]])
 (.block 0
 (.loop [0, 1, 6, 7, 8, 9, 10, 11, 12, 14, 15, 16, 20, 21, 22, 23, 24, 25, 26, 27, 28, 29, 30, 31, 32, 33, 34, 35, 36, 37, 38, 39, 40, 41, 42, 43, 44, 45, 46, 47, 48, 49, 50, 51, 52, 53, 54, 55, 56, 57, 58, 59, 60, 61, 62, 63, 64, 65, 66, 67, 68, 69, 70, 71, 72, 73, 74, 75, 76, 77, 78, 79, 80, 81, 82, 83, 84, 85, 86, 87, 88, 89, 90, 91, 92, 93, 94, 95, 96, 97, 98, 99, 100, 101, 102, 103, 104, 105, 106, 107, 108, 109, 110, 111, 112, 113, 114, 115, 116, 117, 118, 119, 120, 121, 122, 123, 124, 125, 126, 127, 128, 129, 130, 131, 132, 133, 134] [7, 8, 9, 10] f_law08_JournalKeeps_L0)))
 (.seq
 (.ops [ iP 12 .id [.c (.bool true)]])
 .ret)))))))))
def f_law08_JournalKeeps : IFn := ⟨135, 11, [.tmp 12], f_law08_JournalKeeps_B⟩
def f_journal_New_B : ICode :=
 (.seq
 (.ops [ iP 8 .id [.c (.pointer none)], iP 9 .id [kI 0]])
 (.seq
 (.block 0
 (.seq
 (.ops [ iP 11 .id [.t 0], iP 12 (.eqNil false .ptr) [.t 11, .c (.pointer none)], iP 10 .id [.t 12]])
 (.cond (.t 10)
 (.seq
 (.ops [ iP 8 .id [.c (.pointer none)], iP 9 .id [kI 1]])
 .ret)
 (.seq
 (.ops [ iP 14 .id [.t 1], iP 15 (.bin .lss) [.t 14, kI 0], iP 16 .id [.t 15], iG 16 false 17 .id [.t 2], iG 16 false 18 (.bin .lss) [.t 17, kI 1], iP 19 .pick [.t 16, .c (.bool true), .t 18], iP 20 .id [.t 19], iG 20 false 21 .id [.t 2], iG 20 false 22 .id [.t 0], iG 20 false 23 (.call "(*haberdash/disk.Disk).Len" []) [.t 22], iG 20 false 24 .id [.t 1], iG 20 false 25 (.bin .sub) [.t 23, .t 24], iG 20 false 26 (.bin .gtr) [.t 21, .t 25], iP 27 .pick [.t 20, .c (.bool true), .t 26], iP 28 .id [.t 27], iG 28 false 29 .id [.t 3], iG 28 false 30 (.bin .eql) [.t 29, .c (.int .u32 0)], iP 31 .pick [.t 28, .c (.bool true), .t 30], iP 13 .id [.t 31]])
 (.cond (.t 13)
 (.seq
 (.ops [ iP 8 .id [.c (.pointer none)], iP 9 .id [kI 2]])
 .ret)
 (.seq
 (.ops [ iP 33 .id [.t 0], iP 34 (.call "(*haberdash/disk.Disk).Down" []) [.t 33], iP 32 .id [.t 34]])
 (.cond (.t 32)
 (.seq
 (.ops [ iP 8 .id [.c (.pointer none)], iP 9 .id [kI 9]])
 .ret)
 .skip)))))))
 (.seq
 (.ops [ iP 35 .id [.t 0], iP 36 .id [.t 1], iP 37 .id [.t 2], iP 38 .id [.t 3], iP 39 (.build [(.pointer none), (.int .i64 0), (.int .i64 0), (.int .u32 0), (.int .u32 0), (.int .u32 0), (.slice none 0 0), (.int .i64 0), (.bool false)] [(0, 1), (1, 1), (2, 1), (3, 1)]) [.t 35, .t 36, .t 37, .t 38], iP 40 (.boxK 1 [(6, 0, 1)]) [.t 39], iP 8 .id [.t 40], iP 9 .id [kI 0]])
 .ret)))
def f_journal_New : IFn := ⟨41, 2, [.tmp 8, .tmp 9], f_journal_New_B⟩
def f_law08_awake_B : ICode :=
 (.seq
 (.ops [ iP 0 .id [.c (.bool false)]])
 (.seq
 (.ops [ iP 7 (.call "haberdash/disk.New" [0, 1, 2, 3]) [kI 3], iP 6 .id [.t 7], iP 8 (.extract 0) [.t 6], iP 9 (.extract 1) [.t 6], iP 1 .id [.t 8], iP 2 .id [.t 9]])
 (.seq
 (.ops [ iP 11 .id [.t 1], iP 12 (.call "haberdash/journal.New" [4, 5]) [.t 11, kI 0, kI 3, .c (.int .u32 1)], iP 10 .id [.t 12], iP 13 (.extract 0) [.t 10], iP 14 (.extract 1) [.t 10], iP 3 .id [.t 13], iP 4 .id [.t 14]])
 (.seq
 (.ops [ iP 15 .id [.t 3], iP 16 (.makeSlice 6 1 1 [(.int .u8 0)]) [kI 47, kI 47], iP 17 (.call "(*haberdash/journal.Journal).Add" []) [.t 15, .t 16], iP 5 .id [.t 17]])
 (.seq
 (.ops [ iP 18 .id [.t 4], iP 19 (.bin .eql) [.t 18, kI 0], iP 20 .id [.t 19], iG 20 true 21 .id [.t 5], iG 20 true 22 (.bin .eql) [.t 21, kI 0], iP 23 .pick [.t 20, .t 22, .c (.bool false)], iP 24 .id [.t 23], iG 24 true 25 .id [.t 3], iG 24 true 26 (.call "(*haberdash/journal.Journal).Used" []) [.t 25], iG 24 true 27 (.bin .eql) [.t 26, kI 2], iP 28 .pick [.t 24, .t 27, .c (.bool false)], iP 29 .id [.t 28], iG 29 true 30 .id [.t 3], iG 29 true 31 (.call "(*haberdash/journal.Journal).Records" [7]) [.t 30], iG 29 true 32 .lenSlice [.t 31], iG 29 true 33 (.bin .eql) [.t 32, kI 1], iP 34 .pick [.t 29, .t 33, .c (.bool false)], iP 35 .id [.t 34], iG 35 true 36 .id [.t 3], iG 35 true 37 (.call "(*haberdash/journal.Journal).First" []) [.t 36], iG 35 true 38 (.bin .eql) [.t 37, .c (.int .u32 1)], iP 39 .pick [.t 35, .t 38, .c (.bool false)], iP 40 .id [.t 39], iG 40 true 41 (.call "haberdash/journal.Need" []) [kI 47], iG 40 true 42 (.bin .eql) [.t 41, kI 2], iP 43 .pick [.t 40, .t 42, .c (.bool false)], iP 0 .id [.t 43]])
 .ret)))))
def f_law08_awake : IFn := ⟨44, 8, [.tmp 0], f_law08_awake_B⟩
def f___journal_Journal__Add_B : ICode :=
 (.seq
 (.ops [ iP 4 .id [kI 0]])
 (.seq
 (.block 0
 (.seq
 (.ops [ iP 7 .id [.t 0], iP 8 (.eqNil false .ptr) [.t 7, .c (.pointer none)], iP 6 .id [.t 8]])
 (.cond (.t 6)
 (.seq
 (.ops [ iP 4 .id [kI 1]])
 .ret)
 (.seq
 (.ops [ iP 10 .id [.t 0], iP 11 .nilCheck [.t 10], iP 12 (.fieldAddr 8) [.t 11], iP 13 (.load 1 false) [.t 12], iP 14 .id [.t 13], iG 14 false 15 .id [.t 0], iG 14 false 16 .nilCheck [.t 15], iG 14 false 17 (.fieldAddr 0) [.t 16], iG 14 false 18 (.load 1 false) [.t 17], iG 14 false 19 (.call "(*haberdash/disk.Disk).Down" []) [.t 18], iP 20 .pick [.t 14, .c (.bool true), .t 19], iP 9 .id [.t 20]])
 (.cond (.t 9)
 (.seq
 (.ops [ iP 21 .id [.t 0], iP 22 .nilCheck [.t 21], iP 23 (.fieldAddr 8) [.t 22], iN (.store 1 false) [.t 23, .c (.bool true)]])
 (.seq
 (.ops [ iP 4 .id [kI 9]])
 .ret))
 (.seq
 (.ops [ iP 25 .id [.t 1], iP 26 .lenSlice [.t 25], iP 27 (.bin .lss) [.t 26, kI 1], iP 28 .id [.t 27], iG 28 false 29 .id [.t 1], iG 28 false 30 .lenSlice [.t 29], iG 28 false 31 (.bin .gtr) [.t 30, kI 400000], iP 32 .pick [.t 28, .c (.bool true), .t 31], iP 24 .id [.t 32]])
 (.cond (.t 24)
 (.seq
 (.ops [ iP 4 .id [kI 2]])
 .ret)
 (.seq
 (.draw [ iP 34 .id [.t 1], iP 35 .lenSlice [.t 34], iP 36 (.call "haberdash/journal.Need" []) [.t 35], iP 37 .id [.t 0], iP 38 .nilCheck [.t 37], iP 39 (.fieldAddr 2) [.t 38], iP 40 (.load 1 false) [.t 39], iP 41 .id [.t 0], iP 42 .nilCheck [.t 41], iP 43 (.fieldAddr 7) [.t 42], iP 44 (.load 1 false) [.t 43], iP 45 (.bin .sub) [.t 40, .t 44], iP 46 (.bin .gtr) [.t 36, .t 45], iP 33 .id [.t 46]])
 (.cond (.t 33)
 (.seq
 (.ops [ iP 4 .id [kI 6]])
 .ret)
 .skip)))))))))
 (.seq
 (.seq
 (.ops [ iP 47 .id [.t 0], iP 48 .id [.t 1], iP 49 (.call "(*haberdash/journal.Journal).lay" []) [.t 47, .t 48], iP 5 .id [.t 49]])
 (.seq
 (.ops [ iP 50 .id [.t 5], iP 51 (.bin .neq) [.t 50, kI 0]])
 (.cond (.t 51)
 (.seq
 (.ops [ iP 52 .id [.t 0], iP 53 .nilCheck [.t 52], iP 54 (.fieldAddr 8) [.t 53], iN (.store 1 false) [.t 54, .c (.bool true)]])
 (.seq
 (.ops [ iP 55 .id [.t 5], iP 4 .id [.t 55]])
 .ret))
 .skip)))
 (.seq
 (.ops [ iP 56 .id [.t 0], iP 57 .id [.t 1], iP 58 .id [.t 1], iP 59 .lenSlice [.t 58], iP 60 (.call "haberdash/journal.Need" []) [.t 59], iP 61 (.call "(*haberdash/journal.Journal).note" []) [.t 56, .t 57, .t 60]])
 (.seq
 (.ops [ iP 4 .id [kI 0]])
 .ret)))))
def f___journal_Journal__Add : IFn := ⟨62, 0, [.tmp 4], f___journal_Journal__Add_B⟩
def f_journal_Need_B : ICode :=
 (.seq
 (.ops [ iP 2 .id [kI 0]])
 (.seq
 (.seq
 (.ops [ iP 3 .id [.t 0], iP 4 (.bin .lss) [.t 3, kI 1]])
 (.cond (.t 4)
 (.seq
 (.ops [ iP 2 .id [kI 0]])
 .ret)
 .skip))
 (.seq
 (.ops [ iP 5 .id [.t 0], iP 6 (.bin .sub) [.t 5, kI 1], iP 7 (.bin .quo) [.t 6, kI 46], iP 8 (.bin .add) [.t 7, kI 1], iP 2 .id [.t 8]])
 .ret)))
def f_journal_Need : IFn := ⟨9, 0, [.tmp 2], f_journal_Need_B⟩
def f___journal_Journal__Used_B : ICode :=
 (.seq
 (.ops [ iP 2 .id [kI 0]])
 (.seq
 (.seq
 (.ops [ iP 3 .id [.t 0], iP 4 (.eqNil false .ptr) [.t 3, .c (.pointer none)]])
 (.cond (.t 4)
 (.seq
 (.ops [ iP 2 .id [kI 0]])
 .ret)
 .skip))
 (.seq
 (.ops [ iP 5 .id [.t 0], iP 6 .nilCheck [.t 5], iP 7 (.fieldAddr 7) [.t 6], iP 8 (.load 1 false) [.t 7], iP 2 .id [.t 8]])
 .ret)))
def f___journal_Journal__Used : IFn := ⟨9, 0, [.tmp 2], f___journal_Journal__Used_B⟩
def f___journal_Journal__Records_L0 : ICode :=
 (.seq
 (.ops [ iP 14 (.bin .lss) [.t 13, .t 12]])
 (.seq
 (.cond (.t 14)
 .skip
 (.exit 0))
 (.seq
 (.block 1
 (.seq
 (.ops [ iP 15 (.indexAddr 1) [.t 11, .t 13], iP 16 (.load 1 false) [.t 15], iP 5 .id [.t 16]])
 (.ops [ iP 17 .id [.t 3], iP 18 .id [.t 5], iP 19 (.call "bytes.Clone" [1]) [.t 18], iP 20 (.buildSlice 2 true 1 1 [(.slice none 0 0)] [(0, 1)]) [.t 19], iP 21 (.append 3 true 1 24) [.t 17, .t 20], iP 3 .id [.t 21]])))
 (.ops [ iP 22 (.bin .add) [.t 13, kI 1], iP 13 .id [.t 22]]))))
def f___journal_Journal__Records_H0 (t3 t11 t12 t13 : AV) : List AV := [.dead, .dead, .dead, t3, .dead, .dead, .dead, .dead, .dead, .dead, .dead, t11, t12, t13, .dead, .dead, .dead, .dead, .dead, .dead, .dead, .dead, .dead, .dead]
def f___journal_Journal__Records_B : ICode :=
 (.seq
 (.ops [ iP 2 .id [.c (.slice none 0 0)]])
 (.seq
 (.seq
 (.ops [ iP 6 .id [.t 0], iP 7 (.eqNil false .ptr) [.t 6, .c (.pointer none)]])
 (.cond (.t 7)
 (.seq
 (.ops [ iP 2 .id [.c (.slice none 0 0)]])
 .ret)
 .skip))
 (.seq
 (.ops [ iP 3 (.nilv 0 1) [.c (.slice none 0 0)]])
 (.seq
 (.seq
 (.ops [ iP 8 .id [.t 0], iP 9 .nilCheck [.t 8], iP 10 (.fieldAddr 6) [.t 9], iP 11 (.load 1 false) [.t 10], iP 12 .lenSlice [.t 11], iP 13 .id [kI 0]])
 (.block 0
 (.loop [0, 1, 2, 4, 5, 6, 7, 8, 9, 10, 14, 15, 16, 17, 18, 19, 20, 21, 22, 23] [1, 2, 3] f___journal_Journal__Records_L0)))
 (.seq
 (.ops [ iP 23 .id [.t 3], iP 2 .id [.t 23]])
 .ret)))))
def f___journal_Journal__Records : IFn := ⟨24, 4, [.tmp 2], f___journal_Journal__Records_B⟩
def f_law08_put_L0 : ICode :=
 (.seq
 (.seq
 (.ops [ iP 13 .id [.t 9], iP 14 .id [.t 2], iP 15 .lenSlice [.t 14], iP 16 (.bin .lss) [.t 13, .t 15]])
 (.cond (.t 16)
 .skip
 (.exit 0)))
 (.seq
 (.block 1
 (.seq
 (.draw [ iP 19 (.buildSlice 0 false 1 1 [(.int .u8 0)] [(0, 1)]) [.c (.int .u8 1)], iP 20 .id [.t 2], iP 21 .id [.t 9], iP 22 (.indexAddr 1) [.t 20, .t 21],
 ⟨some 23, .load 1 false, [.t 22], none, [0], [], false⟩, iP 24 .id [.t 2], iP 25 .id [.t 9], iP 26 (.indexAddr 1) [.t 24, .t 25],
 ⟨some 27, .load 1 false, [.t 26], none, [0], [], false⟩, iP 28 .lenSlice [.t 27], iP 29 .min [.t 28, kI 200], iP 30 (.slice 1 false true false) [.t 23, .t 29],
 ⟨some 31, .append 1 false 1 1, [.t 19, .t 30], none, [], [0], false⟩, iP 10 .id [.t 31]])
 (.seq
 (.ops [ iP 32 .id [.t 1], iP 33 .id [.t 10], iP 34 (.buildSlice 2 true 1 1 [(.slice none 0 0)] [(0, 1)]) [.t 33], iP 35 (.append 3 true 1 24) [.t 32, .t 34], iP 1 .id [.t 35]])
 (.seq
 (.seq
 (.ops [ iP 36 .id [.t 0], iP 37 .id [.t 10], iP 38 (.call "(*haberdash/journal.Journal).Add" []) [.t 36, .t 37], iP 39 (.bin .neq) [.t 38, kI 0]])
 (.cond (.t 39)
 (.seq
 (.ops [ iP 40 .id [.t 1], iP 41 .id [.t 8], iP 6 .id [.t 40], iP 7 .id [.t 41]])
 .ret)
 .skip))
 (.ops [ iP 42 .id [.t 8], iP 43 (.bin .add) [.t 42, kI 1], iP 8 .id [.t 43]])))))
 (.ops [ iP 17 .id [.t 9], iP 18 (.bin .add) [.t 17, kI 1], iP 9 .id [.t 18]])))
def f_law08_put_B : ICode :=
 (.seq
 (.ops [ iP 6 .id [.c (.slice none 0 0)], iP 7 .id [kI 0]])
 (.seq
 (.ops [ iP 11 .id [.t 1], iP 12 .lenSlice [.t 11], iP 8 .id [.t 12]])
 (.seq
 (.seq
 (.ops [ iP 9 .id [kI 0]])
 (.block 0
 (.loop [3, 4, 5, 6, 7, 10, 11, 12, 13, 14, 15, 16, 17, 18, 19, 20, 21, 22, 23, 24, 25, 26, 27, 28, 29, 30, 31, 32, 33, 34, 35, 36, 37, 38, 39, 40, 41, 42, 43, 44, 45] [0, 1, 2] f_law08_put_L0)))
 (.seq
 (.ops [ iP 44 .id [.t 1], iP 45 .id [.t 8], iP 6 .id [.t 44], iP 7 .id [.t 45]])
 .ret))))
def f_law08_put : IFn := ⟨46, 4, [.tmp 6, .tmp 7], f_law08_put_B⟩
def f_journal_Open_L0 : ICode :=
 (.seq
 (.seq
 (.ops [ iP 23 .id [.t 10], iP 24 (.call "(*haberdash/journal.Journal).take" []) [.t 23]])
 (.cond (.t 24)
 .skip
 (.exit 0)))
 (.block 1
 .skip))
def f_journal_Open_H0 (t3 t10 : AV) : List AV := [.dead, .dead, .dead, t3, .dead, .dead, .dead, .dead, .dead, .dead, t10, .dead, .dead, .dead, .dead, .dead, .dead, .dead, .dead, .dead, .dead, .dead, .dead, .dead, .dead, .dead, .dead, .dead, .dead, .dead]
def f_journal_Open_B : ICode :=
 (.seq
 (.ops [ iP 8 .id [.c (.pointer none)], iP 9 .id [kI 0]])
 (.seq
 (.ops [ iP 13 .id [.t 0], iP 14 .id [.t 1], iP 15 .id [.t 2], iP 16 .id [.t 3], iP 17 (.call "haberdash/journal.New" [0, 1]) [.t 13, .t 14, .t 15, .t 16], iP 12 .id [.t 17], iP 18 (.extract 0) [.t 12], iP 19 (.extract 1) [.t 12], iP 10 .id [.t 18], iP 11 .id [.t 19]])
 (.seq
 (.seq
 (.ops [ iP 20 .id [.t 11], iP 21 (.bin .neq) [.t 20, kI 0]])
 (.cond (.t 21)
 (.seq
 (.ops [ iP 22 .id [.t 11], iP 8 .id [.c (.pointer none)], iP 9 .id [.t 22]])
 .ret)
 .skip))
 (.seq
 (.block 0
 (.loop [0, 1, 2, 4, 5, 6, 7, 8, 9, 11, 12, 13, 14, 15, 16, 17, 18, 19, 20, 21, 22, 23, 24, 25, 26, 27, 28, 29] [] f_journal_Open_L0))
 (.seq
 (.ops [ iP 25 .id [.t 10], iP 26 .id [.t 3], iP 27 .nilCheck [.t 25], iP 28 (.fieldAddr 3) [.t 27], iN (.store 1 false) [.t 28, .t 26]])
 (.seq
 (.ops [ iP 29 .id [.t 10], iP 8 .id [.t 29], iP 9 .id [kI 0]])
 .ret))))))
def f_journal_Open : IFn := ⟨30, 2, [.tmp 8, .tmp 9], f_journal_Open_B⟩
def f_help_Rows_B : ICode :=
 (.seq
 (.ops [ iP 4 .id [.c (.bool false)]])
 (.seq
 (.ops [ iP 5 .id [.t 0], iP 6 .id [.t 1], iP 7 (.call "haberdash/haberdashhelp.Same[[]byte]" []) [.t 5, .t 6, .f "haberdash/haberdashhelp.Bytes"], iP 4 .id [.t 7]])
 .ret))
def f_help_Rows : IFn := ⟨8, 0, [.tmp 4], f_help_Rows_B⟩
def f___journal_Journal__First_B : ICode :=
 (.seq
 (.ops [ iP 2 .id [.c (.int .u32 0)]])
 (.seq
 (.seq
 (.ops [ iP 3 .id [.t 0], iP 4 (.eqNil false .ptr) [.t 3, .c (.pointer none)]])
 (.cond (.t 4)
 (.seq
 (.ops [ iP 2 .id [.c (.int .u32 0)]])
 .ret)
 .skip))
 (.seq
 (.ops [ iP 5 .id [.t 0], iP 6 .nilCheck [.t 5], iP 7 (.fieldAddr 5) [.t 6], iP 8 (.load 1 false) [.t 7], iP 2 .id [.t 8]])
 .ret)))
def f___journal_Journal__First : IFn := ⟨9, 0, [.tmp 2], f___journal_Journal__First_B⟩
def f_ref06_Blank_B : ICode :=
 (.seq
 (.ops [ iP 8 .id [.c (.pointer none)], iP 9 .id [kI 0]])
 (.seq
 (.seq
 (.ops [ iP 10 .id [.t 0], iP 11 (.eqNil false .ptr) [.t 10, .c (.pointer none)]])
 (.cond (.t 11)
 (.seq
 (.ops [ iP 8 .id [.c (.pointer none)], iP 9 .id [kI 1]])
 .ret)
 .skip))
 (.seq
 (.seq
 (.ops [ iP 12 .id [.t 1], iP 13 (.bin .lss) [.t 12, kI 0], iP 14 .id [.t 13], iG 14 false 15 .id [.t 2], iG 14 false 16 (.bin .lss) [.t 15, kI 1], iP 17 .pick [.t 14, .c (.bool true), .t 16], iP 18 .id [.t 17], iG 18 false 19 .id [.t 1], iG 18 false 20 .id [.t 0], iG 18 false 21 .nilCheck [.t 20], iG 18 false 22 (.fieldAddr 0) [.t 21], iG 18 false 23 (.load 1 false) [.t 22], iG 18 false 24 .lenSlice [.t 23], iG 18 false 25 (.bin .gtr) [.t 19, .t 24], iP 26 .pick [.t 18, .c (.bool true), .t 25], iP 27 .id [.t 26], iG 27 false 28 .id [.t 2], iG 27 false 29 .id [.t 0], iG 27 false 30 .nilCheck [.t 29], iG 27 false 31 (.fieldAddr 0) [.t 30], iG 27 false 32 (.load 1 false) [.t 31], iG 27 false 33 .lenSlice [.t 32], iG 27 false 34 .id [.t 1], iG 27 false 35 (.bin .sub) [.t 33, .t 34], iG 27 false 36 (.bin .gtr) [.t 28, .t 35], iP 37 .pick [.t 27, .c (.bool true), .t 36], iP 38 .id [.t 37], iG 38 false 39 .id [.t 3], iG 38 false 40 (.bin .eql) [.t 39, .c (.int .u32 0)], iP 41 .pick [.t 38, .c (.bool true), .t 40]])
 (.cond (.t 41)
 (.seq
 (.ops [ iP 8 .id [.c (.pointer none)], iP 9 .id [kI 2]])
 .ret)
 .skip))
 (.seq
 (.seq
 (.ops [ iP 42 .id [.t 0], iP 43 .nilCheck [.t 42], iP 44 (.fieldAddr 3) [.t 43], iP 45 (.load 1 false) [.t 44]])
 (.cond (.t 45)
 (.seq
 (.ops [ iP 8 .id [.c (.pointer none)], iP 9 .id [kI 9]])
 .ret)
 .skip))
 (.seq
 (.ops [ iP 46 .id [.t 0], iP 47 .id [.t 1], iP 48 .id [.t 2], iP 49 .id [.t 3], iP 50 (.build [(.pointer none), (.int .i64 0), (.int .i64 0), (.int .u32 0), (.slice none 0 0), (.int .u32 0), (.int .i64 0), (.bool false)] [(0, 1), (1, 1), (2, 1), (3, 1)]) [.t 46, .t 47, .t 48, .t 49], iP 51 (.boxK 1 [(4, 0, 1)]) [.t 50], iP 8 .id [.t 51], iP 9 .id [kI 0]])
 .ret)))))
def f_ref06_Blank : IFn := ⟨52, 2, [.tmp 8, .tmp 9], f_ref06_Blank_B⟩
def f_ref06_Open_L0 : ICode :=
 (.block 1
 (.seq
 (.draw [ iP 28 .id [.t 10], iP 29 .id [.t 10], iP 30 .nilCheck [.t 29], iP 31 (.fieldAddr 6) [.t 30], iP 32 (.load 1 false) [.t 31], iP 33 .id [.t 10], iP 34 .nilCheck [.t 33], iP 35 (.fieldAddr 4) [.t 34], iP 36 (.load 1 false) [.t 35], iP 37 .lenSlice [.t 36], iP 38 (.convInt .u32) [.t 37], iP 39 .id [.t 12], iP 40 (.call "(*haberdash/haberdashref06.Journal).record" [2]) [.t 28, .t 32, .t 38, .t 39], iP 27 .id [.t 40], iP 41 (.extract 0) [.t 27], iP 42 (.extract 1) [.t 27], iP 43 (.extract 2) [.t 27], iP 13 .id [.t 41], iP 14 .id [.t 42], iP 15 .id [.t 43]])
 (.seq
 (.seq
 (.ops [ iP 44 .id [.t 14], iP 45 (.bin .eql) [.t 44, kI 0]])
 (.cond (.t 45)
 (.seq
 (.ops [ iP 46 .id [.t 10], iP 8 .id [.t 46], iP 9 .id [kI 0]])
 .ret)
 .skip))
 (.seq
 (.seq
 (.ops [ iP 47 .id [.t 10], iP 48 .nilCheck [.t 47], iP 49 (.fieldAddr 4) [.t 48], iP 50 (.load 1 false) [.t 49], iP 51 .lenSlice [.t 50], iP 52 (.bin .eql) [.t 51, kI 0]])
 (.cond (.t 52)
 (.ops [ iP 53 .id [.t 10], iP 54 .id [.t 15], iP 55 .nilCheck [.t 53], iP 56 (.fieldAddr 5) [.t 55], iN (.store 1 false) [.t 56, .t 54]])
 .skip))
 (.seq
 (.ops [ iP 57 .id [.t 10], iP 58 .id [.t 10], iP 59 .nilCheck [.t 58], iP 60 (.fieldAddr 4) [.t 59], iP 61 (.load 1 false) [.t 60], iP 62 .id [.t 13], iP 63 (.buildSlice 3 true 1 1 [(.slice none 0 0)] [(0, 1)]) [.t 62], iP 64 (.append 4 true 1 24) [.t 61, .t 63], iP 65 .nilCheck [.t 57], iP 66 (.fieldAddr 4) [.t 65], iN (.store 1 false) [.t 66, .t 64]])
 (.ops [ iP 67 .id [.t 10], iP 68 .id [.t 10], iP 69 .nilCheck [.t 68], iP 70 (.fieldAddr 6) [.t 69], iP 71 (.load 1 false) [.t 70], iP 72 .id [.t 14], iP 73 (.bin .add) [.t 71, .t 72], iP 74 .id [.t 15], iP 75 .nilCheck [.t 67], iP 76 (.fieldAddr 6) [.t 75], iN (.store 1 false) [.t 76, .t 73], iP 12 .id [.t 74]]))))))
def f_ref06_Open_B : ICode :=
 (.seq
 (.ops [ iP 8 .id [.c (.pointer none)], iP 9 .id [kI 0]])
 (.seq
 (.ops [ iP 17 .id [.t 0], iP 18 .id [.t 1], iP 19 .id [.t 2], iP 20 .id [.t 3], iP 21 (.call "haberdash/haberdashref06.Blank" [0, 1]) [.t 17, .t 18, .t 19, .t 20], iP 16 .id [.t 21], iP 22 (.extract 0) [.t 16], iP 23 (.extract 1) [.t 16], iP 10 .id [.t 22], iP 11 .id [.t 23]])
 (.seq
 (.seq
 (.ops [ iP 24 .id [.t 11], iP 25 (.bin .neq) [.t 24, kI 0]])
 (.cond (.t 25)
 (.seq
 (.ops [ iP 26 .id [.t 11], iP 8 .id [.c (.pointer none)], iP 9 .id [.t 26]])
 .ret)
 .skip))
 (.seq
 (.ops [ iP 12 .id [.c (.int .u32 1)]])
 (.block 0
 (.loop [0, 1, 2, 3, 4, 5, 6, 7, 8, 9, 11, 13, 14, 15, 16, 17, 18, 19, 20, 21, 22, 23, 24, 25, 26, 27, 28, 29, 30, 31, 32, 33, 34, 35, 36, 37, 38, 39, 40, 41, 42, 43, 44, 45, 46, 47, 48, 49, 50, 51, 52, 53, 54, 55, 56, 57, 58, 59, 60, 61, 62, 63, 64, 65, 66, 67, 68, 69, 70, 71, 72, 73, 74, 75, 76] [2, 3, 4] f_ref06_Open_L0))))))
def f_ref06_Open : IFn := ⟨77, 5, [.tmp 8, .tmp 9], f_ref06_Open_B⟩
def f___ref06_Journal__Add_L0 : ICode :=
 (.seq
 (.seq
 (.ops [ iP 48 .id [.t 6], iP 49 .id [.t 5], iP 50 (.bin .lss) [.t 48, .t 49]])
 (.cond (.t 50)
 .skip
 (.exit 0)))
 (.seq
 (.block 1
 (.seq
 (.draw [ iP 53 .id [.t 0], iP 54 .nilCheck [.t 53], iP 55 (.fieldAddr 3) [.t 54],
 ⟨some 56, .load 1 false, [.t 55], none, [0], [], false⟩, iP 57 .id [.t 0], iP 58 .nilCheck [.t 57], iP 59 (.fieldAddr 4) [.t 58],
 ⟨some 60, .load 1 false, [.t 59], none, [0], [], false⟩, iP 61 .lenSlice [.t 60], iP 62 (.convInt .u32) [.t 61], iP 63 .id [.t 6], iP 64 (.bin .eql) [.t 63, kI 0], iP 65 .id [.t 6], iP 66 .id [.t 5], iP 67 (.bin .sub) [.t 66, kI 1], iP 68 (.bin .eql) [.t 65, .t 67], iP 69 .id [.t 1], iP 70 .id [.t 6], iP 71 (.bin .mul) [kI 46, .t 70], iP 72 .id [.t 6], iP 73 (.bin .mul) [kI 46, .t 72], iP 74 (.bin .add) [.t 73, kI 46], iP 75 .id [.t 1], iP 76 .lenSlice [.t 75], iP 77 .min [.t 74, .t 76], iP 78 (.slice 1 true true false) [.t 69, .t 71, .t 77], iP 79 (.build [(.int .u32 0), (.int .u32 0), (.bool false), (.bool false), (.slice none 0 0)] [(0, 1), (1, 1), (2, 1), (3, 1), (4, 1)]) [.t 56, .t 62, .t 64, .t 68, .t 78], iP 7 (.alloc 0 [(.int .u32 0), (.int .u32 0), (.bool false), (.bool false), (.slice none 0 0)] []) [],
 ⟨none, .store 5 false, [.t 7, .t 79], none, [], [0], false⟩])
 (.seq
 (.ops [ iP 81 (.load 5 true) [.t 7], iP 82 (.call "haberdash/haberdashref04.Lay" []) [.t 81], iP 80 .id [.t 82], iP 83 (.extract 0) [.t 80], iP 84 (.extract 1) [.t 80], iP 8 (.alloc 1 zeros64 []) [], iN (.store 64 false) [.t 8, .t 83], iP 9 .id [.t 84]])
 (.seq
 (.draw [ iP 85 .id [.t 0], iP 86 .nilCheck [.t 85], iP 87 (.fieldAddr 0) [.t 86], iP 88 (.load 1 false) [.t 87], iP 89 .id [.t 0], iP 90 .nilCheck [.t 89], iP 91 (.fieldAddr 1) [.t 90], iP 92 (.load 1 false) [.t 91], iP 93 .id [.t 0], iP 94 .nilCheck [.t 93], iP 95 (.fieldAddr 6) [.t 94], iP 96 (.load 1 false) [.t 95], iP 97 (.bin .add) [.t 92, .t 96], iP 98 .id [.t 6], iP 99 (.bin .add) [.t 97, .t 98], iP 100 (.load 64 true) [.t 8],
 ⟨some 101, .call "(*haberdash/haberdashref06.Disk).Write" [], [.t 88, .t 99, .t 100], none, [], [], true⟩, iP 102 (.bin .neq) [.t 101, kI 0]])
 (.cond (.t 102)
 (.seq
 (.ops [ iP 103 .id [.t 0], iP 104 .nilCheck [.t 103], iP 105 (.fieldAddr 7) [.t 104], iN (.store 1 false) [.t 105, .c (.bool true)]])
 (.seq
 (.ops [ iP 4 .id [kI 9]])
 .ret))
 .skip)))))
 (.ops [ iP 51 .id [.t 6], iP 52 (.bin .add) [.t 51, kI 1], iP 6 .id [.t 52]])))
def f___ref06_Journal__Add_B : ICode :=
 (.seq
 (.ops [ iP 4 .id [kI 0]])
 (.seq
 (.seq
 (.ops [ iP 10 .id [.t 0], iP 11 .nilCheck [.t 10], iP 12 (.fieldAddr 7) [.t 11], iP 13 (.load 1 false) [.t 12], iP 14 .id [.t 13], iG 14 false 15 .id [.t 0], iG 14 false 16 .nilCheck [.t 15], iG 14 false 17 (.fieldAddr 0) [.t 16], iG 14 false 18 (.load 1 false) [.t 17], iG 14 false 19 .nilCheck [.t 18], iG 14 false 20 (.fieldAddr 3) [.t 19], iG 14 false 21 (.load 1 false) [.t 20], iP 22 .pick [.t 14, .c (.bool true), .t 21]])
 (.cond (.t 22)
 (.seq
 (.ops [ iP 23 .id [.t 0], iP 24 .nilCheck [.t 23], iP 25 (.fieldAddr 7) [.t 24], iN (.store 1 false) [.t 25, .c (.bool true)]])
 (.seq
 (.ops [ iP 4 .id [kI 9]])
 .ret))
 .skip))
 (.seq
 (.seq
 (.ops [ iP 26 .id [.t 1], iP 27 .lenSlice [.t 26], iP 28 (.bin .lss) [.t 27, kI 1], iP 29 .id [.t 28], iG 29 false 30 .id [.t 1], iG 29 false 31 .lenSlice [.t 30], iG 29 false 32 (.bin .gtr) [.t 31, kI 400000], iP 33 .pick [.t 29, .c (.bool true), .t 32]])
 (.cond (.t 33)
 (.seq
 (.ops [ iP 4 .id [kI 2]])
 .ret)
 .skip))
 (.seq
 (.ops [ iP 34 .id [.t 1], iP 35 .lenSlice [.t 34], iP 36 (.call "haberdash/haberdashref06.Need" []) [.t 35], iP 5 .id [.t 36]])
 (.seq
 (.seq
 (.draw [ iP 37 .id [.t 5], iP 38 .id [.t 0], iP 39 .nilCheck [.t 38], iP 40 (.fieldAddr 2) [.t 39], iP 41 (.load 1 false) [.t 40], iP 42 .id [.t 0], iP 43 .nilCheck [.t 42], iP 44 (.fieldAddr 6) [.t 43], iP 45 (.load 1 false) [.t 44], iP 46 (.bin .sub) [.t 41, .t 45], iP 47 (.bin .gtr) [.t 37, .t 46]])
 (.cond (.t 47)
 (.seq
 (.ops [ iP 4 .id [kI 6]])
 .ret)
 .skip))
 (.seq
 (.seq
 (.ops [ iP 6 .id [kI 0]])
 (.block 0
 (.loop [2, 3, 4, 7, 8, 9, 10, 11, 12, 13, 14, 15, 16, 17, 18, 19, 20, 21, 22, 23, 24, 25, 26, 27, 28, 29, 30, 31, 32, 33, 34, 35, 36, 37, 38, 39, 40, 41, 42, 43, 44, 45, 46, 47, 48, 49, 50, 51, 52, 53, 54, 55, 56, 57, 58, 59, 60, 61, 62, 63, 64, 65, 66, 67, 68, 69, 70, 71, 72, 73, 74, 75, 76, 77, 78, 79, 80, 81, 82, 83, 84, 85, 86, 87, 88, 89, 90, 91, 92, 93, 94, 95, 96, 97, 98, 99, 100, 101, 102, 103, 104, 105, 106, 107, 108, 109, 110, 111, 112, 113, 114, 115, 116, 117, 118, 119, 120, 121, 122, 123, 124, 125, 126, 127, 128, 129, 130, 131, 132, 133, 134, 135, 136, 137, 138, 139, 140, 141, 142, 143, 144, 145, 146, 147] [0, 1] f___ref06_Journal__Add_L0)))
 (.seq
 (.seq
 (.ops [ iP 106 .id [.t 0], iP 107 .nilCheck [.t 106], iP 108 (.fieldAddr 0) [.t 107], iP 109 (.load 1 false) [.t 108], iP 110 (.call "(*haberdash/haberdashref06.Disk).Sync" []) [.t 109], iP 111 (.bin .neq) [.t 110, kI 0]])
 (.cond (.t 111)
 (.seq
 (.ops [ iP 112 .id [.t 0], iP 113 .nilCheck [.t 112], iP 114 (.fieldAddr 7) [.t 113], iN (.store 1 false) [.t 114, .c (.bool true)]])
 (.seq
 (.ops [ iP 4 .id [kI 9]])
 .ret))
 .skip))
 (.seq
 (.seq
 (.ops [ iP 115 .id [.t 0], iP 116 .nilCheck [.t 115], iP 117 (.fieldAddr 4) [.t 116], iP 118 (.load 1 false) [.t 117], iP 119 .lenSlice [.t 118], iP 120 (.bin .eql) [.t 119, kI 0]])
 (.cond (.t 120)
 (.ops [ iP 121 .id [.t 0], iP 122 .id [.t 0], iP 123 .nilCheck [.t 122], iP 124 (.fieldAddr 3) [.t 123], iP 125 (.load 1 false) [.t 124], iP 126 .nilCheck [.t 121], iP 127 (.fieldAddr 5) [.t 126], iN (.store 1 false) [.t 127, .t 125]])
 .skip))
 (.seq
 (.draw [ iP 128 .id [.t 0], iP 129 .id [.t 0], iP 130 .nilCheck [.t 129], iP 131 (.fieldAddr 4) [.t 130],
 ⟨some 132, .load 1 false, [.t 131], none, [2, 3], [], false⟩, iP 133 .id [.t 1], iP 134 (.append 2 false 1 1) [.c (.slice none 0 0), .t 133],
 ⟨some 135, .buildSlice 3 true 1 1 [(.slice none 0 0)] [(0, 1)], [.t 134], none, [], [2], false⟩,
 ⟨some 136, .append 4 true 1 24, [.t 132, .t 135], none, [], [], true⟩, iP 137 .nilCheck [.t 128], iP 138 (.fieldAddr 4) [.t 137],
 ⟨none, .store 1 false, [.t 138, .t 136], none, [], [], true⟩])
 (.seq
 (.ops [ iP 139 .id [.t 0], iP 140 .id [.t 0], iP 141 .nilCheck [.t 140], iP 142 (.fieldAddr 6) [.t 141], iP 143 (.load 1 false) [.t 142], iP 144 .id [.t 5], iP 145 (.bin .add) [.t 143, .t 144], iP 146 .nilCheck [.t 139], iP 147 (.fieldAddr 6) [.t 146], iN (.store 1 false) [.t 147, .t 145]])
 (.seq
 (.ops [ iP 4 .id [kI 0]])
 .ret)))))))))))
def f___ref06_Journal__Add : IFn := ⟨148, 5, [.tmp 4], f___ref06_Journal__Add_B⟩
def f_law08_alike_B : ICode :=
 (.seq
 (.ops [ iP 4 .id [.c (.bool false)]])
 (.seq
 (.draw [ iP 5 .id [.t 0], iP 6 (.call "(*haberdash/journal.Journal).Records" [0]) [.t 5], iP 7 .id [.t 1], iP 8 .nilCheck [.t 7], iP 9 (.fieldAddr 4) [.t 8],
 ⟨some 10, .load 1 false, [.t 9], none, [0], [], false⟩, iP 11 (.call "haberdash/haberdashhelp.Rows" []) [.t 6, .t 10], iP 12 .id [.t 11], iG 12 true 13 .id [.t 0], iG 12 true 14 (.call "(*haberdash/journal.Journal).First" []) [.t 13], iG 12 true 15 .id [.t 1], iG 12 true 16 .nilCheck [.t 15], iG 12 true 17 (.fieldAddr 5) [.t 16], iG 12 true 18 (.load 1 false) [.t 17], iG 12 true 19 (.bin .eql) [.t 14, .t 18], iP 20 .pick [.t 12, .t 19, .c (.bool false)], iP 21 .id [.t 20], iG 21 true 22 .id [.t 0], iG 21 true 23 (.call "(*haberdash/journal.Journal).Used" []) [.t 22], iG 21 true 24 .id [.t 1], iG 21 true 25 .nilCheck [.t 24], iG 21 true 26 (.fieldAddr 6) [.t 25], iG 21 true 27 (.load 1 false) [.t 26], iG 21 true 28 (.bin .eql) [.t 23, .t 27], iP 29 .pick [.t 21, .t 28, .c (.bool false)], iP 4 .id [.t 29]])
 .ret))
def f_law08_alike : IFn := ⟨30, 1, [.tmp 4], f_law08_alike_B⟩
def f___journal_Journal__lay_L0 : ICode :=
 (.seq
 (.ops [ iP 16 (.bin .lss) [.t 15, .t 14]])
 (.seq
 (.cond (.t 16)
 .skip
 (.exit 0))
 (.seq
 (.block 1
 (.seq
 (.ops [ iP 17 .id [.t 15], iP 6 .id [.t 17]])
 (.seq
 (.ops [ iP 18 .id [.t 1], iP 19 .id [.t 6], iP 20 (.bin .mul) [.t 19, kI 46], iP 21 .id [.t 6], iP 22 (.bin .add) [.t 21, kI 1], iP 23 (.bin .mul) [.t 22, kI 46], iP 24 .id [.t 1], iP 25 .lenSlice [.t 24], iP 26 .min [.t 23, .t 25], iP 27 (.slice 1 true true false) [.t 18, .t 20, .t 26], iP 7 .id [.t 27]])
 (.seq
 (.draw [ iP 29 .id [.t 0], iP 30 .nilCheck [.t 29], iP 31 (.fieldAddr 3) [.t 30],
 ⟨some 32, .load 1 false, [.t 31], none, [0], [], false⟩, iP 33 .id [.t 0], iP 34 .nilCheck [.t 33], iP 35 (.fieldAddr 6) [.t 34],
 ⟨some 36, .load 1 false, [.t 35], none, [0], [], false⟩, iP 37 .lenSlice [.t 36], iP 38 (.convInt .u32) [.t 37], iP 39 .id [.t 6], iP 40 (.bin .eql) [.t 39, kI 0], iP 41 .id [.t 6], iP 42 .id [.t 5], iP 43 (.bin .sub) [.t 42, kI 1], iP 44 (.bin .eql) [.t 41, .t 43], iP 45 .id [.t 7], iP 46 (.build [(.int .u32 0), (.int .u32 0), (.bool false), (.bool false), (.slice none 0 0)] [(0, 1), (1, 1), (2, 1), (3, 1), (4, 1)]) [.t 32, .t 38, .t 40, .t 44, .t 45],
 ⟨some 47, .call "haberdash/leaf.Lay" [], [.t 46], none, [0], [], false⟩, iP 28 .id [.t 47], iP 48 (.extract 0) [.t 28], iP 49 (.extract 1) [.t 28], iP 8 (.alloc 0 zeros64 []) [],
 ⟨none, .store 64 false, [.t 8, .t 48], none, [], [0], false⟩, iP 9 .id [.t 49]])
 (.seq
 (.seq
 (.ops [ iP 50 .id [.t 9], iP 51 (.bin .neq) [.t 50, kI 0]])
 (.cond (.t 51)
 (.seq
 (.ops [ iP 52 .id [.t 9], iP 4 .id [.t 52]])
 .ret)
 .skip))
 (.seq
 (.draw [ iP 53 .id [.t 0], iP 54 .nilCheck [.t 53], iP 55 (.fieldAddr 0) [.t 54], iP 56 (.load 1 false) [.t 55], iP 57 .id [.t 0], iP 58 .nilCheck [.t 57], iP 59 (.fieldAddr 1) [.t 58], iP 60 (.load 1 false) [.t 59], iP 61 .id [.t 0], iP 62 .nilCheck [.t 61], iP 63 (.fieldAddr 7) [.t 62], iP 64 (.load 1 false) [.t 63], iP 65 (.bin .add) [.t 60, .t 64], iP 66 .id [.t 6], iP 67 (.bin .add) [.t 65, .t 66], iP 68 (.load 64 true) [.t 8],
 ⟨some 69, .call "(*haberdash/disk.Disk).Write" [], [.t 56, .t 67, .t 68], none, [], [], true⟩, iP 10 .id [.t 69]])
 (.seq
 (.ops [ iP 70 .id [.t 10], iP 71 (.bin .neq) [.t 70, kI 0]])
 (.cond (.t 71)
 (.seq
 (.ops [ iP 72 .id [.t 10], iP 4 .id [.t 72]])
 .ret)
 .skip))))))))
 (.ops [ iP 73 (.bin .add) [.t 15, kI 1], iP 15 .id [.t 73]]))))
def f___journal_Journal__lay_H0 (t0 t1 t5 t14 t15 : AV) : List AV := [t0, t1, .dead, .dead, .dead, t5, .dead, .dead, .dead, .dead, .dead, .dead, .dead, .dead, t14, t15, .dead, .dead, .dead, .dead, .dead, .dead, .dead, .dead, .dead, .dead, .dead, .dead, .dead, .dead, .dead, .dead, .dead, .dead, .dead, .dead, .dead, .dead, .dead, .dead, .dead, .dead, .dead, .dead, .dead, .dead, .dead, .dead, .dead, .dead, .dead, .dead, .dead, .dead, .dead, .dead, .dead, .dead, .dead, .dead, .dead, .dead, .dead, .dead, .dead, .dead, .dead, .dead, .dead, .dead, .dead, .dead, .dead, .dead, .dead, .dead, .dead, .dead, .dead]
def f___journal_Journal__lay_B : ICode :=
 (.seq
 (.ops [ iP 4 .id [kI 0]])
 (.seq
 (.ops [ iP 11 .id [.t 1], iP 12 .lenSlice [.t 11], iP 13 (.call "haberdash/journal.Need" []) [.t 12], iP 5 .id [.t 13]])
 (.seq
 (.seq
 (.ops [ iP 14 .id [.t 5], iP 15 .id [kI 0]])
 (.block 0
 (.loop [2, 3, 4, 6, 7, 8, 9, 10, 11, 12, 13, 16, 17, 18, 19, 20, 21, 22, 23, 24, 25, 26, 27, 28, 29, 30, 31, 32, 33, 34, 35, 36, 37, 38, 39, 40, 41, 42, 43, 44, 45, 46, 47, 48, 49, 50, 51, 52, 53, 54, 55, 56, 57, 58, 59, 60, 61, 62, 63, 64, 65, 66, 67, 68, 69, 70, 71, 72, 73, 74, 75, 76, 77, 78] [0] f___journal_Journal__lay_L0)))
 (.seq
 (.ops [ iP 74 .id [.t 0], iP 75 .nilCheck [.t 74], iP 76 (.fieldAddr 0) [.t 75], iP 77 (.load 1 false) [.t 76], iP 78 (.call "(*haberdash/disk.Disk).Sync" []) [.t 77], iP 4 .id [.t 78]])
 .ret))))
def f___journal_Journal__lay : IFn := ⟨79, 1, [.tmp 4], f___journal_Journal__lay_B⟩
def f___journal_Journal__note_B : ICode :=
 (.seq
 (.seq
 (.ops [ iP 6 .id [.t 0], iP 7 .nilCheck [.t 6], iP 8 (.fieldAddr 6) [.t 7], iP 9 (.load 1 false) [.t 8], iP 10 .lenSlice [.t 9], iP 11 (.bin .eql) [.t 10, kI 0]])
 (.cond (.t 11)
 (.ops [ iP 12 .id [.t 0], iP 13 .id [.t 0], iP 14 .nilCheck [.t 13], iP 15 (.fieldAddr 3) [.t 14], iP 16 (.load 1 false) [.t 15], iP 17 .nilCheck [.t 12], iP 18 (.fieldAddr 5) [.t 17], iN (.store 1 false) [.t 18, .t 16]])
 .skip))
 (.seq
 (.draw [ iP 19 .id [.t 0], iP 20 .id [.t 0], iP 21 .nilCheck [.t 20], iP 22 (.fieldAddr 6) [.t 21],
 ⟨some 23, .load 1 false, [.t 22], none, [0, 1], [], false⟩, iP 24 .id [.t 1], iP 25 (.call "bytes.Clone" [0]) [.t 24],
 ⟨some 26, .buildSlice 1 true 1 1 [(.slice none 0 0)] [(0, 1)], [.t 25], none, [], [0], false⟩,
 ⟨some 27, .append 2 true 1 24, [.t 23, .t 26], none, [], [], true⟩, iP 28 .nilCheck [.t 19], iP 29 (.fieldAddr 6) [.t 28],
 ⟨none, .store 1 false, [.t 29, .t 27], none, [], [], true⟩])
 (.seq
 (.ops [ iP 30 .id [.t 0], iP 31 .id [.t 0], iP 32 .nilCheck [.t 31], iP 33 (.fieldAddr 3) [.t 32], iP 34 (.load 1 false) [.t 33], iP 35 .nilCheck [.t 30], iP 36 (.fieldAddr 4) [.t 35], iN (.store 1 false) [.t 36, .t 34]])
 (.ops [ iP 37 .id [.t 0], iP 38 .nilCheck [.t 37], iP 39 (.fieldAddr 7) [.t 38], iP 40 (.load 1 false) [.t 39], iP 41 .id [.t 2], iP 42 (.bin .add) [.t 40, .t 41], iP 43 .nilCheck [.t 37], iP 44 (.fieldAddr 7) [.t 43], iN (.store 1 false) [.t 44, .t 42]]))))
def f___journal_Journal__note : IFn := ⟨45, 3, [], f___journal_Journal__note_B⟩
def f___journal_Journal__take_L0 : ICode :=
 (.seq
 (.block 1
 (.seq
 (.ops [ iP 13 .id [.t 3], iP 14 (.callV [3]) [.t 13], iP 12 .id [.t 14], iP 15 (.extract 0) [.t 12], iP 16 (.extract 1) [.t 12], iP 6 (.alloc 4 [(.int .u32 0), (.int .u32 0), (.bool false), (.bool false), (.slice none 0 0)] []) [], iN (.store 5 false) [.t 6, .t 15], iP 7 .id [.t 16]])
 (.seq
 (.seq
 (.draw [ iP 17 .id [.t 7], iP 18 (.un .not) [.t 17], iP 19 .id [.t 18], iG 19 false 20 (.fieldAddr 1) [.t 6], iG 19 false 21 (.load 1 false) [.t 20], iG 19 false 22 (.convInt .i64) [.t 21], iG 19 false 23 .id [.t 0], iG 19 false 24 .nilCheck [.t 23], iG 19 false 25 (.fieldAddr 6) [.t 24], iG 19 false 26 (.load 1 false) [.t 25], iG 19 false 27 .lenSlice [.t 26], iG 19 false 28 (.bin .neq) [.t 22, .t 27], iP 29 .pick [.t 19, .c (.bool true), .t 28], iP 30 .id [.t 29], iG 30 false 31 (.fieldAddr 2) [.t 6], iG 30 false 32 (.load 1 false) [.t 31], iG 30 false 33 .id [.t 5], iG 30 false 34 (.bin .eql) [.t 33, kI 0], iG 30 false 35 (.eqBool true) [.t 32, .t 34], iP 36 .pick [.t 30, .c (.bool true), .t 35], iP 37 .id [.t 36], iG 37 false 38 (.fieldAddr 0) [.t 6], iG 37 false 39 (.load 1 false) [.t 38], iG 37 false 40 .id [.t 0], iG 37 false 41 .nilCheck [.t 40], iG 37 false 42 (.fieldAddr 4) [.t 41], iG 37 false 43 (.load 1 false) [.t 42], iG 37 false 44 (.bin .lss) [.t 39, .t 43], iP 45 .pick [.t 37, .c (.bool true), .t 44], iP 46 .id [.t 45], iG 46 false 47 .id [.t 5], iG 46 false 48 (.bin .gtr) [.t 47, kI 0], iG 46 false 49 .id [.t 48], iG 49 true 50 (.fieldAddr 0) [.t 6], iG 49 true 51 (.load 1 false) [.t 50], iG 49 true 52 .id [.t 0], iG 49 true 53 .nilCheck [.t 52], iG 49 true 54 (.fieldAddr 3) [.t 53], iG 49 true 55 (.load 1 false) [.t 54], iG 49 true 56 (.bin .neq) [.t 51, .t 55], iG 46 false 57 .pick [.t 49, .t 56, .c (.bool false)], iP 58 .pick [.t 46, .c (.bool true), .t 57]])
 (.cond (.t 58)
 (.seq
 (.ops [ iP 2 .id [.c (.bool false)]])
 .ret)
 .skip))
 (.seq
 (.ops [ iP 59 .id [.t 4], iP 60 (.fieldAddr 4) [.t 6], iP 61 (.load 1 false) [.t 60], iP 62 (.append 5 false 1 1) [.t 59, .t 61], iP 4 .id [.t 62]])
 (.seq
 (.ops [ iP 63 .id [.t 0], iP 64 (.fieldAddr 0) [.t 6], iP 65 (.load 1 false) [.t 64], iP 66 .nilCheck [.t 63], iP 67 (.fieldAddr 3) [.t 66], iN (.store 1 false) [.t 67, .t 65]])
 (.seq
 (.ops [ iP 68 (.fieldAddr 3) [.t 6], iP 69 (.load 1 false) [.t 68]])
 (.cond (.t 69)
 (.seq
 (.ops [ iP 70 .id [.t 0], iP 71 .id [.t 4], iP 72 .id [.t 5], iP 73 (.bin .add) [.t 72, kI 1], iP 74 (.call "(*haberdash/journal.Journal).note" []) [.t 70, .t 71, .t 73]])
 (.seq
 (.ops [ iP 2 .id [.c (.bool true)]])
 .ret))
 .skip)))))))
 (.ops [ iP 10 .id [.t 5], iP 11 (.bin .add) [.t 10, kI 1], iP 5 .id [.t 11]]))
def f___journal_Journal__take_H0 (t0 t3 t4 t5 : AV) : List AV := [t0, .dead, .dead, t3, t4, t5, .dead, .dead, .dead, .dead, .dead, .dead, .dead, .dead, .dead, .dead, .dead, .dead, .dead, .dead, .dead, .dead, .dead, .dead, .dead, .dead, .dead, .dead, .dead, .dead, .dead, .dead, .dead, .dead, .dead, .dead, .dead, .dead, .dead, .dead, .dead, .dead, .dead, .dead, .dead, .dead, .dead, .dead, .dead, .dead, .dead, .dead, .dead, .dead, .dead, .dead, .dead, .dead, .dead, .dead, .dead, .dead, .dead, .dead, .dead, .dead, .dead, .dead, .dead, .dead, .dead, .dead, .dead, .dead, .dead]
def f___journal_Journal__take_B : ICode :=
 (.seq
 (.ops [ iP 2 .id [.c (.bool false)]])
 (.seq
 (.ops [ iP 8 .id [.t 0], iP 9 (.call "(*haberdash/journal.Journal).leaves" [0, 1]) [.t 8], iP 3 .id [.t 9]])
 (.seq
 (.ops [ iP 4 (.nilv 2 1) [.c (.slice none 0 0)]])
 (.seq
 (.ops [ iP 5 .id [kI 0]])
 (.block 0
 (.loop [1, 2, 6, 7, 8, 9, 10, 11, 12, 13, 14, 15, 16, 17, 18, 19, 20, 21, 22, 23, 24, 25, 26, 27, 28, 29, 30, 31, 32, 33, 34, 35, 36, 37, 38, 39, 40, 41, 42, 43, 44, 45, 46, 47, 48, 49, 50, 51, 52, 53, 54, 55, 56, 57, 58, 59, 60, 61, 62, 63, 64, 65, 66, 67, 68, 69, 70, 71, 72, 73, 74] [3, 4, 5] f___journal_Journal__take_L0))))))
def f___journal_Journal__take : IFn := ⟨75, 6, [.tmp 2], f___journal_Journal__take_B⟩
def f_help_Same___byte__L0 : ICode :=
 (.seq
 (.seq
 (.ops [ iP 13 .id [.t 7], iP 14 .id [.t 0], iP 15 .lenSlice [.t 14], iP 16 (.bin .lss) [.t 13, .t 15]])
 (.cond (.t 16)
 .skip
 (.exit 0)))
 (.seq
 (.block 1
 (.seq
 (.draw [ iP 19 .id [.t 2], iP 20 .id [.t 0], iP 21 .id [.t 7], iP 22 (.indexAddr 1) [.t 20, .t 21], iP 23 (.load 1 false) [.t 22], iP 24 .id [.t 1], iP 25 .id [.t 7], iP 26 (.indexAddr 1) [.t 24, .t 25], iP 27 (.load 1 false) [.t 26], iP 28 (.callV []) [.t 19, .t 23, .t 27], iP 29 (.un .not) [.t 28]])
 (.cond (.t 29)
 (.seq
 (.ops [ iP 6 .id [.c (.bool false)]])
 .ret)
 .skip)))
 (.ops [ iP 17 .id [.t 7], iP 18 (.bin .add) [.t 17, kI 1], iP 7 .id [.t 18]])))
def f_help_Same___byte__B : ICode :=
 (.seq
 (.ops [ iP 6 .id [.c (.bool false)]])
 (.seq
 (.seq
 (.ops [ iP 8 .id [.t 0], iP 9 .lenSlice [.t 8], iP 10 .id [.t 1], iP 11 .lenSlice [.t 10], iP 12 (.bin .neq) [.t 9, .t 11]])
 (.cond (.t 12)
 (.seq
 (.ops [ iP 6 .id [.c (.bool false)]])
 .ret)
 .skip))
 (.seq
 (.seq
 (.ops [ iP 7 .id [kI 0]])
 (.block 0
 (.loop [3, 4, 5, 6, 8, 9, 10, 11, 12, 13, 14, 15, 16, 17, 18, 19, 20, 21, 22, 23, 24, 25, 26, 27, 28, 29] [] f_help_Same___byte__L0)))
 (.seq
 (.ops [ iP 6 .id [.c (.bool true)]])
 .ret))))
def f_help_Same___byte_ : IFn := ⟨30, 0, [.tmp 6], f_help_Same___byte__B⟩
def f___ref06_Journal__record_L0 : ICode :=
 (.seq
 (.seq
 (.ops [ iP 16 .id [.t 1], iP 17 .id [.t 13], iP 18 (.bin .add) [.t 16, .t 17], iP 19 .id [.t 0], iP 20 .nilCheck [.t 19], iP 21 (.fieldAddr 2) [.t 20], iP 22 (.load 1 false) [.t 21], iP 23 (.bin .lss) [.t 18, .t 22]])
 (.cond (.t 23)
 .skip
 (.exit 0)))
 (.seq
 (.block 1
 (.seq
 (.draw [ iP 27 .id [.t 0], iP 28 .nilCheck [.t 27], iP 29 (.fieldAddr 0) [.t 28],
 ⟨some 30, .load 1 false, [.t 29], none, [2], [], false⟩, iP 31 .nilCheck [.t 30], iP 32 (.fieldAddr 0) [.t 31],
 ⟨some 33, .load 1 false, [.t 32], none, [2], [], false⟩, iP 34 .id [.t 0], iP 35 .nilCheck [.t 34], iP 36 (.fieldAddr 1) [.t 35],
 ⟨some 37, .load 1 false, [.t 36], none, [2], [], false⟩, iP 38 .id [.t 1], iP 39 (.bin .add) [.t 37, .t 38], iP 40 .id [.t 13], iP 41 (.bin .add) [.t 39, .t 40], iP 42 (.indexAddr 64) [.t 33, .t 41],
 ⟨some 43, .load 64 true, [.t 42], none, [2], [], false⟩,
 ⟨some 44, .call "haberdash/haberdashref04.Take" [1], [.t 43], none, [2], [], false⟩, iP 26 .id [.t 44], iP 45 (.extract 0) [.t 26], iP 46 (.extract 1) [.t 26],
 ⟨some 14, .alloc 2 [(.int .u32 0), (.int .u32 0), (.bool false), (.bool false), (.slice none 0 0)] [], [], none, [1], [], false⟩,
 ⟨none, .store 5 false, [.t 14, .t 45], none, [], [2], false⟩, iP 15 .id [.t 46]])
 (.seq
 (.seq
 (.ops [ iP 47 .id [.t 15], iP 48 (.un .not) [.t 47], iP 49 .id [.t 48], iG 49 false 50 (.fieldAddr 1) [.t 14], iG 49 false 51 (.load 1 false) [.t 50], iG 49 false 52 .id [.t 2], iG 49 false 53 (.bin .neq) [.t 51, .t 52], iP 54 .pick [.t 49, .c (.bool true), .t 53], iP 55 .id [.t 54], iG 55 false 56 (.fieldAddr 2) [.t 14], iG 55 false 57 (.load 1 false) [.t 56], iG 55 false 58 .id [.t 13], iG 55 false 59 (.bin .eql) [.t 58, kI 0], iG 55 false 60 (.eqBool true) [.t 57, .t 59], iP 61 .pick [.t 55, .c (.bool true), .t 60], iP 62 .id [.t 61], iG 62 false 63 .id [.t 13], iG 62 false 64 (.bin .gtr) [.t 63, kI 0], iG 62 false 65 .id [.t 64], iG 65 true 66 (.fieldAddr 0) [.t 14], iG 65 true 67 (.load 1 false) [.t 66], iG 65 true 68 .id [.t 12], iG 65 true 69 (.bin .neq) [.t 67, .t 68], iG 62 false 70 .pick [.t 65, .t 69, .c (.bool false)], iP 71 .pick [.t 62, .c (.bool true), .t 70], iP 72 .id [.t 71], iG 72 false 73 (.fieldAddr 0) [.t 14], iG 72 false 74 (.load 1 false) [.t 73], iG 72 false 75 .id [.t 3], iG 72 false 76 (.bin .lss) [.t 74, .t 75], iP 77 .pick [.t 72, .c (.bool true), .t 76]])
 (.cond (.t 77)
 (.seq
 (.ops [ iP 8 .id [.c (.slice none 0 0)], iP 9 .id [kI 0], iP 10 .id [.c (.int .u32 0)]])
 .ret)
 .skip))
 (.seq
 (.ops [ iP 78 (.fieldAddr 0) [.t 14], iP 79 (.load 1 false) [.t 78], iP 12 .id [.t 79]])
 (.seq
 (.ops [ iP 80 .id [.t 11], iP 81 (.fieldAddr 4) [.t 14], iP 82 (.load 1 false) [.t 81], iP 83 (.append 3 false 1 1) [.t 80, .t 82], iP 11 .id [.t 83]])
 (.seq
 (.ops [ iP 84 (.fieldAddr 3) [.t 14], iP 85 (.load 1 false) [.t 84]])
 (.cond (.t 85)
 (.seq
 (.ops [ iP 86 .id [.t 11], iP 87 .id [.t 13], iP 88 (.bin .add) [.t 87, kI 1], iP 89 .id [.t 12], iP 8 .id [.t 86], iP 9 .id [.t 88], iP 10 .id [.t 89]])
 .ret)
 .skip)))))))
 (.ops [ iP 24 .id [.t 13], iP 25 (.bin .add) [.t 24, kI 1], iP 13 .id [.t 25]])))
def f___ref06_Journal__record_B : ICode :=
 (.seq
 (.ops [ iP 8 .id [.c (.slice none 0 0)], iP 9 .id [kI 0], iP 10 .id [.c (.int .u32 0)]])
 (.seq
 (.ops [ iP 11 (.nilv 0 1) [.c (.slice none 0 0)]])
 (.seq
 (.ops [ iP 12 .id [.c (.int .u32 0)]])
 (.seq
 (.seq
 (.ops [ iP 13 .id [kI 0]])
 (.block 0
 (.loop [4, 5, 6, 7, 8, 9, 10, 14, 15, 16, 17, 18, 19, 20, 21, 22, 23, 24, 25, 26, 27, 28, 29, 30, 31, 32, 33, 34, 35, 36, 37, 38, 39, 40, 41, 42, 43, 44, 45, 46, 47, 48, 49, 50, 51, 52, 53, 54, 55, 56, 57, 58, 59, 60, 61, 62, 63, 64, 65, 66, 67, 68, 69, 70, 71, 72, 73, 74, 75, 76, 77, 78, 79, 80, 81, 82, 83, 84, 85, 86, 87, 88, 89] [1, 2, 3] f___ref06_Journal__record_L0)))
 (.seq
 (.ops [ iP 8 .id [.c (.slice none 0 0)], iP 9 .id [kI 0], iP 10 .id [.c (.int .u32 0)]])
 .ret)))))
def f___ref06_Journal__record : IFn := ⟨90, 4, [.tmp 8, .tmp 9, .tmp 10], f___ref06_Journal__record_B⟩
def f_ref06_Need_B : ICode :=
 (.seq
 (.ops [ iP 2 .id [kI 0]])
 (.seq
 (.seq
 (.ops [ iP 3 .id [.t 0], iP 4 (.bin .lss) [.t 3, kI 1]])
 (.cond (.t 4)
 (.seq
 (.ops [ iP 2 .id [kI 0]])
 .ret)
 .skip))
 (.seq
 (.ops [ iP 5 .id [.t 0], iP 6 (.bin .sub) [.t 5, kI 1], iP 7 (.bin .quo) [.t 6, kI 46], iP 8 (.bin .add) [.t 7, kI 1], iP 2 .id [.t 8]])
 .ret)))
def f_ref06_Need : IFn := ⟨9, 0, [.tmp 2], f_ref06_Need_B⟩
def f___journal_Journal__leaves_B : ICode :=
 (.seq
 (.ops [ iP 1 (.box 0) [.t 0], iP 2 .id [.c (.nilFunc)]])
 (.seq
 (.ops [ iP 4 (.load 1 false) [.t 1], iP 5 .nilCheck [.t 4], iP 6 (.fieldAddr 7) [.t 5], iP 7 (.load 1 false) [.t 6], iP 3 (.alloc 1 [(.int .i64 0)] []) [], iN (.store 1 false) [.t 3, .t 7]])
 (.seq
 (.ops [ iP 8 (.makeFunc "(*haberdash/journal.Journal).leaves$1" 0) [.t 3, .t 1], iP 2 .id [.t 8]])
 .ret)))
def f___journal_Journal__leaves : IFn := ⟨9, 2, [.tmp 2], f___journal_Journal__leaves_B⟩
def f___journal_Journal__leaves_1_B : ICode :=
 (.seq
 (.ops [ iP 2 (.alloc 1 [(.int .u32 0), (.int .u32 0), (.bool false), (.bool false), (.slice none 0 0)] []) [], iP 3 .id [.c (.bool false)]])
 (.seq
 (.seq
 (.draw [ iP 6 (.load 1 false) [.t 0], iP 7 (.load 1 false) [.t 1], iP 8 .nilCheck [.t 7], iP 9 (.fieldAddr 2) [.t 8], iP 10 (.load 1 false) [.t 9], iP 11 (.bin .geq) [.t 6, .t 10]])
 (.cond (.t 11)
 (.seq
 (.ops [ iP 12 (.build [(.int .u32 0), (.int .u32 0), (.bool false), (.bool false), (.slice none 0 0)] []) [], iN (.store 5 false) [.t 2, .t 12], iP 3 .id [.c (.bool false)]])
 .ret)
 .skip))
 (.seq
 (.draw [
 ⟨some 14, .load 1 false, [.t 1], none, [2], [], false⟩, iP 15 .nilCheck [.t 14], iP 16 (.fieldAddr 0) [.t 15],
 ⟨some 17, .load 1 false, [.t 16], none, [2], [], false⟩,
 ⟨some 18, .load 1 false, [.t 1], none, [2], [], false⟩, iP 19 .nilCheck [.t 18], iP 20 (.fieldAddr 1) [.t 19],
 ⟨some 21, .load 1 false, [.t 20], none, [2], [], false⟩,
 ⟨some 22, .load 1 false, [.t 0], none, [2], [], false⟩, iP 23 (.bin .add) [.t 21, .t 22],
 ⟨some 24, .call "(*haberdash/disk.Disk).Read" [], [.t 17, .t 23], none, [2], [], false⟩, iP 13 .id [.t 24], iP 25 (.extract 0) [.t 13], iP 26 (.extract 1) [.t 13], iP 4 (.alloc 2 zeros64 []) [],
 ⟨none, .store 64 false, [.t 4, .t 25], none, [], [2], false⟩, iP 5 .id [.t 26]])
 (.seq
 (.ops [ iP 27 (.load 1 false) [.t 0], iP 28 (.bin .add) [.t 27, kI 1], iN (.store 1 false) [.t 0, .t 28]])
 (.seq
 (.seq
 (.ops [ iP 29 .id [.t 5], iP 30 (.bin .neq) [.t 29, kI 0]])
 (.cond (.t 30)
 (.seq
 (.ops [ iP 31 (.build [(.int .u32 0), (.int .u32 0), (.bool false), (.bool false), (.slice none 0 0)] []) [], iN (.store 5 false) [.t 2, .t 31], iP 3 .id [.c (.bool false)]])
 .ret)
 .skip))
 (.seq
 (.ops [ iP 32 (.load 64 true) [.t 4], iP 33 (.call "haberdash/leaf.Take" [0]) [.t 32], iP 34 (.extract 0) [.t 33], iP 35 (.extract 1) [.t 33], iN (.store 5 false) [.t 2, .t 34], iP 3 .id [.t 35]])
 .ret))))))
def f___journal_Journal__leaves_1 : IFn := ⟨36, 3, [.cell 2 5 true, .tmp 3], f___journal_Journal__leaves_1_B⟩
end Go.AM
