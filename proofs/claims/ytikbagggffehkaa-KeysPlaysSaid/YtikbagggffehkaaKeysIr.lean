import Derived.Test.YtikbagggffehkaaAMA
import Derived.Test.YtikbagggffehkaaCrc
import Derived.Test.YtikbagggffehkaaLeafA
import Derived.Test.YtikbagggffehkaaHelp
import Derived.Test.YtikbagggffehkaaGoodsA
import Derived.Test.YtikbagggffehkaaScopeA
import Derived.Test.YtikbagggffehkaaSortA
import Derived.Test.YtikbagggffehkaaBasketIr
set_option linter.unusedVariables false
set_option linter.unusedSimpArgs false
namespace Go.AM
def f_law26_KeysRaw_B : ICode :=
 (.seq
 (.ops [ iP 5 (.box 0) [.t 1], iP 8 .id [.c (.bool false)]])
 (.seq
 (.seq
 (.ops [ iP 18 .id [.t 0], iP 19 (.call "haberdash/haberdashlaw26.few" []) [.t 18], iP 20 (.un .not) [.t 19], iP 21 .id [.t 20], iG 21 false 22 (.load 3 true) [.t 5], iG 21 false 23 (.buildSlice 1 false 3 1 [(.string ⟨#[]⟩), (.slice none 0 0), (.slice none 0 0)] [(0, 3)]) [.t 22], iG 21 false 24 (.call "haberdash/haberdashlaw26.few" []) [.t 23], iG 21 false 25 (.un .not) [.t 24], iP 26 .pick [.t 21, .c (.bool true), .t 25], iP 27 .id [.t 26], iG 27 false 28 .id [.t 2], iG 27 false 29 .lenSlice [.t 28], iG 27 false 30 (.bin .gtr) [.t 29, kI 300], iP 31 .pick [.t 27, .c (.bool true), .t 30]])
 (.cond (.t 31)
 (.seq
 (.ops [ iP 32 (.call "haberdash/haberdashlaw26.awake" []) [], iP 8 .id [.t 32]])
 .ret)
 .skip))
 (.seq
 (.ops [ iP 33 (.fieldAddr 0) [.t 5], iP 34 (.load 1 false) [.t 33], iP 9 .id [.t 34]])
 (.seq
 (.seq
 (.ops [ iP 35 .id [.t 0], iP 36 .lenSlice [.t 35], iP 37 (.bin .gtr) [.t 36, kI 0], iP 38 .id [.t 37], iG 38 true 39 .id [.t 3], iG 38 true 40 (.bin .rem) [.t 39, kI 2], iG 38 true 41 (.bin .eql) [.t 40, kI 0], iP 42 .pick [.t 38, .t 41, .c (.bool false)]])
 (.cond (.t 42)
 (.ops [ iP 43 .id [.t 0], iP 44 .id [.t 3], iP 45 .id [.t 0], iP 46 .lenSlice [.t 45], iP 47 (.call "haberdash/haberdashplay.Mod" []) [.t 44, .t 46], iP 48 (.indexAddr 3) [.t 43, .t 47], iP 49 (.fieldAddr 0) [.t 48], iP 50 (.load 1 false) [.t 49], iP 9 .id [.t 50]])
 .skip))
 (.seq
 (.ops [ iP 52 .id [.t 0], iP 53 (.load 3 true) [.t 5], iP 54 (.call "haberdash/keys.Put" [2]) [.t 52, .t 53], iP 51 .id [.t 54], iP 55 (.extract 0) [.t 51], iP 56 (.extract 1) [.t 51], iP 10 .id [.t 55], iP 11 .id [.t 56]])
 (.seq
 (.ops [ iP 58 .id [.t 0], iP 59 (.load 3 true) [.t 5], iP 60 (.call "haberdash/haberdashref25.Put" [3]) [.t 58, .t 59], iP 57 .id [.t 60], iP 61 (.extract 0) [.t 57], iP 62 (.extract 1) [.t 57], iP 12 .id [.t 61], iP 13 .id [.t 62]])
 (.seq
 (.ops [ iP 64 .id [.t 0], iP 65 .id [.t 9], iP 66 .id [.t 2], iP 67 (.call "haberdash/keys.Ask" [4]) [.t 64, .t 65, .t 66], iP 63 .id [.t 67], iP 68 (.extract 0) [.t 63], iP 69 (.extract 1) [.t 63], iP 14 .id [.t 68], iP 15 .id [.t 69]])
 (.seq
 (.ops [ iP 71 .id [.t 0], iP 72 .id [.t 9], iP 73 .id [.t 2], iP 74 (.call "haberdash/haberdashref25.Ask" [5]) [.t 71, .t 72, .t 73], iP 70 .id [.t 74], iP 75 (.extract 0) [.t 70], iP 76 (.extract 1) [.t 70], iP 16 .id [.t 75], iP 17 .id [.t 76]])
 (.seq
 (.ops [ iP 77 (.call "haberdash/haberdashlaw26.awake" []) [], iP 78 .id [.t 77], iG 78 true 79 .id [.t 0], iG 78 true 80 (.call "haberdash/keys.Right" []) [.t 79], iG 78 true 81 .id [.t 0], iG 78 true 82 (.call "haberdash/haberdashref25.Keys" []) [.t 81], iG 78 true 83 (.eqBool false) [.t 80, .t 82], iP 84 .pick [.t 78, .t 83, .c (.bool false)], iP 85 .id [.t 84], iG 85 true 86 .id [.t 10], iG 85 true 87 .id [.t 12], iG 85 true 88 (.call "haberdash/haberdashhelp.Same[haberdash/api.Seen]" []) [.t 86, .t 87, .f "haberdash/haberdashhelp.Seen"], iP 89 .pick [.t 85, .t 88, .c (.bool false)], iP 90 .id [.t 89], iG 90 true 91 .id [.t 11], iG 90 true 92 .id [.t 13], iG 90 true 93 (.bin .eql) [.t 91, .t 92], iP 94 .pick [.t 90, .t 93, .c (.bool false)], iP 95 .id [.t 94], iG 95 true 96 .id [.t 14], iG 95 true 97 .id [.t 16], iG 95 true 98 (.call "haberdash/haberdashhelp.Bytes" []) [.t 96, .t 97], iP 99 .pick [.t 95, .t 98, .c (.bool false)], iP 100 .id [.t 99], iG 100 true 101 .id [.t 15], iG 100 true 102 .id [.t 17], iG 100 true 103 (.bin .eql) [.t 101, .t 102], iP 104 .pick [.t 100, .t 103, .c (.bool false)], iP 8 .id [.t 104]])
 .ret)))))))))
def f_law26_KeysRaw : IFn := ⟨105, 6, [.tmp 8], f_law26_KeysRaw_B⟩
def f_law26_KeysPlays_L0 : ICode :=
 (.seq
 (.seq
 (.ops [ iP 27 .id [.t 7], iP 28 .id [.t 0], iP 29 .lenSlice [.t 28], iP 30 (.bin .lss) [.t 27, .t 29], iP 31 .id [.t 30], iG 31 true 32 .id [.t 7], iG 31 true 33 .id [.t 1], iG 31 true 34 .lenSlice [.t 33], iG 31 true 35 (.bin .lss) [.t 32, .t 34], iP 36 .pick [.t 31, .t 35, .c (.bool false)]])
 (.cond (.t 36)
 .skip
 (.exit 0)))
 (.seq
 (.block 1
 (.seq
 (.draw [ iP 39 .id [.t 1], iP 40 .id [.t 7], iP 41 (.indexAddr 1) [.t 39, .t 40], iP 42 (.load 1 false) [.t 41], iP 43 .id [.t 1], iP 44 .id [.t 7], iP 45 (.indexAddr 1) [.t 43, .t 44], iP 46 (.load 1 false) [.t 45], iP 47 .lenSlice [.t 46], iP 48 .min [.t 47, kI 100], iP 49 (.slice 1 false true false) [.t 42, .t 48], iP 8 .id [.t 49]])
 (.seq
 (.ops [ iP 51 .id [.t 5], iP 52 .id [.t 0], iP 53 .id [.t 7], iP 54 (.indexAddr 1) [.t 52, .t 53], iP 55 (.load 1 false) [.t 54], iP 56 (.call "haberdash/haberdashlaw26.key" []) [.t 55], iP 57 .id [.t 8], iP 58 (.call "haberdash/keys.Ask" [2]) [.t 51, .t 56, .t 57], iP 50 .id [.t 58], iP 59 (.extract 0) [.t 50], iP 60 (.extract 1) [.t 50], iP 9 .id [.t 59], iP 10 .id [.t 60]])
 (.seq
 (.ops [ iP 62 .id [.t 6], iP 63 .id [.t 0], iP 64 .id [.t 7], iP 65 (.indexAddr 1) [.t 63, .t 64], iP 66 (.load 1 false) [.t 65], iP 67 (.call "haberdash/haberdashlaw26.key" []) [.t 66], iP 68 .id [.t 8], iP 69 (.call "haberdash/haberdashref25.Ask" [3]) [.t 62, .t 67, .t 68], iP 61 .id [.t 69], iP 70 (.extract 0) [.t 61], iP 71 (.extract 1) [.t 61], iP 11 .id [.t 70], iP 12 .id [.t 71]])
 (.seq
 (.seq
 (.ops [ iP 72 .id [.t 9], iP 73 .id [.t 11], iP 74 (.call "haberdash/haberdashhelp.Bytes" []) [.t 72, .t 73], iP 75 (.un .not) [.t 74], iP 76 .id [.t 75], iG 76 false 77 .id [.t 10], iG 76 false 78 .id [.t 12], iG 76 false 79 (.bin .neq) [.t 77, .t 78], iP 80 .pick [.t 76, .c (.bool true), .t 79]])
 (.cond (.t 80)
 (.seq
 (.ops [ iP 4 .id [.c (.bool false)]])
 .ret)
 .skip))
 (.seq
 (.ops [ iP 81 .id [.t 0], iP 82 .id [.t 7], iP 83 (.indexAddr 1) [.t 81, .t 82], iP 84 (.load 1 false) [.t 83], iP 85 (.call "haberdash/haberdashlaw26.key" []) [.t 84], iP 86 .id [.t 8], iP 87 .id [.t 7], iP 88 (.convInt .u8) [.t 87], iP 89 (.buildSlice 4 false 1 1 [(.int .u8 0)] [(0, 1)]) [.t 88], iP 90 (.buildF [(.string ⟨#[]⟩), (.slice none 0 0), (.slice none 0 0)] [(0, 1), (1, 1), (2, 1)]) [.t 85, .t 86, .t 89], iP 13 (.alloc 5 [(.string ⟨#[]⟩), (.slice none 0 0), (.slice none 0 0)] []) [], iN (.store 3 false) [.t 13, .t 90]])
 (.seq
 (.ops [ iP 92 .id [.t 5], iP 93 (.load 3 true) [.t 13], iP 94 (.call "haberdash/keys.Put" [6]) [.t 92, .t 93], iP 91 .id [.t 94], iP 95 (.extract 0) [.t 91], iP 96 (.extract 1) [.t 91], iP 14 .id [.t 95], iP 15 .id [.t 96]])
 (.seq
 (.ops [ iP 98 .id [.t 6], iP 99 (.load 3 true) [.t 13], iP 100 (.call "haberdash/haberdashref25.Put" [7]) [.t 98, .t 99], iP 97 .id [.t 100], iP 101 (.extract 0) [.t 97], iP 102 (.extract 1) [.t 97], iP 16 .id [.t 101], iP 17 .id [.t 102]])
 (.seq
 (.seq
 (.ops [ iP 103 .id [.t 15], iP 104 .id [.t 17], iP 105 (.bin .neq) [.t 103, .t 104], iP 106 .id [.t 105], iG 106 false 107 .id [.t 14], iG 106 false 108 .id [.t 16], iG 106 false 109 (.call "haberdash/haberdashhelp.Same[haberdash/api.Seen]" []) [.t 107, .t 108, .f "haberdash/haberdashhelp.Seen"], iG 106 false 110 (.un .not) [.t 109], iP 111 .pick [.t 106, .c (.bool true), .t 110], iP 112 .id [.t 111], iG 112 false 113 .id [.t 15], iG 112 false 114 (.bin .eql) [.t 113, kI 0], iG 112 false 115 .id [.t 10], iG 112 false 116 (.bin .eql) [.t 115, kI 0], iG 112 false 117 (.eqBool true) [.t 114, .t 116], iP 118 .pick [.t 112, .c (.bool true), .t 117]])
 (.cond (.t 118)
 (.seq
 (.ops [ iP 4 .id [.c (.bool false)]])
 .ret)
 .skip))
 (.seq
 (.seq
 (.ops [ iP 119 .id [.t 15], iP 120 (.bin .eql) [.t 119, kI 0]])
 (.cond (.t 120)
 (.post [(6, 0), (7, 1)]
 (.ops [ iP 121 .id [.t 14], iP 122 .id [.t 16], iP 5 .id [.t 121], iP 6 .id [.t 122]]))
 .skip))
 (.seq
 (.ops [ iP 123 .id [.t 5], iP 124 (.call "haberdash/keys.Right" []) [.t 123], iP 125 (.un .not) [.t 124]])
 (.cond (.t 125)
 (.seq
 (.ops [ iP 4 .id [.c (.bool false)]])
 .ret)
 .skip))))))))))))
 (.ops [ iP 37 .id [.t 7], iP 38 (.bin .add) [.t 37, kI 1], iP 7 .id [.t 38]])))
def f_law26_KeysPlays_H0 (t0 t1 t5 t6 t7 : AV) : List AV := [t0, t1, .dead, .dead, .dead, t5, t6, t7, .dead, .dead, .dead, .dead, .dead, .dead, .dead, .dead, .dead, .dead, .dead, .dead, .dead, .dead, .dead, .dead, .dead, .dead, .dead, .dead, .dead, .dead, .dead, .dead, .dead, .dead, .dead, .dead, .dead, .dead, .dead, .dead, .dead, .dead, .dead, .dead, .dead, .dead, .dead, .dead, .dead, .dead, .dead, .dead, .dead, .dead, .dead, .dead, .dead, .dead, .dead, .dead, .dead, .dead, .dead, .dead, .dead, .dead, .dead, .dead, .dead, .dead, .dead, .dead, .dead, .dead, .dead, .dead, .dead, .dead, .dead, .dead, .dead, .dead, .dead, .dead, .dead, .dead, .dead, .dead, .dead, .dead, .dead, .dead, .dead, .dead, .dead, .dead, .dead, .dead, .dead, .dead, .dead, .dead, .dead, .dead, .dead, .dead, .dead, .dead, .dead, .dead, .dead, .dead, .dead, .dead, .dead, .dead, .dead, .dead, .dead, .dead, .dead, .dead, .dead, .dead, .dead, .dead, .dead]
def f_law26_KeysPlays_B : ICode :=
 (.seq
 (.ops [ iP 4 .id [.c (.bool false)]])
 (.seq
 (.seq
 (.ops [ iP 18 .id [.t 0], iP 19 .lenSlice [.t 18], iP 20 (.bin .gtr) [.t 19, kI 60], iP 21 .id [.t 20], iG 21 false 22 .id [.t 1], iG 21 false 23 .lenSlice [.t 22], iG 21 false 24 (.bin .gtr) [.t 23, kI 60], iP 25 .pick [.t 21, .c (.bool true), .t 24]])
 (.cond (.t 25)
 (.seq
 (.ops [ iP 26 (.call "haberdash/haberdashlaw26.awake" []) [], iP 4 .id [.t 26]])
 .ret)
 .skip))
 (.seq
 (.ops [ iP 5 .id [.c (.slice none 0 0)], iP 6 .id [.c (.slice none 0 0)]])
 (.seq
 (.seq
 (.ops [ iP 7 .id [kI 0]])
 (.block 0
 (.loop [2, 3, 4, 8, 9, 10, 11, 12, 13, 14, 15, 16, 17, 18, 19, 20, 21, 22, 23, 24, 25, 26, 27, 28, 29, 30, 31, 32, 33, 34, 35, 36, 37, 38, 39, 40, 41, 42, 43, 44, 45, 46, 47, 48, 49, 50, 51, 52, 53, 54, 55, 56, 57, 58, 59, 60, 61, 62, 63, 64, 65, 66, 67, 68, 69, 70, 71, 72, 73, 74, 75, 76, 77, 78, 79, 80, 81, 82, 83, 84, 85, 86, 87, 88, 89, 90, 91, 92, 93, 94, 95, 96, 97, 98, 99, 100, 101, 102, 103, 104, 105, 106, 107, 108, 109, 110, 111, 112, 113, 114, 115, 116, 117, 118, 119, 120, 121, 122, 123, 124, 125, 126] [2, 3, 4, 5, 6, 7] f_law26_KeysPlays_L0)))
 (.seq
 (.ops [ iP 126 (.call "haberdash/haberdashlaw26.awake" []) [], iP 4 .id [.t 126]])
 .ret)))))
def f_law26_KeysPlays : IFn := ⟨127, 8, [.tmp 4], f_law26_KeysPlays_B⟩
def f_law26_KeysStay_L0 : ICode :=
 (.seq
 (.seq
 (.ops [ iP 29 .id [.t 8], iP 30 .id [.t 0], iP 31 .lenSlice [.t 30], iP 32 (.bin .lss) [.t 29, .t 31]])
 (.cond (.t 32)
 .skip
 (.exit 0)))
 (.seq
 (.block 1
 (.seq
 (.ops [ iP 36 .id [.t 7], iP 37 .id [.t 0], iP 38 .id [.t 8], iP 39 (.indexAddr 1) [.t 37, .t 38], iP 40 (.load 1 false) [.t 39], iP 41 (.call "haberdash/haberdashlaw26.key" []) [.t 40], iP 42 .id [.t 8], iP 43 (.convInt .u8) [.t 42], iP 44 (.buildSlice 1 false 1 1 [(.int .u8 0)] [(0, 1)]) [.t 43], iP 45 .id [.t 8], iP 46 (.convInt .u8) [.t 45], iP 47 (.buildSlice 2 false 1 2 [(.int .u8 0)] [(0, 1), (1, 1)]) [.t 46, .c (.int .u8 1)], iP 48 (.buildF [(.string ⟨#[]⟩), (.slice none 0 0), (.slice none 0 0)] [(0, 1), (1, 1), (2, 1)]) [.t 41, .t 44, .t 47], iP 49 (.call "haberdash/haberdashref25.Put" [3]) [.t 36, .t 48], iP 35 .id [.t 49], iP 50 (.extract 0) [.t 35], iP 51 (.extract 1) [.t 35], iP 9 .id [.t 50], iP 10 .id [.t 51]])
 (.seq
 (.ops [ iP 52 .id [.t 10], iP 53 (.bin .eql) [.t 52, kI 0]])
 (.cond (.t 53)
 (.post [(3, 0)]
 (.ops [ iP 54 .id [.t 9], iP 7 .id [.t 54]]))
 .skip))))
 (.ops [ iP 33 .id [.t 8], iP 34 (.bin .add) [.t 33, kI 1], iP 8 .id [.t 34]])))
def f_law26_KeysStay_H0 (t0 t1 t2 t7 t8 : AV) : List AV := [t0, t1, t2, .dead, .dead, .dead, .dead, t7, t8, .dead, .dead, .dead, .dead, .dead, .dead, .dead, .dead, .dead, .dead, .dead, .dead, .dead, .dead, .dead, .dead, .dead, .dead, .dead, .dead, .dead, .dead, .dead, .dead, .dead, .dead, .dead, .dead, .dead, .dead, .dead, .dead, .dead, .dead, .dead, .dead, .dead, .dead, .dead, .dead, .dead, .dead, .dead, .dead, .dead, .dead, .dead, .dead, .dead, .dead, .dead, .dead, .dead, .dead, .dead, .dead, .dead, .dead, .dead, .dead, .dead, .dead, .dead, .dead, .dead, .dead, .dead, .dead, .dead, .dead, .dead, .dead, .dead, .dead, .dead, .dead, .dead, .dead, .dead, .dead, .dead, .dead, .dead, .dead, .dead, .dead, .dead, .dead, .dead, .dead, .dead, .dead, .dead, .dead, .dead, .dead, .dead, .dead, .dead, .dead, .dead, .dead, .dead, .dead, .dead, .dead, .dead, .dead, .dead, .dead, .dead, .dead, .dead, .dead, .dead, .dead, .dead, .dead, .dead, .dead, .dead, .dead, .dead, .dead, .dead, .dead, .dead, .dead, .dead, .dead, .dead, .dead, .dead, .dead, .dead, .dead, .dead, .dead]
def f_law26_KeysStay_L1 : ICode :=
 (.seq
 (.seq
 (.ops [ iP 99 .id [.t 15], iP 100 .id [.t 7], iP 101 .lenSlice [.t 100], iP 102 (.bin .lss) [.t 99, .t 101]])
 (.cond (.t 102)
 .skip
 (.exit 2)))
 (.seq
 (.block 3
 (.seq
 (.draw [ iP 106 .id [.t 11], iP 107 .id [.t 7], iP 108 .id [.t 15], iP 109 (.indexAddr 3) [.t 107, .t 108], iP 110 (.fieldAddr 0) [.t 109], iP 111 (.load 1 false) [.t 110], iP 112 .id [.t 7], iP 113 .id [.t 15], iP 114 (.indexAddr 3) [.t 112, .t 113], iP 115 (.fieldAddr 1) [.t 114], iP 116 (.load 1 false) [.t 115], iP 117 (.call "haberdash/keys.Ask" [7]) [.t 106, .t 111, .t 116], iP 105 .id [.t 117], iP 118 (.extract 0) [.t 105], iP 119 (.extract 1) [.t 105], iP 16 .id [.t 118], iP 17 .id [.t 119]])
 (.seq
 (.ops [ iP 120 .id [.t 17], iP 121 (.bin .neq) [.t 120, kI 1], iP 122 .id [.t 121], iG 122 false 123 .id [.t 16], iG 122 false 124 .id [.t 7], iG 122 false 125 .id [.t 15], iG 122 false 126 (.indexAddr 3) [.t 124, .t 125], iG 122 false 127 (.fieldAddr 2) [.t 126], iG 122 false 128 (.load 1 false) [.t 127], iG 122 false 129 (.call "haberdash/haberdashhelp.Bytes" []) [.t 123, .t 128], iG 122 false 130 (.un .not) [.t 129], iP 131 .pick [.t 122, .c (.bool true), .t 130]])
 (.cond (.t 131)
 (.seq
 (.ops [ iP 6 .id [.c (.bool false)]])
 .ret)
 .skip))))
 (.ops [ iP 103 .id [.t 15], iP 104 (.bin .add) [.t 103, kI 1], iP 15 .id [.t 104]])))
def f_law26_KeysStay_H1 (t1 t2 t7 t11 t15 : AV) : List AV := [.dead, t1, t2, .dead, .dead, .dead, .dead, t7, .dead, .dead, .dead, t11, .dead, .dead, .dead, t15, .dead, .dead, .dead, .dead, .dead, .dead, .dead, .dead, .dead, .dead, .dead, .dead, .dead, .dead, .dead, .dead, .dead, .dead, .dead, .dead, .dead, .dead, .dead, .dead, .dead, .dead, .dead, .dead, .dead, .dead, .dead, .dead, .dead, .dead, .dead, .dead, .dead, .dead, .dead, .dead, .dead, .dead, .dead, .dead, .dead, .dead, .dead, .dead, .dead, .dead, .dead, .dead, .dead, .dead, .dead, .dead, .dead, .dead, .dead, .dead, .dead, .dead, .dead, .dead, .dead, .dead, .dead, .dead, .dead, .dead, .dead, .dead, .dead, .dead, .dead, .dead, .dead, .dead, .dead, .dead, .dead, .dead, .dead, .dead, .dead, .dead, .dead, .dead, .dead, .dead, .dead, .dead, .dead, .dead, .dead, .dead, .dead, .dead, .dead, .dead, .dead, .dead, .dead, .dead, .dead, .dead, .dead, .dead, .dead, .dead, .dead, .dead, .dead, .dead, .dead, .dead, .dead, .dead, .dead, .dead, .dead, .dead, .dead, .dead, .dead, .dead, .dead, .dead, .dead, .dead, .dead]
def f_law26_KeysStay_B : ICode :=
 (.seq
 (.ops [ iP 6 .id [.c (.bool false)]])
 (.seq
 (.seq
 (.ops [ iP 20 .id [.t 0], iP 21 .lenSlice [.t 20], iP 22 (.bin .gtr) [.t 21, kI 60], iP 23 .id [.t 22], iG 23 false 24 .id [.t 2], iG 23 false 25 .lenSlice [.t 24], iG 23 false 26 (.bin .gtr) [.t 25, kI 100], iP 27 .pick [.t 23, .c (.bool true), .t 26]])
 (.cond (.t 27)
 (.seq
 (.ops [ iP 28 (.call "haberdash/haberdashlaw26.awake" []) [], iP 6 .id [.t 28]])
 .ret)
 .skip))
 (.seq
 (.ops [ iP 7 .id [.c (.slice none 0 0)]])
 (.seq
 (.seq
 (.ops [ iP 8 .id [kI 0]])
 (.block 0
 (.loop [3, 4, 5, 6, 9, 10, 11, 12, 13, 14, 15, 16, 17, 18, 19, 20, 21, 22, 23, 24, 25, 26, 27, 28, 29, 30, 31, 32, 33, 34, 35, 36, 37, 38, 39, 40, 41, 42, 43, 44, 45, 46, 47, 48, 49, 50, 51, 52, 53, 54, 55, 56, 57, 58, 59, 60, 61, 62, 63, 64, 65, 66, 67, 68, 69, 70, 71, 72, 73, 74, 75, 76, 77, 78, 79, 80, 81, 82, 83, 84, 85, 86, 87, 88, 89, 90, 91, 92, 93, 94, 95, 96, 97, 98, 99, 100, 101, 102, 103, 104, 105, 106, 107, 108, 109, 110, 111, 112, 113, 114, 115, 116, 117, 118, 119, 120, 121, 122, 123, 124, 125, 126, 127, 128, 129, 130, 131, 132, 133, 134, 135, 136, 137, 138, 139, 140, 141, 142, 143, 144, 145, 146] [1, 2, 3] f_law26_KeysStay_L0)))
 (.seq
 (.ops [ iP 56 .id [.t 7], iP 57 .id [.t 1], iP 58 (.call "haberdash/haberdashlaw26.key" []) [.t 57], iP 59 .id [.t 2], iP 60 (.buildSlice 4 false 1 1 [(.int .u8 0)] [(0, 1)]) [.c (.int .u8 9)], iP 61 (.buildF [(.string ⟨#[]⟩), (.slice none 0 0), (.slice none 0 0)] [(0, 1), (1, 1), (2, 1)]) [.t 58, .t 59, .t 60], iP 62 (.call "haberdash/keys.Put" [5]) [.t 56, .t 61], iP 55 .id [.t 62], iP 63 (.extract 0) [.t 55], iP 64 (.extract 1) [.t 55], iP 11 .id [.t 63], iP 12 .id [.t 64]])
 (.seq
 (.seq
 (.ops [ iP 65 .id [.t 12], iP 66 (.bin .eql) [.t 65, kI 8]])
 (.cond (.t 66)
 (.seq
 (.ops [ iP 68 .id [.t 7], iP 69 .id [.t 1], iP 70 (.call "haberdash/haberdashlaw26.key" []) [.t 69], iP 71 .id [.t 2], iP 72 (.call "haberdash/haberdashref25.Ask" [6]) [.t 68, .t 70, .t 71], iP 67 .id [.t 72], iP 73 (.extract 0) [.t 67], iP 74 (.extract 1) [.t 67], iP 13 .id [.t 73], iP 14 .id [.t 74]])
 (.seq
 (.ops [ iP 75 (.call "haberdash/haberdashlaw26.awake" []) [], iP 76 .id [.t 75], iG 76 true 77 .id [.t 14], iG 76 true 78 (.bin .neq) [.t 77, kI 0], iP 79 .pick [.t 76, .t 78, .c (.bool false)], iP 80 .id [.t 79], iG 80 true 81 .id [.t 11], iG 80 true 82 .lenSlice [.t 81], iG 80 true 83 (.bin .eql) [.t 82, kI 0], iP 84 .pick [.t 80, .t 83, .c (.bool false)], iP 6 .id [.t 84]])
 .ret))
 .skip))
 (.seq
 (.seq
 (.ops [ iP 85 (.call "haberdash/haberdashlaw26.awake" []) [], iP 86 (.un .not) [.t 85], iP 87 .id [.t 86], iG 87 false 88 .id [.t 12], iG 87 false 89 (.bin .neq) [.t 88, kI 0], iP 90 .pick [.t 87, .c (.bool true), .t 89], iP 91 .id [.t 90], iG 91 false 92 .id [.t 11], iG 91 false 93 .lenSlice [.t 92], iG 91 false 94 .id [.t 7], iG 91 false 95 .lenSlice [.t 94], iG 91 false 96 (.bin .add) [.t 95, kI 1], iG 91 false 97 (.bin .neq) [.t 93, .t 96], iP 98 .pick [.t 91, .c (.bool true), .t 97]])
 (.cond (.t 98)
 (.seq
 (.ops [ iP 6 .id [.c (.bool false)]])
 .ret)
 .skip))
 (.seq
 (.seq
 (.ops [ iP 15 .id [kI 0]])
 (.block 2
 (.loop [0, 3, 4, 5, 6, 8, 9, 10, 12, 13, 14, 16, 17, 18, 19, 20, 21, 22, 23, 24, 25, 26, 27, 28, 29, 30, 31, 32, 33, 34, 35, 36, 37, 38, 39, 40, 41, 42, 43, 44, 45, 46, 47, 48, 49, 50, 51, 52, 53, 54, 55, 56, 57, 58, 59, 60, 61, 62, 63, 64, 65, 66, 67, 68, 69, 70, 71, 72, 73, 74, 75, 76, 77, 78, 79, 80, 81, 82, 83, 84, 85, 86, 87, 88, 89, 90, 91, 92, 93, 94, 95, 96, 97, 98, 99, 100, 101, 102, 103, 104, 105, 106, 107, 108, 109, 110, 111, 112, 113, 114, 115, 116, 117, 118, 119, 120, 121, 122, 123, 124, 125, 126, 127, 128, 129, 130, 131, 132, 133, 134, 135, 136, 137, 138, 139, 140, 141, 142, 143, 144, 145, 146] [7] f_law26_KeysStay_L1)))
 (.seq
 (.ops [ iP 133 .id [.t 11], iP 134 .id [.t 1], iP 135 (.call "haberdash/haberdashlaw26.key" []) [.t 134], iP 136 .id [.t 2], iP 137 (.call "haberdash/keys.Ask" [8]) [.t 133, .t 135, .t 136], iP 132 .id [.t 137], iP 138 (.extract 0) [.t 132], iP 139 (.extract 1) [.t 132], iP 18 .id [.t 138], iP 19 .id [.t 139]])
 (.seq
 (.ops [ iP 140 .id [.t 19], iP 141 (.bin .eql) [.t 140, kI 1], iP 142 .id [.t 141], iG 142 true 143 .id [.t 18], iG 142 true 144 (.buildSlice 9 false 1 1 [(.int .u8 0)] [(0, 1)]) [.c (.int .u8 9)], iG 142 true 145 (.call "haberdash/haberdashhelp.Bytes" []) [.t 143, .t 144], iP 146 .pick [.t 142, .t 145, .c (.bool false)], iP 6 .id [.t 146]])
 .ret))))))))))
def f_law26_KeysStay : IFn := ⟨147, 10, [.tmp 6], f_law26_KeysStay_B⟩
def f_law26_KeysErrors_B : ICode :=
 (.seq
 (.ops [ iP 4 .id [.c (.bool false)]])
 (.seq
 (.seq
 (.ops [ iP 10 .id [.t 0], iP 11 .lenStr [.t 10], iP 12 (.bin .gtr) [.t 11, kI 60]])
 (.cond (.t 12)
 (.seq
 (.ops [ iP 13 (.call "haberdash/haberdashlaw26.awake" []) [], iP 4 .id [.t 13]])
 .ret)
 .skip))
 (.seq
 (.ops [ iP 14 (.build [(.string ⟨#[]⟩), (.slice none 0 0), (.slice none 0 0)] [(0, 1)]) [.c (.string ⟨#[98]⟩)], iP 15 (.build [(.string ⟨#[]⟩), (.slice none 0 0), (.slice none 0 0)] [(0, 1)]) [.c (.string ⟨#[100]⟩)], iP 16 (.buildSlice 0 false 3 2 [(.string ⟨#[]⟩), (.slice none 0 0), (.slice none 0 0)] [(0, 3), (3, 3)]) [.t 14, .t 15], iP 5 .id [.t 16]])
 (.seq
 (.seq
 (.ops [ iP 17 .id [.t 1], iP 18 (.call "haberdash/haberdashplay.Mod" []) [.t 17, kI 4]])
 (.block 0
 (.seq
 (.ops [ iP 20 (.bin .eql) [.t 18, kI 1], iP 19 .id [.t 20]])
 (.cond (.t 19)
 (.ops [ iP 21 .id [.t 5], iP 22 (.indexAddr 3) [.t 21, kI 0], iP 23 (.fieldAddr 0) [.t 22], iN (.store 1 false) [.t 23, .c (.string ⟨#[100]⟩)]])
 (.seq
 (.ops [ iP 25 (.bin .eql) [.t 18, kI 2], iP 24 .id [.t 25]])
 (.cond (.t 24)
 (.ops [ iP 26 .id [.t 5], iP 27 .id [.t 0], iP 28 (.indexAddr 3) [.t 26, kI 1], iP 29 (.fieldAddr 0) [.t 28], iN (.store 1 false) [.t 29, .t 27]])
 (.seq
 (.ops [ iP 31 (.bin .eql) [.t 18, kI 3], iP 30 .id [.t 31]])
 (.cond (.t 30)
 (.draw [ iP 32 .id [.t 5], iP 33 .id [.t 5], iP 34 .id [.t 5], iP 35 (.indexAddr 3) [.t 34, kI 1], iP 36 (.load 3 true) [.t 35], iP 37 .id [.t 5], iP 38 (.indexAddr 3) [.t 37, kI 0], iP 39 (.load 3 true) [.t 38], iP 40 (.indexAddr 3) [.t 32, kI 0],
 ⟨none, .store 3 false, [.t 40, .t 36], none, [], [0], false⟩, iP 41 (.indexAddr 3) [.t 33, kI 1],
 ⟨none, .store 3 false, [.t 41, .t 39], none, [], [0], false⟩])
 .skip))))))))
 (.seq
 (.ops [ iP 43 .id [.t 5], iP 44 .id [.t 0], iP 45 (.build [(.string ⟨#[]⟩), (.slice none 0 0), (.slice none 0 0)] [(0, 1)]) [.t 44], iP 46 (.call "haberdash/keys.Put" [1]) [.t 43, .t 45], iP 42 .id [.t 46], iP 47 (.extract 0) [.t 42], iP 48 (.extract 1) [.t 42], iP 6 .id [.t 47], iP 7 .id [.t 48]])
 (.seq
 (.ops [ iP 50 .id [.t 5], iP 51 .id [.t 0], iP 52 (.build [(.string ⟨#[]⟩), (.slice none 0 0), (.slice none 0 0)] [(0, 1)]) [.t 51], iP 53 (.call "haberdash/haberdashref25.Put" [2]) [.t 50, .t 52], iP 49 .id [.t 53], iP 54 (.extract 0) [.t 49], iP 55 (.extract 1) [.t 49], iP 8 .id [.t 54], iP 9 .id [.t 55]])
 (.seq
 (.ops [ iP 56 (.call "haberdash/haberdashlaw26.awake" []) [], iP 57 .id [.t 56], iG 57 true 58 .id [.t 7], iG 57 true 59 .id [.t 9], iG 57 true 60 (.bin .eql) [.t 58, .t 59], iP 61 .pick [.t 57, .t 60, .c (.bool false)], iP 62 .id [.t 61], iG 62 true 63 .id [.t 5], iG 62 true 64 (.call "haberdash/keys.Right" []) [.t 63], iG 62 true 65 .id [.t 5], iG 62 true 66 (.call "haberdash/haberdashref25.Keys" []) [.t 65], iG 62 true 67 (.eqBool false) [.t 64, .t 66], iP 68 .pick [.t 62, .t 67, .c (.bool false)], iP 4 .id [.t 68]])
 .ret)))))))
def f_law26_KeysErrors : IFn := ⟨69, 3, [.tmp 4], f_law26_KeysErrors_B⟩
def f_law26_few_L0 : ICode :=
 (.seq
 (.seq
 (.ops [ iP 4 .id [.t 3], iP 5 .id [.t 0], iP 6 .lenSlice [.t 5], iP 7 (.bin .lss) [.t 4, .t 6]])
 (.cond (.t 7)
 .skip
 (.exit 0)))
 (.seq
 (.block 1
 (.seq
 (.ops [ iP 10 .id [.t 0], iP 11 .id [.t 3], iP 12 (.indexAddr 3) [.t 10, .t 11], iP 13 (.fieldAddr 1) [.t 12], iP 14 (.load 1 false) [.t 13], iP 15 .lenSlice [.t 14], iP 16 (.bin .gtr) [.t 15, kI 300], iP 17 .id [.t 16], iG 17 false 18 .id [.t 0], iG 17 false 19 .id [.t 3], iG 17 false 20 (.indexAddr 3) [.t 18, .t 19], iG 17 false 21 (.fieldAddr 2) [.t 20], iG 17 false 22 (.load 1 false) [.t 21], iG 17 false 23 .lenSlice [.t 22], iG 17 false 24 (.bin .gtr) [.t 23, kI 300], iP 25 .pick [.t 17, .c (.bool true), .t 24]])
 (.cond (.t 25)
 (.seq
 (.ops [ iP 2 .id [.c (.bool false)]])
 .ret)
 .skip)))
 (.ops [ iP 8 .id [.t 3], iP 9 (.bin .add) [.t 8, kI 1], iP 3 .id [.t 9]])))
def f_law26_few_B : ICode :=
 (.seq
 (.ops [ iP 2 .id [.c (.bool false)]])
 (.seq
 (.seq
 (.ops [ iP 3 .id [kI 0]])
 (.block 0
 (.loop [1, 2, 4, 5, 6, 7, 8, 9, 10, 11, 12, 13, 14, 15, 16, 17, 18, 19, 20, 21, 22, 23, 24, 25, 26, 27, 28] [] f_law26_few_L0)))
 (.seq
 (.ops [ iP 26 .id [.t 0], iP 27 .lenSlice [.t 26], iP 28 (.bin .leq) [.t 27, kI 60], iP 2 .id [.t 28]])
 .ret)))
def f_law26_few : IFn := ⟨29, 0, [.tmp 2], f_law26_few_B⟩
def f_law26_awake_B : ICode :=
 (.seq
 (.ops [ iP 0 .id [.c (.bool false)]])
 (.seq
 (.ops [ iP 8 (.buildSlice 0 false 1 1 [(.int .u8 0)] [(0, 1)]) [.c (.int .u8 120)], iP 9 .bytesBytes [.t 8], iP 10 (.buildSlice 1 false 1 1 [(.int .u8 0)] [(0, 1)]) [.c (.int .u8 121)], iP 11 .bytesBytes [.t 10], iP 12 (.buildF [(.string ⟨#[]⟩), (.slice none 0 0), (.slice none 0 0)] [(0, 1), (1, 1), (2, 1)]) [.c (.string ⟨#[97]⟩), .t 9, .t 11], iP 13 (.call "haberdash/keys.Put" [2]) [.c (.slice none 0 0), .t 12], iP 7 .id [.t 13], iP 14 (.extract 0) [.t 7], iP 15 (.extract 1) [.t 7], iP 1 .id [.t 14], iP 2 .id [.t 15]])
 (.seq
 (.ops [ iP 17 .id [.t 1], iP 18 (.buildSlice 3 false 1 1 [(.int .u8 0)] [(0, 1)]) [.c (.int .u8 120)], iP 19 .bytesBytes [.t 18], iP 20 (.call "haberdash/keys.Ask" [4]) [.t 17, .c (.string ⟨#[97]⟩), .t 19], iP 16 .id [.t 20], iP 21 (.extract 0) [.t 16], iP 22 (.extract 1) [.t 16], iP 3 .id [.t 21], iP 4 .id [.t 22]])
 (.seq
 (.ops [ iP 24 .id [.t 1], iP 25 (.buildSlice 5 false 1 1 [(.int .u8 0)] [(0, 1)]) [.c (.int .u8 122)], iP 26 .bytesBytes [.t 25], iP 27 (.call "haberdash/keys.Ask" [6]) [.t 24, .c (.string ⟨#[97]⟩), .t 26], iP 23 .id [.t 27], iP 28 (.extract 0) [.t 23], iP 29 (.extract 1) [.t 23], iP 5 .id [.t 28], iP 6 .id [.t 29]])
 (.seq
 (.ops [ iP 30 .id [.t 2], iP 31 (.bin .eql) [.t 30, kI 0], iP 32 .id [.t 31], iG 32 true 33 .id [.t 3], iG 32 true 34 (.buildSlice 7 false 1 1 [(.int .u8 0)] [(0, 1)]) [.c (.int .u8 121)], iG 32 true 35 .bytesBytes [.t 34], iG 32 true 36 (.call "haberdash/haberdashhelp.Bytes" []) [.t 33, .t 35], iP 37 .pick [.t 32, .t 36, .c (.bool false)], iP 38 .id [.t 37], iG 38 true 39 .id [.t 4], iG 38 true 40 (.bin .eql) [.t 39, kI 1], iP 41 .pick [.t 38, .t 40, .c (.bool false)], iP 42 .id [.t 41], iG 42 true 43 .id [.t 6], iG 42 true 44 (.bin .eql) [.t 43, kI 2], iP 45 .pick [.t 42, .t 44, .c (.bool false)], iP 46 .id [.t 45], iG 46 true 47 .id [.t 1], iG 46 true 48 (.call "haberdash/keys.Right" []) [.t 47], iP 49 .pick [.t 46, .t 48, .c (.bool false)], iP 0 .id [.t 49]])
 .ret)))))
def f_law26_awake : IFn := ⟨50, 8, [.tmp 0], f_law26_awake_B⟩
def f_keys_Put_B : ICode :=
 (.seq
 (.ops [ iP 3 (.box 0) [.t 1], iP 4 .id [.c (.slice none 0 0)], iP 5 .id [kI 0]])
 (.seq
 (.seq
 (.ops [ iP 8 .id [.t 0], iP 9 (.call "haberdash/keys.Right" []) [.t 8], iP 10 (.un .not) [.t 9], iP 11 .id [.t 10], iG 11 false 12 (.fieldAddr 0) [.t 3], iG 11 false 13 (.load 1 false) [.t 12], iG 11 false 14 (.call "haberdash/goods.Name" []) [.t 13], iG 11 false 15 (.un .not) [.t 14], iP 16 .pick [.t 11, .c (.bool true), .t 15]])
 (.cond (.t 16)
 (.seq
 (.ops [ iP 4 .id [.c (.slice none 0 0)], iP 5 .id [kI 2]])
 .ret)
 .skip))
 (.seq
 (.seq
 (.ops [ iP 18 .id [.t 0], iP 19 (.fieldAddr 0) [.t 3], iP 20 (.load 1 false) [.t 19], iP 21 (.call "haberdash/keys.find" []) [.t 18, .t 20], iP 17 .id [.t 21], iP 22 (.extract 0) [.t 17], iP 23 (.extract 1) [.t 17], iP 6 .id [.t 22], iP 7 .id [.t 23]])
 (.seq
 (.ops [ iP 24 .id [.t 7]])
 (.cond (.t 24)
 (.seq
 (.ops [ iP 4 .id [.c (.slice none 0 0)], iP 5 .id [kI 8]])
 .ret)
 .skip)))
 (.seq
 (.seq
 (.ops [ iP 25 .id [.t 0], iP 26 .lenSlice [.t 25], iP 27 (.bin .geq) [.t 26, kI 4000]])
 (.cond (.t 27)
 (.seq
 (.ops [ iP 4 .id [.c (.slice none 0 0)], iP 5 .id [kI 6]])
 .ret)
 .skip))
 (.seq
 (.ops [ iP 28 .id [.t 0], iP 29 (.load 3 true) [.t 3], iP 30 (.call "haberdash/keys.Insert" [1]) [.t 28, .t 29], iP 31 (.call "haberdash/keys.Clone" [2]) [.t 30], iP 4 .id [.t 31], iP 5 .id [kI 0]])
 .ret)))))
def f_keys_Put : IFn := ⟨32, 3, [.tmp 4, .tmp 5], f_keys_Put_B⟩
def f_ref25_Put_L0 : ICode :=
 (.seq
 (.seq
 (.draw [ iP 16 .id [.t 6], iP 17 .id [.t 0], iP 18 .lenSlice [.t 17], iP 19 (.bin .lss) [.t 16, .t 18], iP 20 .id [.t 19], iG 20 true 21 .id [.t 0], iG 20 true 22 .id [.t 6], iG 20 true 23 (.indexAddr 3) [.t 21, .t 22], iG 20 true 24 (.fieldAddr 0) [.t 23], iG 20 true 25 (.load 1 false) [.t 24], iG 20 true 26 (.fieldAddr 0) [.t 3], iG 20 true 27 (.load 1 false) [.t 26], iG 20 true 28 (.bin .lss) [.t 25, .t 27], iP 29 .pick [.t 20, .t 28, .c (.bool false)]])
 (.cond (.t 29)
 .skip
 (.exit 0)))
 (.block 1
 (.ops [ iP 30 .id [.t 6], iP 31 (.bin .add) [.t 30, kI 1], iP 6 .id [.t 31]])))
def f_ref25_Put_H0 (t0 t3 t6 : AV) : List AV := [t0, .dead, .dead, t3, .dead, .dead, t6, .dead, .dead, .dead, .dead, .dead, .dead, .dead, .dead, .dead, .dead, .dead, .dead, .dead, .dead, .dead, .dead, .dead, .dead, .dead, .dead, .dead, .dead, .dead, .dead, .dead, .dead, .dead, .dead, .dead, .dead, .dead, .dead, .dead, .dead, .dead, .dead, .dead, .dead, .dead, .dead, .dead, .dead, .dead, .dead, .dead, .dead, .dead, .dead, .dead, .dead, .dead, .dead, .dead]
def f_ref25_Put_B : ICode :=
 (.seq
 (.ops [ iP 3 (.box 0) [.t 1], iP 4 .id [.c (.slice none 0 0)], iP 5 .id [kI 0]])
 (.seq
 (.seq
 (.ops [ iP 7 .id [.t 0], iP 8 (.call "haberdash/haberdashref25.Keys" []) [.t 7], iP 9 (.un .not) [.t 8], iP 10 .id [.t 9], iG 10 false 11 (.fieldAddr 0) [.t 3], iG 10 false 12 (.load 1 false) [.t 11], iG 10 false 13 (.call "haberdash/haberdashref10.Name" []) [.t 12], iG 10 false 14 (.un .not) [.t 13], iP 15 .pick [.t 10, .c (.bool true), .t 14]])
 (.cond (.t 15)
 (.seq
 (.ops [ iP 4 .id [.c (.slice none 0 0)], iP 5 .id [kI 2]])
 .ret)
 .skip))
 (.seq
 (.ops [ iP 6 .id [kI 0]])
 (.seq
 (.block 0
 (.loop [1, 2, 4, 5, 7, 8, 9, 10, 11, 12, 13, 14, 15, 16, 17, 18, 19, 20, 21, 22, 23, 24, 25, 26, 27, 28, 29, 30, 31, 32, 33, 34, 35, 36, 37, 38, 39, 40, 41, 42, 43, 44, 45, 46, 47, 48, 49, 50, 51, 52, 53, 54, 55, 56, 57, 58, 59] [] f_ref25_Put_L0))
 (.seq
 (.seq
 (.draw [ iP 32 .id [.t 6], iP 33 .id [.t 0], iP 34 .lenSlice [.t 33], iP 35 (.bin .lss) [.t 32, .t 34], iP 36 .id [.t 35], iG 36 true 37 .id [.t 0], iG 36 true 38 .id [.t 6], iG 36 true 39 (.indexAddr 3) [.t 37, .t 38], iG 36 true 40 (.fieldAddr 0) [.t 39], iG 36 true 41 (.load 1 false) [.t 40], iG 36 true 42 (.fieldAddr 0) [.t 3], iG 36 true 43 (.load 1 false) [.t 42], iG 36 true 44 (.bin .eql) [.t 41, .t 43], iP 45 .pick [.t 36, .t 44, .c (.bool false)]])
 (.cond (.t 45)
 (.seq
 (.ops [ iP 4 .id [.c (.slice none 0 0)], iP 5 .id [kI 8]])
 .ret)
 .skip))
 (.seq
 (.seq
 (.ops [ iP 46 .id [.t 0], iP 47 .lenSlice [.t 46], iP 48 (.bin .geq) [.t 47, kI 4000]])
 (.cond (.t 48)
 (.seq
 (.ops [ iP 4 .id [.c (.slice none 0 0)], iP 5 .id [kI 6]])
 .ret)
 .skip))
 (.seq
 (.draw [ iP 49 .id [.t 0], iP 50 .id [.t 6], iP 51 (.slice 3 false true false) [.t 49, .t 50],
 ⟨some 52, .append 1 false 3 64, [.c (.slice none 0 0), .t 51], none, [2], [], false⟩,
 ⟨some 53, .load 3 true, [.t 3], none, [1], [], false⟩,
 ⟨some 54, .buildSlice 2 false 3 1 [(.string ⟨#[]⟩), (.slice none 0 0), (.slice none 0 0)] [(0, 3)], [.t 53], none, [1], [], false⟩,
 ⟨some 55, .append 3 false 3 64, [.t 52, .t 54], none, [], [1], false⟩, iP 56 .id [.t 0], iP 57 .id [.t 6], iP 58 (.slice 3 true false false) [.t 56, .t 57],
 ⟨some 59, .append 4 false 3 64, [.t 55, .t 58], none, [], [3, 1], false⟩, iP 4 .id [.t 59], iP 5 .id [kI 0]])
 .ret)))))))
def f_ref25_Put : IFn := ⟨60, 5, [.tmp 4, .tmp 5], f_ref25_Put_B⟩
def f_keys_Ask_B : ICode :=
 (.seq
 (.ops [ iP 6 .id [.c (.slice none 0 0)], iP 7 .id [kI 0]])
 (.seq
 (.ops [ iP 11 .id [.t 0], iP 12 .id [.t 1], iP 13 (.call "haberdash/keys.find" []) [.t 11, .t 12], iP 10 .id [.t 13], iP 14 (.extract 0) [.t 10], iP 15 (.extract 1) [.t 10], iP 8 .id [.t 14], iP 9 .id [.t 15]])
 (.seq
 (.block 0
 (.seq
 (.ops [ iP 17 .id [.t 9], iP 18 (.un .not) [.t 17], iP 16 .id [.t 18]])
 (.cond (.t 16)
 (.seq
 (.ops [ iP 6 .id [.c (.slice none 0 0)], iP 7 .id [kI 0]])
 .ret)
 (.seq
 (.ops [ iP 20 .id [.t 0], iP 21 .id [.t 8], iP 22 (.indexAddr 3) [.t 20, .t 21], iP 23 (.fieldAddr 1) [.t 22], iP 24 (.load 1 false) [.t 23], iP 25 .id [.t 2], iP 26 (.call "bytes.Equal" []) [.t 24, .t 25], iP 27 (.un .not) [.t 26], iP 19 .id [.t 27]])
 (.cond (.t 19)
 (.seq
 (.ops [ iP 6 .id [.c (.slice none 0 0)], iP 7 .id [kI 2]])
 .ret)
 .skip)))))
 (.seq
 (.ops [ iP 28 .id [.t 0], iP 29 .id [.t 8], iP 30 (.indexAddr 3) [.t 28, .t 29], iP 31 (.fieldAddr 2) [.t 30], iP 32 (.load 1 false) [.t 31], iP 33 (.call "bytes.Clone" [0]) [.t 32], iP 6 .id [.t 33], iP 7 .id [kI 1]])
 .ret))))
def f_keys_Ask : IFn := ⟨34, 1, [.tmp 6, .tmp 7], f_keys_Ask_B⟩
def f_ref25_Ask_L0 : ICode :=
 (.seq
 (.seq
 (.ops [ iP 9 .id [.t 8], iP 10 .id [.t 0], iP 11 .lenSlice [.t 10], iP 12 (.bin .lss) [.t 9, .t 11]])
 (.cond (.t 12)
 .skip
 (.exit 0)))
 (.seq
 (.block 1
 (.seq
 (.seq
 (.ops [ iP 15 .id [.t 0], iP 16 .id [.t 8], iP 17 (.indexAddr 3) [.t 15, .t 16], iP 18 (.fieldAddr 0) [.t 17], iP 19 (.load 1 false) [.t 18], iP 20 .id [.t 1], iP 21 (.bin .neq) [.t 19, .t 20]])
 (.cond (.t 21)
 (.exit 1)
 .skip))
 (.seq
 (.seq
 (.draw [ iP 22 .id [.t 0], iP 23 .id [.t 8], iP 24 (.indexAddr 3) [.t 22, .t 23], iP 25 (.fieldAddr 1) [.t 24], iP 26 (.load 1 false) [.t 25], iP 27 .bytesStr [.t 26], iP 28 .id [.t 2], iP 29 .bytesStr [.t 28], iP 30 (.bin .neq) [.t 27, .t 29]])
 (.cond (.t 30)
 (.seq
 (.ops [ iP 6 .id [.c (.slice none 0 0)], iP 7 .id [kI 2]])
 .ret)
 .skip))
 (.seq
 (.ops [ iP 31 .id [.t 0], iP 32 .id [.t 8], iP 33 (.indexAddr 3) [.t 31, .t 32], iP 34 (.fieldAddr 2) [.t 33], iP 35 (.load 1 false) [.t 34], iP 36 (.append 0 false 1 1) [.c (.slice none 0 0), .t 35], iP 6 .id [.t 36], iP 7 .id [kI 1]])
 .ret))))
 (.ops [ iP 13 .id [.t 8], iP 14 (.bin .add) [.t 13, kI 1], iP 8 .id [.t 14]])))
def f_ref25_Ask_H0 (t0 t1 t2 t8 : AV) : List AV := [t0, t1, t2, .dead, .dead, .dead, .dead, .dead, t8, .dead, .dead, .dead, .dead, .dead, .dead, .dead, .dead, .dead, .dead, .dead, .dead, .dead, .dead, .dead, .dead, .dead, .dead, .dead, .dead, .dead, .dead, .dead, .dead, .dead, .dead, .dead, .dead]
def f_ref25_Ask_B : ICode :=
 (.seq
 (.ops [ iP 6 .id [.c (.slice none 0 0)], iP 7 .id [kI 0]])
 (.seq
 (.seq
 (.ops [ iP 8 .id [kI 0]])
 (.block 0
 (.loop [3, 4, 5, 6, 7, 9, 10, 11, 12, 13, 14, 15, 16, 17, 18, 19, 20, 21, 22, 23, 24, 25, 26, 27, 28, 29, 30, 31, 32, 33, 34, 35, 36] [0] f_ref25_Ask_L0)))
 (.seq
 (.ops [ iP 6 .id [.c (.slice none 0 0)], iP 7 .id [kI 0]])
 .ret)))
def f_ref25_Ask : IFn := ⟨37, 1, [.tmp 6, .tmp 7], f_ref25_Ask_B⟩
def f_keys_Right_L0 : ICode :=
 (.seq
 (.ops [ iP 12 (.bin .lss) [.t 11, .t 10]])
 (.seq
 (.cond (.t 12)
 .skip
 (.exit 0))
 (.seq
 (.block 1
 (.seq
 (.ops [ iP 13 (.indexAddr 3) [.t 9, .t 11], iP 14 (.load 3 true) [.t 13], iP 5 (.alloc 1 [(.string ⟨#[]⟩), (.slice none 0 0), (.slice none 0 0)] []) [], iN (.store 3 false) [.t 5, .t 14]])
 (.seq
 (.seq
 (.ops [ iP 15 (.fieldAddr 0) [.t 5], iP 16 (.load 1 false) [.t 15], iP 17 (.call "haberdash/goods.Name" []) [.t 16], iP 18 (.un .not) [.t 17]])
 (.cond (.t 18)
 (.seq
 (.ops [ iP 2 .id [.c (.bool false)]])
 .ret)
 .skip))
 (.ops [ iP 19 .id [.t 3], iP 20 (.fieldAddr 0) [.t 5], iP 21 (.load 1 false) [.t 20], iP 22 (.buildSlice 2 false 1 1 [(.string ⟨#[]⟩)] [(0, 1)]) [.t 21], iP 23 (.append 3 false 1 16) [.t 19, .t 22], iP 3 .id [.t 23]]))))
 (.ops [ iP 24 (.bin .add) [.t 11, kI 1], iP 11 .id [.t 24]]))))
def f_keys_Right_H0 (t3 t9 t10 t11 : AV) : List AV := [.dead, .dead, .dead, t3, .dead, .dead, .dead, .dead, .dead, t9, t10, t11, .dead, .dead, .dead, .dead, .dead, .dead, .dead, .dead, .dead, .dead, .dead, .dead, .dead, .dead, .dead]
def f_keys_Right_B : ICode :=
 (.seq
 (.ops [ iP 2 .id [.c (.bool false)]])
 (.seq
 (.seq
 (.ops [ iP 6 .id [.t 0], iP 7 .lenSlice [.t 6], iP 8 (.bin .gtr) [.t 7, kI 4000]])
 (.cond (.t 8)
 (.seq
 (.ops [ iP 2 .id [.c (.bool false)]])
 .ret)
 .skip))
 (.seq
 (.ops [ iP 3 (.nilv 0 1) [.c (.slice none 0 0)]])
 (.seq
 (.seq
 (.ops [ iP 9 .id [.t 0], iP 10 .lenSlice [.t 9], iP 11 .id [kI 0]])
 (.block 0
 (.loop [0, 1, 2, 4, 5, 6, 7, 8, 12, 13, 14, 15, 16, 17, 18, 19, 20, 21, 22, 23, 24, 25, 26] [1, 2, 3] f_keys_Right_L0)))
 (.seq
 (.ops [ iP 25 .id [.t 3], iP 26 (.call "haberdash/goods.Rise" []) [.t 25], iP 2 .id [.t 26]])
 .ret)))))
def f_keys_Right : IFn := ⟨27, 4, [.tmp 2], f_keys_Right_B⟩
def f_ref25_Keys_L0 : ICode :=
 (.seq
 (.seq
 (.ops [ iP 4 .id [.t 3], iP 5 .id [.t 0], iP 6 .lenSlice [.t 5], iP 7 (.bin .lss) [.t 4, .t 6]])
 (.cond (.t 7)
 .skip
 (.exit 0)))
 (.seq
 (.block 1
 (.seq
 (.draw [ iP 10 .id [.t 0], iP 11 .id [.t 3], iP 12 (.indexAddr 3) [.t 10, .t 11], iP 13 (.fieldAddr 0) [.t 12], iP 14 (.load 1 false) [.t 13], iP 15 (.call "haberdash/haberdashref10.Name" []) [.t 14], iP 16 (.un .not) [.t 15], iP 17 .id [.t 16], iG 17 false 18 .id [.t 3], iG 17 false 19 (.bin .gtr) [.t 18, kI 0], iG 17 false 20 .id [.t 19], iG 20 true 21 .id [.t 0], iG 20 true 22 .id [.t 3], iG 20 true 23 (.indexAddr 3) [.t 21, .t 22], iG 20 true 24 (.fieldAddr 0) [.t 23], iG 20 true 25 (.load 1 false) [.t 24], iG 20 true 26 .id [.t 0], iG 20 true 27 .id [.t 3], iG 20 true 28 (.bin .sub) [.t 27, kI 1], iG 20 true 29 (.indexAddr 3) [.t 26, .t 28], iG 20 true 30 (.fieldAddr 0) [.t 29], iG 20 true 31 (.load 1 false) [.t 30], iG 20 true 32 (.bin .leq) [.t 25, .t 31], iG 17 false 33 .pick [.t 20, .t 32, .c (.bool false)], iP 34 .pick [.t 17, .c (.bool true), .t 33]])
 (.cond (.t 34)
 (.seq
 (.ops [ iP 2 .id [.c (.bool false)]])
 .ret)
 .skip)))
 (.ops [ iP 8 .id [.t 3], iP 9 (.bin .add) [.t 8, kI 1], iP 3 .id [.t 9]])))
def f_ref25_Keys_H0 (t0 t3 : AV) : List AV := [t0, .dead, .dead, t3, .dead, .dead, .dead, .dead, .dead, .dead, .dead, .dead, .dead, .dead, .dead, .dead, .dead, .dead, .dead, .dead, .dead, .dead, .dead, .dead, .dead, .dead, .dead, .dead, .dead, .dead, .dead, .dead, .dead, .dead, .dead, .dead, .dead, .dead]
def f_ref25_Keys_B : ICode :=
 (.seq
 (.ops [ iP 2 .id [.c (.bool false)]])
 (.seq
 (.seq
 (.ops [ iP 3 .id [kI 0]])
 (.block 0
 (.loop [1, 2, 4, 5, 6, 7, 8, 9, 10, 11, 12, 13, 14, 15, 16, 17, 18, 19, 20, 21, 22, 23, 24, 25, 26, 27, 28, 29, 30, 31, 32, 33, 34, 35, 36, 37] [] f_ref25_Keys_L0)))
 (.seq
 (.ops [ iP 35 .id [.t 0], iP 36 .lenSlice [.t 35], iP 37 (.bin .leq) [.t 36, kI 4000], iP 2 .id [.t 37]])
 .ret)))
def f_ref25_Keys : IFn := ⟨38, 0, [.tmp 2], f_ref25_Keys_B⟩
def f_help_Seen_B : ICode :=
 (.seq
 (.ops [ iP 2 (.box 0) [.t 0], iP 3 (.box 1) [.t 1], iP 4 .id [.c (.bool false)]])
 (.seq
 (.ops [ iP 5 (.fieldAddr 0) [.t 2], iP 6 (.load 1 false) [.t 5], iP 7 (.fieldAddr 0) [.t 3], iP 8 (.load 1 false) [.t 7], iP 9 (.bin .eql) [.t 6, .t 8], iP 10 .id [.t 9], iG 10 true 11 (.fieldAddr 1) [.t 2], iG 10 true 12 (.load 1 false) [.t 11], iG 10 true 13 (.fieldAddr 1) [.t 3], iG 10 true 14 (.load 1 false) [.t 13], iG 10 true 15 (.call "haberdash/haberdashhelp.Bytes" []) [.t 12, .t 14], iP 16 .pick [.t 10, .t 15, .c (.bool false)], iP 17 .id [.t 16], iG 17 true 18 (.fieldAddr 2) [.t 2], iG 17 true 19 (.load 1 false) [.t 18], iG 17 true 20 (.fieldAddr 2) [.t 3], iG 17 true 21 (.load 1 false) [.t 20], iG 17 true 22 (.call "haberdash/haberdashhelp.Bytes" []) [.t 19, .t 21], iP 23 .pick [.t 17, .t 22, .c (.bool false)], iP 4 .id [.t 23]])
 .ret))
def f_help_Seen : IFn := ⟨24, 2, [.tmp 4], f_help_Seen_B⟩
def f_help_Same_api_Seen__L0 : ICode :=
 (.seq
 (.seq
 (.ops [ iP 13 .id [.t 7], iP 14 .id [.t 0], iP 15 .lenSlice [.t 14], iP 16 (.bin .lss) [.t 13, .t 15]])
 (.cond (.t 16)
 .skip
 (.exit 0)))
 (.seq
 (.block 1
 (.seq
 (.draw [ iP 19 .id [.t 2], iP 20 .id [.t 0], iP 21 .id [.t 7], iP 22 (.indexAddr 3) [.t 20, .t 21], iP 23 (.load 3 true) [.t 22], iP 24 .id [.t 1], iP 25 .id [.t 7], iP 26 (.indexAddr 3) [.t 24, .t 25], iP 27 (.load 3 true) [.t 26], iP 28 (.callV []) [.t 19, .t 23, .t 27], iP 29 (.un .not) [.t 28]])
 (.cond (.t 29)
 (.seq
 (.ops [ iP 6 .id [.c (.bool false)]])
 .ret)
 .skip)))
 (.ops [ iP 17 .id [.t 7], iP 18 (.bin .add) [.t 17, kI 1], iP 7 .id [.t 18]])))
def f_help_Same_api_Seen__B : ICode :=
 (.seq
 (.ops [ iP 6 .id [.c (.bool false)]])
 (.seq
 (.seq
 (.ops [ iP 8 .id [.t 0], iP 9 .lenSlice [.t 8], iP 10 .id [.t 1], iP 11 .lenSlice [.t 10], iP 12 (.bin .neq) [.t 9, .t 11]])
 (.cond (.t 12)
 (.seq
 (.ops [ iP 6 .id [.c (.bool false)]])
 .ret)
 .skip))
 (.seq
 (.seq
 (.ops [ iP 7 .id [kI 0]])
 (.block 0
 (.loop [3, 4, 5, 6, 8, 9, 10, 11, 12, 13, 14, 15, 16, 17, 18, 19, 20, 21, 22, 23, 24, 25, 26, 27, 28, 29] [] f_help_Same_api_Seen__L0)))
 (.seq
 (.ops [ iP 6 .id [.c (.bool true)]])
 .ret))))
def f_help_Same_api_Seen_ : IFn := ⟨30, 0, [.tmp 6], f_help_Same_api_Seen__B⟩
def f_law26_key_B : ICode :=
 (.seq
 (.ops [ iP 2 .id [.c (.string ⟨#[]⟩)]])
 (.seq
 (.ops [ iP 3 .id [.t 0], iP 4 (.call "haberdash/haberdashplay.Sku" []) [.t 3], iP 5 (.bin .add) [.c (.string ⟨#[107]⟩), .t 4], iP 6 .id [.t 0], iP 7 (.bin .quo) [.t 6, kI 8], iP 8 (.call "haberdash/haberdashplay.Sku" []) [.t 7], iP 9 (.bin .add) [.t 5, .t 8], iP 2 .id [.t 9]])
 .ret))
def f_law26_key : IFn := ⟨10, 0, [.tmp 2], f_law26_key_B⟩
def f_keys_find_B : ICode :=
 (.seq
 (.ops [ iP 3 (.box 0) [.t 1], iP 4 .id [kI 0], iP 5 .id [.c (.bool false)]])
 (.seq
 (.ops [ iP 8 (.load 1 false) [.t 3], iP 9 (.build [(.string ⟨#[]⟩), (.slice none 0 0), (.slice none 0 0)] [(0, 1)]) [.t 8], iP 6 (.alloc 1 [(.string ⟨#[]⟩), (.slice none 0 0), (.slice none 0 0)] []) [], iN (.store 3 false) [.t 6, .t 9]])
 (.seq
 (.seq
 (.ops [ iP 10 .id [.t 0], iP 11 (.call "slices.IsSortedFunc[[]haberdash/api.Seen,haberdash/api.Seen]" []) [.t 10, .f "haberdash/keys.byKey"]])
 (.cond (.t 11)
 (.seq
 (.ops [ iP 12 .id [.t 0], iP 13 (.load 3 true) [.t 6], iP 14 (.call "slices.BinarySearchFunc[[]haberdash/api.Seen,haberdash/api.Seen,haberdash/api.Seen]" []) [.t 12, .t 13, .f "haberdash/keys.byKey"], iP 15 (.extract 0) [.t 14], iP 16 (.extract 1) [.t 14], iP 4 .id [.t 15], iP 5 .id [.t 16]])
 .ret)
 .skip))
 (.seq
 (.ops [ iP 17 .id [.t 0], iP 18 (.makeFunc "haberdash/keys.find$1" 0) [.t 3], iP 19 (.call "slices.IndexFunc[[]haberdash/api.Seen,haberdash/api.Seen]" []) [.t 17, .t 18], iP 7 .id [.t 19]])
 (.seq
 (.ops [ iP 20 .id [.t 7], iP 21 .id [.t 7], iP 22 (.bin .geq) [.t 21, kI 0], iP 4 .id [.t 20], iP 5 .id [.t 22]])
 .ret)))))
def f_keys_find : IFn := ⟨23, 2, [.tmp 4, .tmp 5], f_keys_find_B⟩
def f_keys_Insert_B : ICode :=
 (.seq
 (.ops [ iP 3 (.box 0) [.t 1], iP 4 .id [.c (.slice none 0 0)]])
 (.seq
 (.ops [ iP 8 .id [.t 0], iP 9 (.fieldAddr 0) [.t 3], iP 10 (.load 1 false) [.t 9], iP 11 (.call "haberdash/keys.find" []) [.t 8, .t 10], iP 7 .id [.t 11], iP 12 (.extract 0) [.t 7], iP 13 (.extract 1) [.t 7], iP 5 .id [.t 12], iP 6 .id [.t 13]])
 (.seq
 (.draw [ iP 14 .id [.t 0],
 ⟨some 15, .call "slices.Clone[[]haberdash/api.Seen,haberdash/api.Seen]" [1], [.t 14], none, [2], [], false⟩, iP 16 .id [.t 5], iP 17 .max [.t 16, kI 0],
 ⟨some 18, .load 3 true, [.t 3], none, [1], [], false⟩,
 ⟨some 19, .buildPlain 2 3 1 [(.string ⟨#[]⟩), (.slice none 0 0), (.slice none 0 0)] [(0, 3)], [.t 18], none, [1], [], false⟩,
 ⟨some 20, .call "slices.Insert[[]haberdash/api.Seen,haberdash/api.Seen]" [3], [.t 15, .t 17, .t 19], none, [], [1, 2], true⟩, iP 4 .id [.t 20]])
 .ret)))
def f_keys_Insert : IFn := ⟨21, 4, [.tmp 4], f_keys_Insert_B⟩
def f_keys_Clone_L0 : ICode :=
 (.seq
 (.ops [ iP 11 (.bin .lss) [.t 10, .t 9]])
 (.seq
 (.cond (.t 11)
 .skip
 (.exit 0))
 (.seq
 (.block 1
 (.seq
 (.ops [ iP 12 .id [.t 10], iP 13 (.indexAddr 3) [.t 8, .t 10], iP 14 (.load 3 true) [.t 13], iP 5 (.alloc 3 [(.string ⟨#[]⟩), (.slice none 0 0), (.slice none 0 0)] []) [], iP 4 .id [.t 12], iN (.store 3 false) [.t 5, .t 14]])
 (.draw [ iP 15 .id [.t 3], iP 16 .id [.t 4], iP 17 .id [.t 3], iP 18 .id [.t 4], iP 19 (.fieldAddr 1) [.t 5], iP 20 (.load 1 false) [.t 19], iP 21 (.call "bytes.Clone" [0]) [.t 20], iP 22 (.fieldAddr 2) [.t 5],
 ⟨some 23, .load 1 false, [.t 22], none, [0], [], false⟩, iP 24 (.call "bytes.Clone" [1]) [.t 23], iP 25 (.indexAddr 3) [.t 15, .t 16], iP 26 (.fieldAddr 1) [.t 25],
 ⟨none, .store 1 true, [.t 26, .t 21], none, [], [2], true⟩, iP 27 (.indexAddr 3) [.t 17, .t 18], iP 28 (.fieldAddr 2) [.t 27],
 ⟨none, .store 1 true, [.t 28, .t 24], none, [], [2], true⟩])))
 (.ops [ iP 29 (.bin .add) [.t 10, kI 1], iP 10 .id [.t 29]]))))
def f_keys_Clone_H0 (t3 t8 t9 t10 : AV) : List AV := [.dead, .dead, .dead, t3, .dead, .dead, .dead, .dead, t8, t9, t10, .dead, .dead, .dead, .dead, .dead, .dead, .dead, .dead, .dead, .dead, .dead, .dead, .dead, .dead, .dead, .dead, .dead, .dead, .dead, .dead]
def f_keys_Clone_B : ICode :=
 (.seq
 (.ops [ iP 2 .id [.c (.slice none 0 0)]])
 (.seq
 (.ops [ iP 6 .id [.t 0], iP 7 (.call "slices.Clone[[]haberdash/api.Seen,haberdash/api.Seen]" [2]) [.t 6], iP 3 .id [.t 7]])
 (.seq
 (.seq
 (.ops [ iP 8 .id [.t 3], iP 9 .lenSlice [.t 8], iP 10 .id [kI 0]])
 (.block 0
 (.loop [0, 1, 2, 4, 5, 6, 7, 11, 12, 13, 14, 15, 16, 17, 18, 19, 20, 21, 22, 23, 24, 25, 26, 27, 28, 29, 30] [3, 0, 1] f_keys_Clone_L0)))
 (.seq
 (.ops [ iP 30 .id [.t 3], iP 2 .id [.t 30]])
 .ret))))
def f_keys_Clone : IFn := ⟨31, 4, [.tmp 2], f_keys_Clone_B⟩
def f_bytes_Equal_B : ICode :=
 (.seq
 (.ops [ iP 4 .id [.c (.bool false)]])
 (.seq
 (.ops [ iP 5 .id [.t 0], iP 6 .bytesStr [.t 5], iP 7 .id [.t 1], iP 8 .bytesStr [.t 7], iP 9 (.bin .eql) [.t 6, .t 8], iP 4 .id [.t 9]])
 .ret))
def f_bytes_Equal : IFn := ⟨10, 0, [.tmp 4], f_bytes_Equal_B⟩
def f_keys_byKey_B : ICode :=
 (.seq
 (.ops [ iP 2 (.box 0) [.t 0], iP 3 (.box 1) [.t 1], iP 4 .id [kI 0]])
 (.seq
 (.ops [ iP 5 (.fieldAddr 0) [.t 2], iP 6 (.load 1 false) [.t 5], iP 7 (.fieldAddr 0) [.t 3], iP 8 (.load 1 false) [.t 7], iP 9 (.call "cmp.Compare[string]" []) [.t 6, .t 8], iP 4 .id [.t 9]])
 .ret))
def f_keys_byKey : IFn := ⟨10, 2, [.tmp 4], f_keys_byKey_B⟩
def f_slices_IsSortedFunc___api_Seen_api_Seen__L0 : ICode :=
 (.seq
 (.seq
 (.ops [ iP 9 .id [.t 5], iP 10 (.bin .gtr) [.t 9, kI 0]])
 (.cond (.t 10)
 .skip
 (.exit 0)))
 (.seq
 (.block 1
 (.seq
 (.draw [ iP 13 .id [.t 1], iP 14 .id [.t 0], iP 15 .id [.t 5], iP 16 (.indexAddr 3) [.t 14, .t 15], iP 17 (.load 3 true) [.t 16], iP 18 .id [.t 0], iP 19 .id [.t 5], iP 20 (.bin .sub) [.t 19, kI 1], iP 21 (.indexAddr 3) [.t 18, .t 20], iP 22 (.load 3 true) [.t 21], iP 23 (.callV []) [.t 13, .t 17, .t 22], iP 24 (.bin .lss) [.t 23, kI 0]])
 (.cond (.t 24)
 (.seq
 (.ops [ iP 4 .id [.c (.bool false)]])
 .ret)
 .skip)))
 (.ops [ iP 11 .id [.t 5], iP 12 (.bin .sub) [.t 11, kI 1], iP 5 .id [.t 12]])))
def f_slices_IsSortedFunc___api_Seen_api_Seen__B : ICode :=
 (.seq
 (.ops [ iP 4 .id [.c (.bool false)]])
 (.seq
 (.seq
 (.ops [ iP 6 .id [.t 0], iP 7 .lenSlice [.t 6], iP 8 (.bin .sub) [.t 7, kI 1], iP 5 .id [.t 8]])
 (.block 0
 (.loop [2, 3, 4, 6, 7, 8, 9, 10, 11, 12, 13, 14, 15, 16, 17, 18, 19, 20, 21, 22, 23, 24] [] f_slices_IsSortedFunc___api_Seen_api_Seen__L0)))
 (.seq
 (.ops [ iP 4 .id [.c (.bool true)]])
 .ret)))
def f_slices_IsSortedFunc___api_Seen_api_Seen_ : IFn := ⟨25, 0, [.tmp 4], f_slices_IsSortedFunc___api_Seen_api_Seen__B⟩
def f_slices_BinarySearchFunc___api_Seen_api_Seen_api_Seen__L0 : ICode :=
 (.seq
 (.seq
 (.ops [ iP 15 .id [.t 9], iP 16 .id [.t 10], iP 17 (.bin .lss) [.t 15, .t 16]])
 (.cond (.t 17)
 .skip
 (.exit 0)))
 (.block 1
 (.seq
 (.ops [ iP 18 .id [.t 9], iP 19 .id [.t 10], iP 20 (.bin .add) [.t 18, .t 19], iP 21 (.convInt .u64) [.t 20], iP 22 (.bin .shr) [.t 21, .c (.int .u64 1)], iP 23 (.convInt .i64) [.t 22], iP 11 .id [.t 23]])
 (.seq
 (.draw [ iP 24 .id [.t 2], iP 25 .id [.t 0], iP 26 .id [.t 11], iP 27 (.indexAddr 3) [.t 25, .t 26], iP 28 (.load 3 true) [.t 27], iP 29 (.load 3 true) [.t 4], iP 30 (.callV []) [.t 24, .t 28, .t 29], iP 31 (.bin .lss) [.t 30, kI 0]])
 (.cond (.t 31)
 (.ops [ iP 32 .id [.t 11], iP 33 (.bin .add) [.t 32, kI 1], iP 9 .id [.t 33]])
 (.ops [ iP 34 .id [.t 11], iP 10 .id [.t 34]]))))))
def f_slices_BinarySearchFunc___api_Seen_api_Seen_api_Seen__B : ICode :=
 (.seq
 (.ops [ iP 4 (.box 0) [.t 1], iP 6 .id [kI 0], iP 7 .id [.c (.bool false)]])
 (.seq
 (.ops [ iP 12 .id [.t 0], iP 13 .lenSlice [.t 12], iP 8 .id [.t 13]])
 (.seq
 (.ops [ iP 14 .id [.t 8], iP 9 .id [kI 0], iP 10 .id [.t 14]])
 (.seq
 (.block 0
 (.loop [1, 3, 5, 6, 7, 11, 12, 13, 14, 15, 16, 17, 18, 19, 20, 21, 22, 23, 24, 25, 26, 27, 28, 29, 30, 31, 32, 33, 34, 35, 36, 37, 38, 39, 40, 41, 42, 43, 44, 45, 46, 47, 48] [] f_slices_BinarySearchFunc___api_Seen_api_Seen_api_Seen__L0))
 (.seq
 (.draw [ iP 35 .id [.t 9], iP 36 .id [.t 9], iP 37 .id [.t 8], iP 38 (.bin .lss) [.t 36, .t 37], iP 39 .id [.t 38], iG 39 true 40 .id [.t 2], iG 39 true 41 .id [.t 0], iG 39 true 42 .id [.t 9], iG 39 true 43 (.indexAddr 3) [.t 41, .t 42], iG 39 true 44 (.load 3 true) [.t 43], iG 39 true 45 (.load 3 true) [.t 4], iG 39 true 46 (.callV []) [.t 40, .t 44, .t 45], iG 39 true 47 (.bin .eql) [.t 46, kI 0], iP 48 .pick [.t 39, .t 47, .c (.bool false)], iP 6 .id [.t 35], iP 7 .id [.t 48]])
 .ret)))))
def f_slices_BinarySearchFunc___api_Seen_api_Seen_api_Seen_ : IFn := ⟨49, 1, [.tmp 6, .tmp 7], f_slices_BinarySearchFunc___api_Seen_api_Seen_api_Seen__B⟩
def f_keys_find_1_B : ICode :=
 (.seq
 (.ops [ iP 2 (.box 0) [.t 0], iP 3 .id [.c (.bool false)]])
 (.seq
 (.ops [ iP 4 (.fieldAddr 0) [.t 2], iP 5 (.load 1 false) [.t 4], iP 6 (.load 1 false) [.t 1], iP 7 (.bin .eql) [.t 5, .t 6], iP 3 .id [.t 7]])
 .ret))
def f_keys_find_1 : IFn := ⟨8, 1, [.tmp 3], f_keys_find_1_B⟩
def f_slices_IndexFunc___api_Seen_api_Seen__L0 : ICode :=
 (.seq
 (.ops [ iP 9 (.bin .lss) [.t 8, .t 7]])
 (.seq
 (.cond (.t 9)
 .skip
 (.exit 0))
 (.seq
 (.block 1
 (.seq
 (.ops [ iP 10 .id [.t 8], iP 5 .id [.t 10]])
 (.seq
 (.ops [ iP 11 .id [.t 1], iP 12 .id [.t 0], iP 13 .id [.t 5], iP 14 (.indexAddr 3) [.t 12, .t 13], iP 15 (.load 3 true) [.t 14], iP 16 (.callV []) [.t 11, .t 15]])
 (.cond (.t 16)
 (.seq
 (.ops [ iP 17 .id [.t 5], iP 4 .id [.t 17]])
 .ret)
 .skip))))
 (.ops [ iP 18 (.bin .add) [.t 8, kI 1], iP 8 .id [.t 18]]))))
def f_slices_IndexFunc___api_Seen_api_Seen__B : ICode :=
 (.seq
 (.ops [ iP 4 .id [kI 0]])
 (.seq
 (.seq
 (.ops [ iP 6 .id [.t 0], iP 7 .lenSlice [.t 6], iP 8 .id [kI 0]])
 (.block 0
 (.loop [2, 3, 4, 5, 6, 9, 10, 11, 12, 13, 14, 15, 16, 17, 18] [] f_slices_IndexFunc___api_Seen_api_Seen__L0)))
 (.seq
 (.ops [ iP 4 .id [kI (-1)]])
 .ret)))
def f_slices_IndexFunc___api_Seen_api_Seen_ : IFn := ⟨19, 0, [.tmp 4], f_slices_IndexFunc___api_Seen_api_Seen__B⟩
def f_slices_Clone___api_Seen_api_Seen__B : ICode :=
 (.seq
 (.ops [ iP 2 .id [.c (.slice none 0 0)]])
 (.seq
 (.seq
 (.ops [ iP 3 .id [.t 0], iP 4 (.eqNil false .slice) [.t 3, .c (.slice none 0 0)]])
 (.cond (.t 4)
 (.seq
 (.ops [ iP 2 .id [.c (.slice none 0 0)]])
 .ret)
 .skip))
 (.seq
 (.ops [ iP 5 (.buildSlice 0 false 3 0 [(.string ⟨#[]⟩), (.slice none 0 0), (.slice none 0 0)] []) [], iP 6 .id [.t 0], iP 7 (.append 1 false 3 64) [.t 5, .t 6], iP 2 .id [.t 7]])
 .ret)))
def f_slices_Clone___api_Seen_api_Seen_ : IFn := ⟨8, 2, [.tmp 2], f_slices_Clone___api_Seen_api_Seen__B⟩
def f_slices_Insert___api_Seen_api_Seen__B : ICode :=
 (.seq
 (.ops [ iP 6 .id [.c (.slice none 0 0)]])
 (.seq
 (.ops [ iP 10 .id [.t 0], iP 11 .id [.t 1], iP 12 (.slice 3 true false false) [.t 10, .t 11]])
 (.seq
 (.ops [ iP 13 .id [.t 2], iP 14 .lenSlice [.t 13], iP 7 .id [.t 14]])
 (.seq
 (.seq
 (.ops [ iP 15 .id [.t 7], iP 16 (.bin .eql) [.t 15, kI 0]])
 (.cond (.t 16)
 (.seq
 (.ops [ iP 17 .id [.t 0], iP 6 .id [.t 17]])
 .ret)
 .skip))
 (.seq
 (.ops [ iP 18 .id [.t 0], iP 19 .lenSlice [.t 18], iP 8 .id [.t 19]])
 (.seq
 (.seq
 (.ops [ iP 20 .id [.t 1], iP 21 .id [.t 8], iP 22 (.bin .eql) [.t 20, .t 21]])
 (.cond (.t 22)
 (.seq
 (.ops [ iP 23 .id [.t 0], iP 24 .id [.t 2], iP 25 (.append 0 true 3 64) [.t 23, .t 24], iP 6 .id [.t 25]])
 .ret)
 .skip))
 (.seq
 (.seq
 (.ops [ iP 26 .id [.t 8], iP 27 .id [.t 7], iP 28 (.bin .add) [.t 26, .t 27], iP 29 .id [.t 0], iP 30 .cap [.t 29], iP 31 (.bin .gtr) [.t 28, .t 30]])
 (.cond (.t 31)
 (.seq
 (.ops [ iP 32 .id [.t 0], iP 33 .id [.t 1], iP 34 (.slice 3 false true false) [.t 32, .t 33], iP 35 .id [.t 8], iP 36 .id [.t 7], iP 37 (.bin .add) [.t 35, .t 36], iP 38 .id [.t 1], iP 39 (.bin .sub) [.t 37, .t 38], iP 40 (.appendZ 1 3 64 [(.string ⟨#[]⟩), (.slice none 0 0), (.slice none 0 0)]) [.t 34, .t 39], iP 9 .id [.t 40]])
 (.seq
 (.ops [ iP 41 .id [.t 9], iP 42 .id [.t 1], iP 43 (.slice 3 true false false) [.t 41, .t 42], iP 44 .id [.t 2], iP 45 (.copy 3) [.t 43, .t 44]])
 (.seq
 (.draw [ iP 46 .id [.t 9], iP 47 .id [.t 1], iP 48 .id [.t 7], iP 49 (.bin .add) [.t 47, .t 48], iP 50 (.slice 3 true false false) [.t 46, .t 49], iP 51 .id [.t 0], iP 52 .id [.t 1], iP 53 (.slice 3 true false false) [.t 51, .t 52],
 ⟨some 54, .copy 3, [.t 50, .t 53], none, [], [1], true⟩])
 (.seq
 (.ops [ iP 55 .id [.t 9], iP 6 .id [.t 55]])
 .ret))))
 .skip))
 (.seq
 (.ops [ iP 56 .id [.t 0], iP 57 .id [.t 8], iP 58 .id [.t 7], iP 59 (.bin .add) [.t 57, .t 58], iP 60 (.slice 3 false true false) [.t 56, .t 59], iP 0 .id [.t 60]])
 (.seq
 (.seq
 (.ops [ iP 61 .id [.t 2], iP 62 .id [.t 0], iP 63 .id [.t 1], iP 64 .id [.t 7], iP 65 (.bin .add) [.t 63, .t 64], iP 66 (.slice 3 true false false) [.t 62, .t 65], iP 67 .overlaps [.t 61, .t 66], iP 68 (.un .not) [.t 67]])
 (.cond (.t 68)
 (.seq
 (.draw [ iP 69 .id [.t 0], iP 70 .id [.t 1], iP 71 .id [.t 7], iP 72 (.bin .add) [.t 70, .t 71], iP 73 (.slice 3 true false false) [.t 69, .t 72], iP 74 .id [.t 0], iP 75 .id [.t 1], iP 76 (.slice 3 true false false) [.t 74, .t 75],
 ⟨some 77, .copy 3, [.t 73, .t 76], none, [], [], true⟩])
 (.seq
 (.ops [ iP 78 .id [.t 0], iP 79 .id [.t 1], iP 80 (.slice 3 true false false) [.t 78, .t 79], iP 81 .id [.t 2], iP 82 (.copy 3) [.t 80, .t 81]])
 (.seq
 (.ops [ iP 83 .id [.t 0], iP 6 .id [.t 83]])
 .ret)))
 .skip))
 (.seq
 (.ops [ iP 84 .id [.t 0], iP 85 .id [.t 8], iP 86 (.slice 3 true false false) [.t 84, .t 85], iP 87 .id [.t 2], iP 88 (.copy 3) [.t 86, .t 87]])
 (.seq
 (.ops [ iP 89 .id [.t 0], iP 90 .id [.t 1], iP 91 (.slice 3 true false false) [.t 89, .t 90], iP 92 .id [.t 7], iP 93 (.call "slices.rotateRight[haberdash/api.Seen]" []) [.t 91, .t 92]])
 (.seq
 (.ops [ iP 94 .id [.t 0], iP 6 .id [.t 94]])
 .ret))))))))))))
def f_slices_Insert___api_Seen_api_Seen_ : IFn := ⟨95, 2, [.tmp 6], f_slices_Insert___api_Seen_api_Seen__B⟩
def f_slices_rotateRight_api_Seen__B : ICode :=
 (.ops [ iP 4 .id [.t 0], iP 5 .id [.t 0], iP 6 .lenSlice [.t 5], iP 7 .id [.t 1], iP 8 (.bin .sub) [.t 6, .t 7], iP 9 (.call "slices.rotateLeft[haberdash/api.Seen]" []) [.t 4, .t 8]])
def f_slices_rotateRight_api_Seen_ : IFn := ⟨10, 0, [], f_slices_rotateRight_api_Seen__B⟩
def f_slices_rotateLeft_api_Seen__B : ICode :=
 (.seq
 (.ops [ iP 4 .id [.t 0], iP 5 .id [.t 1], iP 6 (.slice 3 false true false) [.t 4, .t 5], iP 7 (.call "slices.Reverse[[]haberdash/api.Seen,haberdash/api.Seen]" []) [.t 6]])
 (.seq
 (.ops [ iP 8 .id [.t 0], iP 9 .id [.t 1], iP 10 (.slice 3 true false false) [.t 8, .t 9], iP 11 (.call "slices.Reverse[[]haberdash/api.Seen,haberdash/api.Seen]" []) [.t 10]])
 (.ops [ iP 12 .id [.t 0], iP 13 (.call "slices.Reverse[[]haberdash/api.Seen,haberdash/api.Seen]" []) [.t 12]])))
def f_slices_rotateLeft_api_Seen_ : IFn := ⟨14, 0, [], f_slices_rotateLeft_api_Seen__B⟩
def f_slices_Reverse___api_Seen_api_Seen__L0 : ICode :=
 (.seq
 (.seq
 (.ops [ iP 7 .id [.t 2], iP 8 .id [.t 3], iP 9 (.bin .lss) [.t 7, .t 8]])
 (.cond (.t 9)
 .skip
 (.exit 0)))
 (.seq
 (.block 1
 (.draw [ iP 14 .id [.t 0], iP 15 .id [.t 2], iP 16 .id [.t 0], iP 17 .id [.t 3], iP 18 .id [.t 0], iP 19 .id [.t 3], iP 20 (.indexAddr 3) [.t 18, .t 19], iP 21 (.load 3 true) [.t 20], iP 22 .id [.t 0], iP 23 .id [.t 2], iP 24 (.indexAddr 3) [.t 22, .t 23], iP 25 (.load 3 true) [.t 24], iP 26 (.indexAddr 3) [.t 14, .t 15],
 ⟨none, .store 3 false, [.t 26, .t 21], none, [], [], true⟩, iP 27 (.indexAddr 3) [.t 16, .t 17],
 ⟨none, .store 3 false, [.t 27, .t 25], none, [], [], true⟩]))
 (.ops [ iP 10 .id [.t 2], iP 11 (.bin .add) [.t 10, kI 1], iP 12 .id [.t 3], iP 13 (.bin .sub) [.t 12, kI 1], iP 2 .id [.t 11], iP 3 .id [.t 13]])))
def f_slices_Reverse___api_Seen_api_Seen__B : ICode :=
 (.seq
 (.ops [ iP 4 .id [.t 0], iP 5 .lenSlice [.t 4], iP 6 (.bin .sub) [.t 5, kI 1], iP 2 .id [kI 0], iP 3 .id [.t 6]])
 (.block 0
 (.loop [1, 4, 5, 6, 7, 8, 9, 10, 11, 12, 13, 14, 15, 16, 17, 18, 19, 20, 21, 22, 23, 24, 25, 26, 27] [] f_slices_Reverse___api_Seen_api_Seen__L0)))
def f_slices_Reverse___api_Seen_api_Seen_ : IFn := ⟨28, 0, [], f_slices_Reverse___api_Seen_api_Seen__B⟩
end Go.AM
