import Derived.Test.YtikbagggffehkaaAMA
import Derived.Test.YtikbagggffehkaaCrc
import Derived.Test.YtikbagggffehkaaLeafA
import Derived.Test.YtikbagggffehkaaHelp
import Derived.Test.YtikbagggffehkaaGoodsA
import Derived.Test.YtikbagggffehkaaScopeA
import Derived.Test.YtikbagggffehkaaSortA
set_option linter.unusedVariables false
set_option linter.unusedSimpArgs false
namespace Go.AM
def f_law14_BasketRaw_B : ICode :=
 (.seq
 (.ops [ iP 4 .id [.c (.bool false)]])
 (.seq
 (.seq
 (.ops [ iP 7 .id [.t 0], iP 8 .lenSlice [.t 7], iP 9 (.bin .gtr) [.t 8, kI 40], iP 10 .id [.t 9], iG 10 false 11 .id [.t 1], iG 10 false 12 .lenSlice [.t 11], iG 10 false 13 (.bin .gtr) [.t 12, kI 40], iP 14 .pick [.t 10, .c (.bool true), .t 13], iP 15 .id [.t 14], iG 15 false 16 .id [.t 1], iG 15 false 17 (.call "haberdash/haberdashlaw14.units" []) [.t 16], iG 15 false 18 (.bin .geq) [.t 17, kI 3000], iP 19 .pick [.t 15, .c (.bool true), .t 18]])
 (.cond (.t 19)
 (.seq
 (.ops [ iP 20 (.call "haberdash/haberdashlaw14.awake" []) [], iP 4 .id [.t 20]])
 .ret)
 .skip))
 (.seq
 (.ops [ iP 21 .id [.t 1], iP 22 (.build [(.string ⟨#[]⟩), (.int .i64 0), (.int .i64 0)] [(0, 1)]) [.c (.string ⟨#[115, 112, 111, 105, 108, 116]⟩)], iP 23 (.call "haberdash/haberdashhelp.Own[haberdash/api.Line]" [0]) [.t 21, .t 22], iP 24 .id [.t 0], iP 25 (.build [(.string ⟨#[]⟩), (.string ⟨#[]⟩), (.int .i64 0), (.bool false)] [(0, 1)]) [.c (.string ⟨#[115, 112, 111, 105, 108, 116]⟩)], iP 26 (.call "haberdash/haberdashhelp.Own[haberdash/api.Item]" [1]) [.t 24, .t 25], iP 5 .id [.t 23], iP 6 .id [.t 26]])
 (.seq
 (.ops [ iP 27 (.call "haberdash/haberdashlaw14.awake" []) [], iP 28 .id [.t 27], iG 28 true 29 .id [.t 6], iG 28 true 30 .id [.t 5], iG 28 true 31 (.call "haberdash/basket.Check" []) [.t 29, .t 30], iG 28 true 32 .id [.t 0], iG 28 true 33 .id [.t 1], iG 28 true 34 (.call "haberdash/haberdashref10.Check" []) [.t 32, .t 33], iG 28 true 35 (.bin .eql) [.t 31, .t 34], iP 36 .pick [.t 28, .t 35, .c (.bool false)], iP 37 .id [.t 36], iG 37 true 38 .id [.t 5], iG 37 true 39 (.call "haberdash/basket.Gross" []) [.t 38], iG 37 true 40 .id [.t 1], iG 37 true 41 (.call "haberdash/haberdashref10.Gross" []) [.t 40], iG 37 true 42 (.bin .eql) [.t 39, .t 41], iP 43 .pick [.t 37, .t 42, .c (.bool false)], iP 44 .id [.t 43], iG 44 true 45 .id [.t 5], iG 44 true 46 (.call "haberdash/basket.Units" [2]) [.t 45], iG 44 true 47 .id [.t 1], iG 44 true 48 (.call "haberdash/haberdashref10.Units" [3]) [.t 47], iG 44 true 49 (.call "haberdash/haberdashhelp.Plain[haberdash/api.Unit]" []) [.t 46, .t 48], iP 50 .pick [.t 44, .t 49, .c (.bool false)], iP 51 .id [.t 50], iG 51 true 52 .id [.t 6], iG 51 true 53 .id [.t 5], iG 51 true 54 (.call "haberdash/basket.Items" [4]) [.t 52, .t 53], iG 51 true 55 .id [.t 0], iG 51 true 56 .id [.t 1], iG 51 true 57 (.call "haberdash/haberdashref10.Items" [5]) [.t 55, .t 56], iG 51 true 58 (.call "haberdash/haberdashhelp.Plain[haberdash/api.Item]" []) [.t 54, .t 57], iP 59 .pick [.t 51, .t 58, .c (.bool false)], iP 60 .id [.t 59], iG 60 true 61 .id [.t 5], iG 60 true 62 .id [.t 1], iG 60 true 63 (.build [(.string ⟨#[]⟩), (.int .i64 0), (.int .i64 0)] [(0, 1)]) [.c (.string ⟨#[115, 112, 111, 105, 108, 116]⟩)], iG 60 true 64 (.call "haberdash/haberdashhelp.Kept[haberdash/api.Line]" []) [.t 61, .t 62, .t 63], iP 65 .pick [.t 60, .t 64, .c (.bool false)], iP 66 .id [.t 65], iG 66 true 67 .id [.t 6], iG 66 true 68 .id [.t 0], iG 66 true 69 (.build [(.string ⟨#[]⟩), (.string ⟨#[]⟩), (.int .i64 0), (.bool false)] [(0, 1)]) [.c (.string ⟨#[115, 112, 111, 105, 108, 116]⟩)], iG 66 true 70 (.call "haberdash/haberdashhelp.Kept[haberdash/api.Item]" []) [.t 67, .t 68, .t 69], iP 71 .pick [.t 66, .t 70, .c (.bool false)], iP 4 .id [.t 71]])
 .ret))))
def f_law14_BasketRaw : IFn := ⟨72, 6, [.tmp 4], f_law14_BasketRaw_B⟩
def f_law14_BasketNear_L0 : ICode :=
 (.seq
 (.seq
 (.ops [ iP 27 .id [.t 10], iP 28 .id [.t 7], iP 29 .lenSlice [.t 28], iP 30 (.bin .lss) [.t 27, .t 29]])
 (.cond (.t 30)
 .skip
 (.exit 0)))
 (.seq
 (.block 1
 (.seq
 (.ops [ iP 33 .id [.t 8], iP 34 .id [.t 7], iP 35 .id [.t 10], iP 36 (.indexAddr 3) [.t 34, .t 35], iP 37 (.fieldAddr 1) [.t 36], iP 38 (.load 1 false) [.t 37], iP 39 (.bin .add) [.t 33, .t 38], iP 8 .id [.t 39]])
 (.seq
 (.draw [ iP 40 .id [.t 7], iP 41 .id [.t 10], iP 42 (.indexAddr 3) [.t 40, .t 41], iP 43 (.fieldAddr 2) [.t 42], iP 44 (.load 1 false) [.t 43], iP 45 (.un .not) [.t 44], iP 46 .id [.t 45], iG 46 false 47 .id [.t 7], iG 46 false 48 .id [.t 10], iG 46 false 49 (.indexAddr 3) [.t 47, .t 48], iG 46 false 50 (.fieldAddr 0) [.t 49], iG 46 false 51 (.load 1 false) [.t 50], iG 46 false 52 (.bin .lss) [.t 51, kI 0], iP 53 .pick [.t 46, .c (.bool true), .t 52], iP 54 .id [.t 53], iG 54 false 55 .id [.t 7], iG 54 false 56 .id [.t 10], iG 54 false 57 (.indexAddr 3) [.t 55, .t 56], iG 54 false 58 (.fieldAddr 0) [.t 57], iG 54 false 59 (.load 1 false) [.t 58], iG 54 false 60 .id [.t 6], iG 54 false 61 .lenSlice [.t 60], iG 54 false 62 (.bin .geq) [.t 59, .t 61], iP 63 .pick [.t 54, .c (.bool true), .t 62], iP 64 .id [.t 63], iG 64 false 65 .id [.t 7], iG 64 false 66 .id [.t 10], iG 64 false 67 (.indexAddr 3) [.t 65, .t 66], iG 64 false 68 (.fieldAddr 1) [.t 67], iG 64 false 69 (.load 1 false) [.t 68], iG 64 false 70 .id [.t 6], iG 64 false 71 .id [.t 7], iG 64 false 72 .id [.t 10], iG 64 false 73 (.indexAddr 3) [.t 71, .t 72], iG 64 false 74 (.fieldAddr 0) [.t 73], iG 64 false 75 (.load 1 false) [.t 74], iG 64 false 76 (.indexAddr 3) [.t 70, .t 75], iG 64 false 77 (.fieldAddr 2) [.t 76], iG 64 false 78 (.load 1 false) [.t 77], iG 64 false 79 (.bin .neq) [.t 69, .t 78], iP 80 .pick [.t 64, .c (.bool true), .t 79], iP 81 .id [.t 80], iG 81 false 82 .id [.t 10], iG 81 false 83 (.bin .gtr) [.t 82, kI 0], iG 81 false 84 .id [.t 83], iG 84 true 85 .id [.t 7], iG 84 true 86 .id [.t 10], iG 84 true 87 (.indexAddr 3) [.t 85, .t 86], iG 84 true 88 (.fieldAddr 0) [.t 87], iG 84 true 89 (.load 1 false) [.t 88], iG 84 true 90 .id [.t 7], iG 84 true 91 .id [.t 10], iG 84 true 92 (.bin .sub) [.t 91, kI 1], iG 84 true 93 (.indexAddr 3) [.t 90, .t 92], iG 84 true 94 (.fieldAddr 0) [.t 93], iG 84 true 95 (.load 1 false) [.t 94], iG 84 true 96 (.bin .lss) [.t 89, .t 95], iG 81 false 97 .pick [.t 84, .t 96, .c (.bool false)], iP 98 .pick [.t 81, .c (.bool true), .t 97]])
 (.cond (.t 98)
 (.seq
 (.ops [ iP 4 .id [.c (.bool false)]])
 .ret)
 .skip))))
 (.ops [ iP 31 .id [.t 10], iP 32 (.bin .add) [.t 31, kI 1], iP 10 .id [.t 32]])))
def f_law14_BasketNear_L1 : ICode :=
 (.seq
 (.seq
 (.ops [ iP 99 .id [.t 11], iP 100 .id [.t 6], iP 101 .lenSlice [.t 100], iP 102 (.bin .lss) [.t 99, .t 101]])
 (.cond (.t 102)
 .skip
 (.exit 2)))
 (.seq
 (.block 3
 (.ops [ iP 105 .id [.t 9], iP 106 .id [.t 6], iP 107 .id [.t 11], iP 108 (.indexAddr 3) [.t 106, .t 107], iP 109 (.fieldAddr 1) [.t 108], iP 110 (.load 1 false) [.t 109], iP 111 (.bin .add) [.t 105, .t 110], iP 9 .id [.t 111]]))
 (.ops [ iP 103 .id [.t 11], iP 104 (.bin .add) [.t 103, kI 1], iP 11 .id [.t 104]])))
def f_law14_BasketNear_B : ICode :=
 (.seq
 (.ops [ iP 4 .id [.c (.bool false)]])
 (.seq
 (.seq
 (.ops [ iP 12 .id [.t 0], iP 13 .lenSlice [.t 12], iP 14 (.bin .gtr) [.t 13, kI 40], iP 15 .id [.t 14], iG 15 false 16 .id [.t 1], iG 15 false 17 .lenSlice [.t 16], iG 15 false 18 (.bin .gtr) [.t 17, kI 40], iP 19 .pick [.t 15, .c (.bool true), .t 18]])
 (.cond (.t 19)
 (.seq
 (.ops [ iP 20 (.call "haberdash/haberdashlaw14.awake" []) [], iP 4 .id [.t 20]])
 .ret)
 .skip))
 (.seq
 (.ops [ iP 21 .id [.t 0], iP 22 (.call "haberdash/haberdashplay.Items" [0]) [.t 21], iP 23 .id [.t 1], iP 24 (.call "haberdash/haberdashplay.Lines" [1]) [.t 23], iP 5 .id [.t 22], iP 6 .id [.t 24]])
 (.seq
 (.ops [ iP 25 .id [.t 6], iP 26 (.call "haberdash/basket.Units" [2]) [.t 25], iP 7 .id [.t 26]])
 (.seq
 (.ops [ iP 8 .id [kI 0], iP 9 .id [kI 0]])
 (.seq
 (.seq
 (.ops [ iP 10 .id [kI 0]])
 (.block 0
 (.loop [0, 1, 2, 3, 4, 11, 12, 13, 14, 15, 16, 17, 18, 19, 20, 21, 22, 23, 24, 25, 26, 27, 28, 29, 30, 31, 32, 33, 34, 35, 36, 37, 38, 39, 40, 41, 42, 43, 44, 45, 46, 47, 48, 49, 50, 51, 52, 53, 54, 55, 56, 57, 58, 59, 60, 61, 62, 63, 64, 65, 66, 67, 68, 69, 70, 71, 72, 73, 74, 75, 76, 77, 78, 79, 80, 81, 82, 83, 84, 85, 86, 87, 88, 89, 90, 91, 92, 93, 94, 95, 96, 97, 98, 99, 100, 101, 102, 103, 104, 105, 106, 107, 108, 109, 110, 111, 112, 113, 114, 115, 116, 117, 118, 119, 120, 121, 122, 123, 124, 125, 126, 127, 128, 129, 130, 131, 132, 133, 134, 135, 136, 137, 138, 139] [] f_law14_BasketNear_L0)))
 (.seq
 (.seq
 (.ops [ iP 11 .id [kI 0]])
 (.block 2
 (.loop [0, 1, 2, 3, 4, 10, 12, 13, 14, 15, 16, 17, 18, 19, 20, 21, 22, 23, 24, 25, 26, 27, 28, 29, 30, 31, 32, 33, 34, 35, 36, 37, 38, 39, 40, 41, 42, 43, 44, 45, 46, 47, 48, 49, 50, 51, 52, 53, 54, 55, 56, 57, 58, 59, 60, 61, 62, 63, 64, 65, 66, 67, 68, 69, 70, 71, 72, 73, 74, 75, 76, 77, 78, 79, 80, 81, 82, 83, 84, 85, 86, 87, 88, 89, 90, 91, 92, 93, 94, 95, 96, 97, 98, 99, 100, 101, 102, 103, 104, 105, 106, 107, 108, 109, 110, 111, 112, 113, 114, 115, 116, 117, 118, 119, 120, 121, 122, 123, 124, 125, 126, 127, 128, 129, 130, 131, 132, 133, 134, 135, 136, 137, 138, 139] [] f_law14_BasketNear_L1)))
 (.seq
 (.ops [ iP 112 (.call "haberdash/haberdashlaw14.awake" []) [], iP 113 .id [.t 112], iG 113 true 114 .id [.t 5], iG 113 true 115 .id [.t 6], iG 113 true 116 (.call "haberdash/basket.Check" []) [.t 114, .t 115], iG 113 true 117 (.bin .eql) [.t 116, kI 0], iP 118 .pick [.t 113, .t 117, .c (.bool false)], iP 119 .id [.t 118], iG 119 true 120 .id [.t 8], iG 119 true 121 .id [.t 6], iG 119 true 122 (.call "haberdash/basket.Gross" []) [.t 121], iG 119 true 123 (.bin .eql) [.t 120, .t 122], iP 124 .pick [.t 119, .t 123, .c (.bool false)], iP 125 .id [.t 124], iG 125 true 126 .id [.t 7], iG 125 true 127 .lenSlice [.t 126], iG 125 true 128 .id [.t 9], iG 125 true 129 (.bin .eql) [.t 127, .t 128], iP 130 .pick [.t 125, .t 129, .c (.bool false)], iP 131 .id [.t 130], iG 131 true 132 .id [.t 5], iG 131 true 133 .id [.t 6], iG 131 true 134 (.call "haberdash/basket.Items" [3]) [.t 132, .t 133], iG 131 true 135 .id [.t 5], iG 131 true 136 .id [.t 6], iG 131 true 137 (.call "haberdash/haberdashref10.Items" [4]) [.t 135, .t 136], iG 131 true 138 (.call "haberdash/haberdashhelp.Plain[haberdash/api.Item]" []) [.t 134, .t 137], iP 139 .pick [.t 131, .t 138, .c (.bool false)], iP 4 .id [.t 139]])
 .ret))))))))
def f_law14_BasketNear : IFn := ⟨140, 5, [.tmp 4], f_law14_BasketNear_B⟩
def f_law14_BasketTurned_B : ICode :=
 (.seq
 (.ops [ iP 14 .id [.c (.bool false)]])
 (.seq
 (.seq
 (.ops [ iP 18 .id [.t 0], iP 19 .lenSlice [.t 18], iP 20 (.bin .gtr) [.t 19, kI 40], iP 21 .id [.t 20], iG 21 false 22 .id [.t 1], iG 21 false 23 .lenSlice [.t 22], iG 21 false 24 (.bin .gtr) [.t 23, kI 40], iP 25 .pick [.t 21, .c (.bool true), .t 24], iP 26 .id [.t 25], iG 26 false 27 .id [.t 6], iG 26 false 28 .lenStr [.t 27], iG 26 false 29 (.bin .gtr) [.t 28, kI 60], iP 30 .pick [.t 26, .c (.bool true), .t 29]])
 (.cond (.t 30)
 (.seq
 (.ops [ iP 31 (.call "haberdash/haberdashlaw14.awake" []) [], iP 14 .id [.t 31]])
 .ret)
 .skip))
 (.seq
 (.ops [ iP 32 .id [.t 0], iP 33 (.call "haberdash/haberdashplay.Items" [0]) [.t 32], iP 34 .id [.t 1], iP 35 (.call "haberdash/haberdashplay.Lines" [1]) [.t 34], iP 36 (.build [(.string ⟨#[]⟩), (.int .i64 0), (.int .i64 0)] [(0, 1), (1, 1), (2, 1)]) [.c (.string ⟨#[97]⟩), kI 1, kI 5], iP 37 (.build [(.string ⟨#[]⟩), (.int .i64 0), (.int .i64 0)] [(0, 1), (1, 1), (2, 1)]) [.c (.string ⟨#[98]⟩), kI 1, kI 5], iP 38 (.buildSlice 2 false 3 2 [(.string ⟨#[]⟩), (.int .i64 0), (.int .i64 0)] [(0, 3), (3, 3)]) [.t 36, .t 37], iP 39 (.append 3 false 3 32) [.t 35, .t 38], iP 15 .id [.t 33], iP 16 .id [.t 39]])
 (.seq
 (.ops [ iP 40 .id [.t 2], iP 41 .id [.t 16], iP 42 .lenSlice [.t 41], iP 43 (.call "haberdash/haberdashplay.Mod" []) [.t 40, .t 42], iP 17 .id [.t 43]])
 (.seq
 (.seq
 (.ops [ iP 44 .id [.t 3], iP 45 (.call "haberdash/haberdashplay.Mod" []) [.t 44, kI 5]])
 (.block 0
 (.seq
 (.ops [ iP 57 (.bin .eql) [.t 45, kI 0], iP 56 .id [.t 57]])
 (.cond (.t 56)
 (.ops [ iP 58 .id [.t 16], iP 59 .id [.t 17], iP 60 .id [.t 6], iP 61 (.indexAddr 3) [.t 58, .t 59], iP 62 (.fieldAddr 0) [.t 61], iN (.store 1 false) [.t 62, .t 60]])
 (.seq
 (.ops [ iP 64 (.bin .eql) [.t 45, kI 1], iP 63 .id [.t 64]])
 (.cond (.t 63)
 (.ops [ iP 65 .id [.t 16], iP 66 .id [.t 17], iP 67 .id [.t 4], iP 68 (.indexAddr 3) [.t 65, .t 66], iP 69 (.fieldAddr 1) [.t 68], iN (.store 1 false) [.t 69, .t 67]])
 (.seq
 (.ops [ iP 71 (.bin .eql) [.t 45, kI 2], iP 70 .id [.t 71]])
 (.cond (.t 70)
 (.ops [ iP 72 .id [.t 16], iP 73 .id [.t 17], iP 74 .id [.t 5], iP 75 (.indexAddr 3) [.t 72, .t 73], iP 76 (.fieldAddr 2) [.t 75], iN (.store 1 false) [.t 76, .t 74]])
 (.seq
 (.ops [ iP 78 (.bin .eql) [.t 45, kI 3], iP 77 .id [.t 78]])
 (.cond (.t 77)
 (.ops [ iP 79 .id [.t 16], iP 80 .id [.t 17], iP 81 .id [.t 16], iP 82 (.indexAddr 3) [.t 79, .t 80], iP 83 (.fieldAddr 1) [.t 82], iN (.store 1 false) [.t 83, kI (-1)], iP 84 (.indexAddr 3) [.t 81, kI 0], iP 85 (.fieldAddr 2) [.t 84], iN (.store 1 false) [.t 85, kI (-1)]])
 (.ops [ iP 46 .id [.t 16], iP 47 .id [.t 17], iP 48 .id [.t 16], iP 49 .id [.t 16], iP 50 .lenSlice [.t 49], iP 51 (.bin .sub) [.t 50, kI 1], iP 52 (.indexAddr 3) [.t 46, .t 47], iP 53 (.fieldAddr 0) [.t 52], iN (.store 1 false) [.t 53, .c (.string ⟨#[113]⟩)], iP 54 (.indexAddr 3) [.t 48, .t 51], iP 55 (.fieldAddr 1) [.t 54], iN (.store 1 false) [.t 55, kI (-1)]])))))))))))
 (.seq
 (.ops [ iP 86 (.call "haberdash/haberdashlaw14.awake" []) [], iP 87 .id [.t 86], iG 87 true 88 .id [.t 15], iG 87 true 89 .id [.t 16], iG 87 true 90 (.call "haberdash/basket.Check" []) [.t 88, .t 89], iG 87 true 91 .id [.t 15], iG 87 true 92 .id [.t 16], iG 87 true 93 (.call "haberdash/haberdashref10.Check" []) [.t 91, .t 92], iG 87 true 94 (.bin .eql) [.t 90, .t 93], iP 95 .pick [.t 87, .t 94, .c (.bool false)], iP 14 .id [.t 95]])
 .ret))))))
def f_law14_BasketTurned : IFn := ⟨96, 4, [.tmp 14], f_law14_BasketTurned_B⟩
def f_law14_BasketBounds_L0 : ICode :=
 (.seq
 (.ops [ iP 27 (.bin .lss) [.t 26, .t 25]])
 (.seq
 (.cond (.t 27)
 .skip
 (.exit 0))
 (.seq
 (.block 1
 (.seq
 (.ops [ iP 28 .id [.t 26], iP 8 .id [.t 28]])
 (.ops [ iP 29 .id [.t 7], iP 30 .id [.t 8], iP 31 (.indexAddr 3) [.t 29, .t 30], iP 32 (.fieldAddr 0) [.t 31], iN (.store 1 false) [.t 32, .c (.string ⟨#[97]⟩)]])))
 (.ops [ iP 33 (.bin .add) [.t 26, kI 1], iP 26 .id [.t 33]]))))
def f_law14_BasketBounds_H0 (t0 t1 t5 t6 t7 t25 t26 : AV) : List AV := [t0, t1, .dead, .dead, .dead, t5, t6, t7, .dead, .dead, .dead, .dead, .dead, .dead, .dead, .dead, .dead, .dead, .dead, .dead, .dead, .dead, .dead, .dead, .dead, t25, t26, .dead, .dead, .dead, .dead, .dead, .dead, .dead, .dead, .dead, .dead, .dead, .dead, .dead, .dead, .dead, .dead, .dead, .dead, .dead, .dead, .dead, .dead, .dead, .dead, .dead, .dead, .dead, .dead, .dead, .dead, .dead, .dead, .dead, .dead, .dead, .dead, .dead, .dead, .dead, .dead, .dead, .dead, .dead, .dead, .dead, .dead, .dead, .dead, .dead, .dead, .dead, .dead, .dead, .dead, .dead, .dead, .dead, .dead, .dead, .dead, .dead, .dead, .dead, .dead, .dead, .dead, .dead, .dead, .dead, .dead, .dead, .dead, .dead, .dead, .dead, .dead, .dead, .dead, .dead, .dead, .dead, .dead, .dead, .dead, .dead, .dead, .dead, .dead, .dead, .dead, .dead, .dead, .dead, .dead, .dead, .dead, .dead, .dead, .dead, .dead, .dead, .dead, .dead, .dead, .dead, .dead, .dead, .dead, .dead]
def f_law14_BasketBounds_B : ICode :=
 (.seq
 (.ops [ iP 4 .id [.c (.bool false)]])
 (.seq
 (.ops [ iP 17 (.build [(.string ⟨#[]⟩), (.string ⟨#[]⟩), (.int .i64 0), (.bool false)] [(0, 1), (1, 1)]) [.c (.string ⟨#[97]⟩), .c (.string ⟨#[120]⟩)], iP 18 (.buildSlice 0 false 4 1 [(.string ⟨#[]⟩), (.string ⟨#[]⟩), (.int .i64 0), (.bool false)] [(0, 4)]) [.t 17], iP 5 .id [.t 18]])
 (.seq
 (.ops [ iP 19 .id [.t 0], iP 20 (.call "haberdash/haberdashplay.Mod" []) [.t 19, kI 3], iP 21 (.bin .add) [kI 999, .t 20], iP 6 .id [.t 21]])
 (.seq
 (.ops [ iP 22 .id [.t 6], iP 23 (.makeSlice 1 3 32 [(.string ⟨#[]⟩), (.int .i64 0), (.int .i64 0)]) [.t 22, .t 22], iP 7 .id [.t 23]])
 (.seq
 (.seq
 (.ops [ iP 24 .id [.t 7], iP 25 .lenSlice [.t 24], iP 26 .id [kI 0]])
 (.block 0
 (.loop [2, 3, 4, 8, 9, 10, 11, 12, 13, 14, 15, 16, 17, 18, 19, 20, 21, 22, 23, 24, 27, 28, 29, 30, 31, 32, 33, 34, 35, 36, 37, 38, 39, 40, 41, 42, 43, 44, 45, 46, 47, 48, 49, 50, 51, 52, 53, 54, 55, 56, 57, 58, 59, 60, 61, 62, 63, 64, 65, 66, 67, 68, 69, 70, 71, 72, 73, 74, 75, 76, 77, 78, 79, 80, 81, 82, 83, 84, 85, 86, 87, 88, 89, 90, 91, 92, 93, 94, 95, 96, 97, 98, 99, 100, 101, 102, 103, 104, 105, 106, 107, 108, 109, 110, 111, 112, 113, 114, 115, 116, 117, 118, 119, 120, 121, 122, 123, 124, 125, 126, 127, 128, 129, 130, 131, 132, 133, 134, 135] [] f_law14_BasketBounds_L0)))
 (.seq
 (.ops [ iP 34 .id [.t 5], iP 35 .id [.t 7], iP 36 (.call "haberdash/basket.Check" []) [.t 34, .t 35], iP 9 .id [.t 36]])
 (.seq
 (.ops [ iP 37 .id [.t 0], iP 38 (.call "haberdash/haberdashplay.Mod" []) [.t 37, kI 3], iP 39 (.bin .add) [kI 99999, .t 38], iP 10 .id [.t 39]])
 (.seq
 (.ops [ iP 40 .id [.t 5], iP 41 .id [.t 10], iP 42 (.bin .quo) [.t 41, kI 2], iP 43 (.build [(.string ⟨#[]⟩), (.int .i64 0), (.int .i64 0)] [(0, 1), (1, 1)]) [.c (.string ⟨#[97]⟩), .t 42], iP 44 .id [.t 10], iP 45 .id [.t 10], iP 46 (.bin .quo) [.t 45, kI 2], iP 47 (.bin .sub) [.t 44, .t 46], iP 48 (.build [(.string ⟨#[]⟩), (.int .i64 0), (.int .i64 0)] [(0, 1), (1, 1)]) [.c (.string ⟨#[97]⟩), .t 47], iP 49 (.buildSlice 2 false 3 2 [(.string ⟨#[]⟩), (.int .i64 0), (.int .i64 0)] [(0, 3), (3, 3)]) [.t 43, .t 48], iP 50 (.call "haberdash/basket.Check" []) [.t 40, .t 49], iP 11 .id [.t 50]])
 (.seq
 (.ops [ iP 51 .id [.t 1], iP 52 (.call "haberdash/haberdashplay.Mod64" []) [.t 51, kI 1000000000], iP 53 (.bin .add) [kI 1, .t 52], iP 12 .id [.t 53]])
 (.seq
 (.ops [ iP 54 .id [.t 12], iP 55 (.bin .quo) [kI 10000000000000, .t 54], iP 56 .min [.t 55, kI 99999], iP 13 .id [.t 56]])
 (.seq
 (.ops [ iP 57 .id [.t 5], iP 58 .id [.t 13], iP 59 .id [.t 12], iP 60 (.build [(.string ⟨#[]⟩), (.int .i64 0), (.int .i64 0)] [(0, 1), (1, 1), (2, 1)]) [.c (.string ⟨#[97]⟩), .t 58, .t 59], iP 61 (.buildSlice 3 false 3 1 [(.string ⟨#[]⟩), (.int .i64 0), (.int .i64 0)] [(0, 3)]) [.t 60], iP 62 (.call "haberdash/basket.Check" []) [.t 57, .t 61], iP 14 .id [.t 62]])
 (.seq
 (.ops [ iP 63 .id [.t 5], iP 64 .id [.t 13], iP 65 (.bin .add) [.t 64, kI 1], iP 66 .id [.t 12], iP 67 (.build [(.string ⟨#[]⟩), (.int .i64 0), (.int .i64 0)] [(0, 1), (1, 1), (2, 1)]) [.c (.string ⟨#[97]⟩), .t 65, .t 66], iP 68 (.buildSlice 4 false 3 1 [(.string ⟨#[]⟩), (.int .i64 0), (.int .i64 0)] [(0, 3)]) [.t 67], iP 69 (.call "haberdash/basket.Check" []) [.t 63, .t 68], iP 15 .id [.t 69]])
 (.seq
 (.ops [ iP 70 .id [.t 13], iP 71 (.bin .add) [.t 70, kI 1], iP 72 .id [.t 12], iP 73 (.bin .mul) [.t 71, .t 72], iP 74 (.bin .gtr) [.t 73, kI 10000000000000], iP 16 .id [.t 74]])
 (.seq
 (.ops [ iP 75 (.call "haberdash/haberdashlaw14.awake" []) [], iP 76 .id [.t 75], iG 76 true 77 .id [.t 9], iG 76 true 78 (.bin .eql) [.t 77, kI 0], iG 76 true 79 .id [.t 6], iG 76 true 80 (.bin .leq) [.t 79, kI 1000], iG 76 true 81 (.eqBool false) [.t 78, .t 80], iP 82 .pick [.t 76, .t 81, .c (.bool false)], iP 83 .id [.t 82], iG 83 true 84 .id [.t 9], iG 83 true 85 (.bin .eql) [.t 84, kI 0], iG 83 true 86 .id [.t 85], iG 86 false 87 .id [.t 9], iG 86 false 88 (.bin .eql) [.t 87, kI 6], iG 83 true 89 .pick [.t 86, .c (.bool true), .t 88], iP 90 .pick [.t 83, .t 89, .c (.bool false)], iP 91 .id [.t 90], iG 91 true 92 .id [.t 11], iG 91 true 93 (.bin .eql) [.t 92, kI 0], iG 91 true 94 .id [.t 10], iG 91 true 95 (.bin .leq) [.t 94, kI 100000], iG 91 true 96 (.eqBool false) [.t 93, .t 95], iP 97 .pick [.t 91, .t 96, .c (.bool false)], iP 98 .id [.t 97], iG 98 true 99 .id [.t 11], iG 98 true 100 (.bin .eql) [.t 99, kI 0], iG 98 true 101 .id [.t 100], iG 101 false 102 .id [.t 11], iG 101 false 103 (.bin .eql) [.t 102, kI 5], iG 98 true 104 .pick [.t 101, .c (.bool true), .t 103], iP 105 .pick [.t 98, .t 104, .c (.bool false)], iP 106 .id [.t 105], iG 106 true 107 .id [.t 14], iG 106 true 108 (.bin .eql) [.t 107, kI 0], iP 109 .pick [.t 106, .t 108, .c (.bool false)], iP 110 .id [.t 109], iG 110 true 111 .id [.t 15], iG 110 true 112 (.bin .eql) [.t 111, kI 0], iG 110 true 113 .id [.t 16], iG 110 true 114 (.un .not) [.t 113], iG 110 true 115 (.eqBool false) [.t 112, .t 114], iP 116 .pick [.t 110, .t 115, .c (.bool false)], iP 117 .id [.t 116], iG 117 true 118 .id [.t 15], iG 117 true 119 (.bin .eql) [.t 118, kI 0], iG 117 true 120 .id [.t 119], iG 120 false 121 .id [.t 15], iG 120 false 122 (.bin .eql) [.t 121, kI 5], iG 117 true 123 .pick [.t 120, .c (.bool true), .t 122], iP 124 .pick [.t 117, .t 123, .c (.bool false)], iP 125 .id [.t 124], iG 125 true 126 .id [.t 13], iG 125 true 127 .id [.t 12], iG 125 true 128 (.build [(.string ⟨#[]⟩), (.int .i64 0), (.int .i64 0)] [(0, 1), (1, 1), (2, 1)]) [.c (.string ⟨#[113]⟩), .t 126, .t 127], iG 125 true 129 (.buildSlice 5 false 3 1 [(.string ⟨#[]⟩), (.int .i64 0), (.int .i64 0)] [(0, 3)]) [.t 128], iG 125 true 130 (.call "haberdash/basket.Gross" []) [.t 129], iG 125 true 131 .id [.t 13], iG 125 true 132 .id [.t 12], iG 125 true 133 (.bin .mul) [.t 131, .t 132], iG 125 true 134 (.bin .eql) [.t 130, .t 133], iP 135 .pick [.t 125, .t 134, .c (.bool false)], iP 4 .id [.t 135]])
 .ret))))))))))))))
def f_law14_BasketBounds : IFn := ⟨136, 6, [.tmp 4], f_law14_BasketBounds_B⟩
def f_law14_BasketJoin_L0 : ICode :=
 (.seq
 (.seq
 (.ops [ iP 56 .id [.t 9], iP 57 .id [.t 8], iP 58 .lenSlice [.t 57], iP 59 (.bin .lss) [.t 56, .t 58]])
 (.cond (.t 59)
 .skip
 (.exit 0)))
 (.seq
 (.block 1
 (.seq
 (.ops [ iP 62 (.build [(.int .i64 0), (.int .i64 0), (.bool false)] []) [], iP 10 (.alloc 7 [(.int .i64 0), (.int .i64 0), (.bool false)] []) [], iN (.store 3 false) [.t 10, .t 62]])
 (.seq
 (.seq
 (.ops [ iP 63 .id [.t 9], iP 64 .id [.t 6], iP 65 .lenSlice [.t 64], iP 66 (.bin .lss) [.t 63, .t 65]])
 (.cond (.t 66)
 (.ops [ iP 67 .id [.t 6], iP 68 .id [.t 9], iP 69 (.indexAddr 3) [.t 67, .t 68], iP 70 (.load 3 true) [.t 69], iN (.store 3 false) [.t 10, .t 70]])
 (.seq
 (.ops [ iP 71 .id [.t 7], iP 72 .id [.t 9], iP 73 .id [.t 6], iP 74 .lenSlice [.t 73], iP 75 (.bin .sub) [.t 72, .t 74], iP 76 (.indexAddr 3) [.t 71, .t 75], iP 77 (.load 3 true) [.t 76], iN (.store 3 false) [.t 10, .t 77]])
 (.ops [ iP 78 (.fieldAddr 0) [.t 10], iP 79 (.load 1 false) [.t 78], iP 80 .id [.t 0], iP 81 .lenSlice [.t 80], iP 82 (.bin .add) [.t 79, .t 81], iP 83 (.fieldAddr 0) [.t 10], iN (.store 1 false) [.t 83, .t 82]]))))
 (.seq
 (.draw [ iP 84 .id [.t 8], iP 85 .id [.t 9], iP 86 (.indexAddr 3) [.t 84, .t 85], iP 87 (.load 3 true) [.t 86], iP 88 (.load 3 true) [.t 10], iP 89 (.eq true [.int, .int, .bool]) [.t 87, .t 88]])
 (.cond (.t 89)
 (.seq
 (.ops [ iP 4 .id [.c (.bool false)]])
 .ret)
 .skip)))))
 (.ops [ iP 60 .id [.t 9], iP 61 (.bin .add) [.t 60, kI 1], iP 9 .id [.t 61]])))
def f_law14_BasketJoin_B : ICode :=
 (.seq
 (.ops [ iP 4 .id [.c (.bool false)]])
 (.seq
 (.seq
 (.ops [ iP 11 .id [.t 0], iP 12 .lenSlice [.t 11], iP 13 (.bin .gtr) [.t 12, kI 40], iP 14 .id [.t 13], iG 14 false 15 .id [.t 1], iG 14 false 16 .lenSlice [.t 15], iG 14 false 17 (.bin .gtr) [.t 16, kI 40], iP 18 .pick [.t 14, .c (.bool true), .t 17]])
 (.cond (.t 18)
 (.seq
 (.ops [ iP 19 (.call "haberdash/haberdashlaw14.awake" []) [], iP 4 .id [.t 19]])
 .ret)
 .skip))
 (.seq
 (.ops [ iP 20 .id [.t 0], iP 21 (.call "haberdash/haberdashplay.Lines" [0]) [.t 20], iP 22 .id [.t 1], iP 23 (.call "haberdash/haberdashplay.Lines" [1]) [.t 22], iP 0 .id [.t 21], iP 1 .id [.t 23]])
 (.seq
 (.ops [ iP 24 .id [.t 0], iP 25 (.append 2 false 3 32) [.c (.slice none 0 0), .t 24], iP 26 .id [.t 1], iP 27 (.append 3 false 3 32) [.t 25, .t 26], iP 5 .id [.t 27]])
 (.seq
 (.ops [ iP 28 .id [.t 0], iP 29 (.call "haberdash/basket.Units" [4]) [.t 28], iP 30 .id [.t 1], iP 31 (.call "haberdash/basket.Units" [5]) [.t 30], iP 32 .id [.t 5], iP 33 (.call "haberdash/basket.Units" [6]) [.t 32], iP 6 .id [.t 29], iP 7 .id [.t 31], iP 8 .id [.t 33]])
 (.seq
 (.seq
 (.ops [ iP 34 (.call "haberdash/haberdashlaw14.awake" []) [], iP 35 (.un .not) [.t 34], iP 36 .id [.t 35], iG 36 false 37 .id [.t 8], iG 36 false 38 .lenSlice [.t 37], iG 36 false 39 .id [.t 6], iG 36 false 40 .lenSlice [.t 39], iG 36 false 41 .id [.t 7], iG 36 false 42 .lenSlice [.t 41], iG 36 false 43 (.bin .add) [.t 40, .t 42], iG 36 false 44 (.bin .neq) [.t 38, .t 43], iP 45 .pick [.t 36, .c (.bool true), .t 44], iP 46 .id [.t 45], iG 46 false 47 .id [.t 5], iG 46 false 48 (.call "haberdash/basket.Gross" []) [.t 47], iG 46 false 49 .id [.t 0], iG 46 false 50 (.call "haberdash/basket.Gross" []) [.t 49], iG 46 false 51 .id [.t 1], iG 46 false 52 (.call "haberdash/basket.Gross" []) [.t 51], iG 46 false 53 (.bin .add) [.t 50, .t 52], iG 46 false 54 (.bin .neq) [.t 48, .t 53], iP 55 .pick [.t 46, .c (.bool true), .t 54]])
 (.cond (.t 55)
 (.seq
 (.ops [ iP 4 .id [.c (.bool false)]])
 .ret)
 .skip))
 (.seq
 (.seq
 (.ops [ iP 9 .id [kI 0]])
 (.block 0
 (.loop [1, 2, 3, 4, 5, 10, 11, 12, 13, 14, 15, 16, 17, 18, 19, 20, 21, 22, 23, 24, 25, 26, 27, 28, 29, 30, 31, 32, 33, 34, 35, 36, 37, 38, 39, 40, 41, 42, 43, 44, 45, 46, 47, 48, 49, 50, 51, 52, 53, 54, 55, 56, 57, 58, 59, 60, 61, 62, 63, 64, 65, 66, 67, 68, 69, 70, 71, 72, 73, 74, 75, 76, 77, 78, 79, 80, 81, 82, 83, 84, 85, 86, 87, 88, 89] [7] f_law14_BasketJoin_L0)))
 (.seq
 (.ops [ iP 4 .id [.c (.bool true)]])
 .ret))))))))
def f_law14_BasketJoin : IFn := ⟨90, 8, [.tmp 4], f_law14_BasketJoin_B⟩
def f_law14_units_L0 : ICode :=
 (.seq
 (.seq
 (.ops [ iP 5 .id [.t 4], iP 6 .id [.t 0], iP 7 .lenSlice [.t 6], iP 8 (.bin .lss) [.t 5, .t 7]])
 (.cond (.t 8)
 .skip
 (.exit 0)))
 (.seq
 (.block 1
 (.seq
 (.ops [ iP 11 .id [.t 0], iP 12 .id [.t 4], iP 13 (.indexAddr 3) [.t 11, .t 12], iP 14 (.fieldAddr 1) [.t 13], iP 15 (.load 1 false) [.t 14], iP 16 (.bin .gtr) [.t 15, kI 0]])
 (.cond (.t 16)
 (.ops [ iP 17 .id [.t 3], iP 18 .id [.t 0], iP 19 .id [.t 4], iP 20 (.indexAddr 3) [.t 18, .t 19], iP 21 (.fieldAddr 1) [.t 20], iP 22 (.load 1 false) [.t 21], iP 23 .min [.t 22, kI 3000], iP 24 (.bin .add) [.t 17, .t 23], iP 25 .min [.t 24, kI 3000], iP 3 .id [.t 25]])
 .skip)))
 (.ops [ iP 9 .id [.t 4], iP 10 (.bin .add) [.t 9, kI 1], iP 4 .id [.t 10]])))
def f_law14_units_B : ICode :=
 (.seq
 (.ops [ iP 2 .id [kI 0]])
 (.seq
 (.ops [ iP 3 .id [kI 0]])
 (.seq
 (.seq
 (.ops [ iP 4 .id [kI 0]])
 (.block 0
 (.loop [1, 2, 5, 6, 7, 8, 9, 10, 11, 12, 13, 14, 15, 16, 17, 18, 19, 20, 21, 22, 23, 24, 25, 26] [] f_law14_units_L0)))
 (.seq
 (.ops [ iP 26 .id [.t 3], iP 2 .id [.t 26]])
 .ret))))
def f_law14_units : IFn := ⟨27, 0, [.tmp 2], f_law14_units_B⟩
def f_law14_awake_B : ICode :=
 (.seq
 (.ops [ iP 0 .id [.c (.bool false)]])
 (.seq
 (.ops [ iP 3 (.build [(.string ⟨#[]⟩), (.int .i64 0), (.int .i64 0)] [(0, 1), (1, 1), (2, 1)]) [.c (.string ⟨#[97]⟩), kI 2, kI 5], iP 4 (.build [(.string ⟨#[]⟩), (.int .i64 0), (.int .i64 0)] [(0, 1), (1, 1), (2, 1)]) [.c (.string ⟨#[98]⟩), kI 1, kI 7], iP 5 (.buildSlice 0 false 3 2 [(.string ⟨#[]⟩), (.int .i64 0), (.int .i64 0)] [(0, 3), (3, 3)]) [.t 3, .t 4], iP 1 .id [.t 5]])
 (.seq
 (.ops [ iP 6 (.build [(.string ⟨#[]⟩), (.string ⟨#[]⟩), (.int .i64 0), (.bool false)] [(0, 1)]) [.c (.string ⟨#[97]⟩)], iP 7 (.build [(.string ⟨#[]⟩), (.string ⟨#[]⟩), (.int .i64 0), (.bool false)] [(0, 1)]) [.c (.string ⟨#[98]⟩)], iP 8 (.buildSlice 1 false 4 2 [(.string ⟨#[]⟩), (.string ⟨#[]⟩), (.int .i64 0), (.bool false)] [(0, 4), (4, 4)]) [.t 6, .t 7], iP 2 .id [.t 8]])
 (.seq
 (.ops [ iP 9 .id [.t 1], iP 10 (.call "haberdash/basket.Gross" []) [.t 9], iP 11 (.bin .eql) [.t 10, kI 17], iP 12 .id [.t 11], iG 12 true 13 .id [.t 1], iG 12 true 14 (.call "haberdash/basket.Units" [2]) [.t 13], iG 12 true 15 .lenSlice [.t 14], iG 12 true 16 (.bin .eql) [.t 15, kI 3], iP 17 .pick [.t 12, .t 16, .c (.bool false)], iP 18 .id [.t 17], iG 18 true 19 .id [.t 2], iG 18 true 20 .id [.t 1], iG 18 true 21 (.call "haberdash/basket.Check" []) [.t 19, .t 20], iG 18 true 22 (.bin .eql) [.t 21, kI 0], iP 23 .pick [.t 18, .t 22, .c (.bool false)], iP 24 .id [.t 23], iG 24 true 25 .id [.t 1], iG 24 true 26 (.call "haberdash/basket.Check" []) [.c (.slice none 0 0), .t 25], iG 24 true 27 (.bin .eql) [.t 26, kI 7], iP 28 .pick [.t 24, .t 27, .c (.bool false)], iP 29 .id [.t 28], iG 29 true 30 .id [.t 2], iG 29 true 31 .id [.t 1], iG 29 true 32 (.call "haberdash/basket.Items" [3]) [.t 30, .t 31], iG 29 true 33 .lenSlice [.t 32], iG 29 true 34 (.bin .eql) [.t 33, kI 2], iP 35 .pick [.t 29, .t 34, .c (.bool false)], iP 0 .id [.t 35]])
 .ret))))
def f_law14_awake : IFn := ⟨36, 4, [.tmp 0], f_law14_awake_B⟩
def f_help_Own_api_Line__L0 : ICode :=
 (.seq
 (.seq
 (.ops [ iP 22 .id [.t 7], iP 23 .id [.t 6], iP 24 .lenSlice [.t 23], iP 25 (.bin .lss) [.t 22, .t 24]])
 (.cond (.t 25)
 .skip
 (.exit 0)))
 (.seq
 (.block 1
 (.ops [ iP 28 .id [.t 6], iP 29 .id [.t 7], iP 30 (.load 3 true) [.t 3], iP 31 (.indexAddr 3) [.t 28, .t 29], iN (.store 3 false) [.t 31, .t 30]]))
 (.ops [ iP 26 .id [.t 7], iP 27 (.bin .add) [.t 26, kI 1], iP 7 .id [.t 27]])))
def f_help_Own_api_Line__B : ICode :=
 (.seq
 (.ops [ iP 3 (.box 0) [.t 1], iP 4 .id [.c (.slice none 0 0)]])
 (.seq
 (.ops [ iP 8 .id [.t 0], iP 9 .lenSlice [.t 8], iP 10 (.bin .add) [.t 9, kI 3], iP 11 (.makeSlice 1 3 32 [(.string ⟨#[]⟩), (.int .i64 0), (.int .i64 0)]) [kI 0, .t 10], iP 5 .id [.t 11]])
 (.seq
 (.ops [ iP 12 .id [.t 5], iP 13 .id [.t 0], iP 14 (.append 2 false 3 32) [.t 12, .t 13], iP 5 .id [.t 14]])
 (.seq
 (.ops [ iP 15 .id [.t 5], iP 16 .id [.t 0], iP 17 .lenSlice [.t 16], iP 18 (.bin .add) [.t 17, kI 3], iP 19 (.slice 3 false true false) [.t 15, .t 18], iP 6 .id [.t 19]])
 (.seq
 (.seq
 (.ops [ iP 20 .id [.t 0], iP 21 .lenSlice [.t 20], iP 7 .id [.t 21]])
 (.block 0
 (.loop [0, 1, 2, 4, 8, 9, 10, 11, 12, 13, 14, 15, 16, 17, 18, 19, 20, 21, 22, 23, 24, 25, 26, 27, 28, 29, 30, 31, 32] [] f_help_Own_api_Line__L0)))
 (.seq
 (.ops [ iP 32 .id [.t 5], iP 4 .id [.t 32]])
 .ret))))))
def f_help_Own_api_Line_ : IFn := ⟨33, 3, [.tmp 4], f_help_Own_api_Line__B⟩
def f_basket_Check_B : ICode :=
 (.seq
 (.ops [ iP 2 (.box 0) [.t 0], iP 4 .id [kI 0]])
 (.seq
 (.ops [ iP 5 .id [.t 1], iP 6 (.makeFunc "haberdash/basket.Check$1" 0) [.t 2], iP 7 (.call "haberdash/basket.check" []) [.t 5, .t 6], iP 4 .id [.t 7]])
 .ret))
def f_basket_Check : IFn := ⟨8, 1, [.tmp 4], f_basket_Check_B⟩
def f_ref10_Check_L0 : ICode :=
 (.seq
 (.seq
 (.ops [ iP 6 .id [.t 5], iP 7 .id [.t 1], iP 8 .lenSlice [.t 7], iP 9 (.bin .lss) [.t 6, .t 8], iP 10 .id [.t 9], iG 10 true 11 .id [.t 1], iG 10 true 12 .lenSlice [.t 11], iG 10 true 13 (.bin .leq) [.t 12, kI 1000], iP 14 .pick [.t 10, .t 13, .c (.bool false)]])
 (.cond (.t 14)
 .skip
 (.exit 0)))
 (.seq
 (.block 1
 (.seq
 (.seq
 (.ops [ iP 17 .id [.t 0], iP 18 .id [.t 1], iP 19 .id [.t 5], iP 20 (.indexAddr 3) [.t 18, .t 19], iP 21 (.fieldAddr 0) [.t 20], iP 22 (.load 1 false) [.t 21], iP 23 (.call "haberdash/haberdashref10.Find" []) [.t 17, .t 22], iP 24 (.bin .lss) [.t 23, kI 0]])
 (.cond (.t 24)
 (.seq
 (.ops [ iP 4 .id [kI 7]])
 .ret)
 .skip))
 (.seq
 (.ops [ iP 25 .id [.t 1], iP 26 .id [.t 5], iP 27 (.indexAddr 3) [.t 25, .t 26], iP 28 (.fieldAddr 1) [.t 27], iP 29 (.load 1 false) [.t 28], iP 30 (.bin .lss) [.t 29, kI 0], iP 31 .id [.t 30], iG 31 false 32 .id [.t 1], iG 31 false 33 .id [.t 5], iG 31 false 34 (.indexAddr 3) [.t 32, .t 33], iG 31 false 35 (.fieldAddr 1) [.t 34], iG 31 false 36 (.load 1 false) [.t 35], iG 31 false 37 (.bin .gtr) [.t 36, kI 100000], iP 38 .pick [.t 31, .c (.bool true), .t 37], iP 39 .id [.t 38], iG 39 false 40 .id [.t 1], iG 39 false 41 .id [.t 5], iG 39 false 42 (.indexAddr 3) [.t 40, .t 41], iG 39 false 43 (.fieldAddr 2) [.t 42], iG 39 false 44 (.load 1 false) [.t 43], iG 39 false 45 (.call "haberdash/haberdashref10.in" []) [.t 44, kI 1000000000], iG 39 false 46 (.un .not) [.t 45], iP 47 .pick [.t 39, .c (.bool true), .t 46]])
 (.cond (.t 47)
 (.seq
 (.ops [ iP 4 .id [kI 2]])
 .ret)
 .skip))))
 (.ops [ iP 15 .id [.t 5], iP 16 (.bin .add) [.t 15, kI 1], iP 5 .id [.t 16]])))
def f_ref10_Check_B : ICode :=
 (.seq
 (.ops [ iP 4 .id [kI 0]])
 (.seq
 (.seq
 (.ops [ iP 5 .id [kI 0]])
 (.block 0
 (.loop [2, 3, 4, 6, 7, 8, 9, 10, 11, 12, 13, 14, 15, 16, 17, 18, 19, 20, 21, 22, 23, 24, 25, 26, 27, 28, 29, 30, 31, 32, 33, 34, 35, 36, 37, 38, 39, 40, 41, 42, 43, 44, 45, 46, 47, 48, 49] [] f_ref10_Check_L0)))
 (.seq
 (.ops [ iP 48 .id [.t 1], iP 49 (.call "haberdash/haberdashref10.may" []) [.t 48], iP 4 .id [.t 49]])
 .ret)))
def f_ref10_Check : IFn := ⟨50, 0, [.tmp 4], f_ref10_Check_B⟩
def f_basket_Gross_B : ICode :=
 (.seq
 (.ops [ iP 2 .id [kI 0]])
 (.seq
 (.seq
 (.ops [ iP 5 .id [.t 0], iP 6 (.call "haberdash/basket.may" []) [.t 5], iP 7 (.un .not) [.t 6]])
 (.cond (.t 7)
 (.seq
 (.ops [ iP 2 .id [kI 0]])
 .ret)
 .skip))
 (.seq
 (.ops [ iP 9 .id [.t 0], iP 10 (.call "haberdash/basket.sums" []) [.t 9], iP 8 .id [.t 10], iP 11 (.extract 0) [.t 8], iP 12 (.extract 1) [.t 8], iP 3 .id [.t 11], iP 4 .id [.t 12]])
 (.seq
 (.ops [ iP 13 .id [.t 4], iP 2 .id [.t 13]])
 .ret))))
def f_basket_Gross : IFn := ⟨14, 0, [.tmp 2], f_basket_Gross_B⟩
def f_ref10_Gross_L0 : ICode :=
 (.seq
 (.seq
 (.ops [ iP 8 .id [.t 4], iP 9 .id [.t 0], iP 10 .lenSlice [.t 9], iP 11 (.bin .lss) [.t 8, .t 10]])
 (.cond (.t 11)
 .skip
 (.exit 0)))
 (.seq
 (.block 1
 (.draw [ iP 14 .id [.t 3], iP 15 .id [.t 0], iP 16 .id [.t 4], iP 17 (.indexAddr 3) [.t 15, .t 16], iP 18 (.fieldAddr 1) [.t 17], iP 19 (.load 1 false) [.t 18], iP 20 .id [.t 0], iP 21 .id [.t 4], iP 22 (.indexAddr 3) [.t 20, .t 21], iP 23 (.fieldAddr 2) [.t 22], iP 24 (.load 1 false) [.t 23], iP 25 (.bin .mul) [.t 19, .t 24], iP 26 (.bin .add) [.t 14, .t 25], iP 3 .id [.t 26]]))
 (.ops [ iP 12 .id [.t 4], iP 13 (.bin .add) [.t 12, kI 1], iP 4 .id [.t 13]])))
def f_ref10_Gross_B : ICode :=
 (.seq
 (.ops [ iP 2 .id [kI 0]])
 (.seq
 (.seq
 (.ops [ iP 5 .id [.t 0], iP 6 (.call "haberdash/haberdashref10.may" []) [.t 5], iP 7 (.bin .neq) [.t 6, kI 0]])
 (.cond (.t 7)
 (.seq
 (.ops [ iP 2 .id [kI 0]])
 .ret)
 .skip))
 (.seq
 (.ops [ iP 3 .id [kI 0]])
 (.seq
 (.seq
 (.ops [ iP 4 .id [kI 0]])
 (.block 0
 (.loop [1, 2, 5, 6, 7, 8, 9, 10, 11, 12, 13, 14, 15, 16, 17, 18, 19, 20, 21, 22, 23, 24, 25, 26, 27] [] f_ref10_Gross_L0)))
 (.seq
 (.ops [ iP 27 .id [.t 3], iP 2 .id [.t 27]])
 .ret)))))
def f_ref10_Gross : IFn := ⟨28, 0, [.tmp 2], f_ref10_Gross_B⟩
def f_ref10_Units_L0 : ICode :=
 (.seq
 (.seq
 (.ops [ iP 15 .id [.t 5], iP 16 .id [.t 0], iP 17 .id [.t 4], iP 18 (.indexAddr 3) [.t 16, .t 17], iP 19 (.fieldAddr 1) [.t 18], iP 20 (.load 1 false) [.t 19], iP 21 (.bin .lss) [.t 15, .t 20]])
 (.cond (.t 21)
 .skip
 (.exit 2)))
 (.seq
 (.block 3
 (.ops [ iP 24 .id [.t 3], iP 25 .id [.t 4], iP 26 .id [.t 0], iP 27 .id [.t 4], iP 28 (.indexAddr 3) [.t 26, .t 27], iP 29 (.fieldAddr 2) [.t 28], iP 30 (.load 1 false) [.t 29], iP 31 (.build [(.int .i64 0), (.int .i64 0), (.bool false)] [(0, 1), (1, 1), (2, 1)]) [.t 25, .t 30, .c (.bool true)], iP 32 (.buildSlice 1 false 3 1 [(.int .i64 0), (.int .i64 0), (.bool false)] [(0, 3)]) [.t 31], iP 33 (.append 2 false 3 24) [.t 24, .t 32], iP 3 .id [.t 33]]))
 (.ops [ iP 22 .id [.t 5], iP 23 (.bin .add) [.t 22, kI 1], iP 5 .id [.t 23]])))
def f_ref10_Units_L1 : ICode :=
 (.seq
 (.seq
 (.ops [ iP 9 .id [.t 4], iP 10 .id [.t 0], iP 11 .lenSlice [.t 10], iP 12 (.bin .lss) [.t 9, .t 11]])
 (.cond (.t 12)
 .skip
 (.exit 0)))
 (.seq
 (.block 1
 (.seq
 (.ops [ iP 5 .id [kI 0]])
 (.block 2
 (.loop [1, 2, 6, 7, 8, 9, 10, 11, 12, 13, 14, 15, 16, 17, 18, 19, 20, 21, 22, 23, 24, 25, 26, 27, 28, 29, 30, 31, 32, 33, 34] [1, 2] f_ref10_Units_L0))))
 (.ops [ iP 13 .id [.t 4], iP 14 (.bin .add) [.t 13, kI 1], iP 4 .id [.t 14]])))
def f_ref10_Units_B : ICode :=
 (.seq
 (.ops [ iP 2 .id [.c (.slice none 0 0)]])
 (.seq
 (.seq
 (.ops [ iP 6 .id [.t 0], iP 7 (.call "haberdash/haberdashref10.may" []) [.t 6], iP 8 (.bin .neq) [.t 7, kI 0]])
 (.cond (.t 8)
 (.seq
 (.ops [ iP 2 .id [.c (.slice none 0 0)]])
 .ret)
 .skip))
 (.seq
 (.ops [ iP 3 (.nilv 0 3) [.c (.slice none 0 0)]])
 (.seq
 (.seq
 (.ops [ iP 4 .id [kI 0]])
 (.block 0
 (.loop [1, 2, 5, 6, 7, 8, 9, 10, 11, 12, 13, 14, 15, 16, 17, 18, 19, 20, 21, 22, 23, 24, 25, 26, 27, 28, 29, 30, 31, 32, 33, 34] [1, 2] f_ref10_Units_L1)))
 (.seq
 (.ops [ iP 34 .id [.t 3], iP 2 .id [.t 34]])
 .ret)))))
def f_ref10_Units : IFn := ⟨35, 3, [.tmp 2], f_ref10_Units_B⟩
def f_help_Plain_api_Unit__B : ICode :=
 (.seq
 (.ops [ iP 4 .id [.c (.bool false)]])
 (.seq
 (.ops [ iP 5 .id [.t 0], iP 6 .id [.t 1], iP 7 (.call "haberdash/haberdashhelp.Same[haberdash/api.Unit]" []) [.t 5, .t 6, .f "haberdash/haberdashhelp.Plain[haberdash/api.Unit]$1"], iP 4 .id [.t 7]])
 .ret))
def f_help_Plain_api_Unit_ : IFn := ⟨8, 0, [.tmp 4], f_help_Plain_api_Unit__B⟩
def f_basket_Items_L0 : ICode :=
 (.seq
 (.ops [ iP 12 (.bin .lss) [.t 11, .t 10]])
 (.seq
 (.cond (.t 12)
 .skip
 (.exit 0))
 (.seq
 (.block 1
 (.seq
 (.ops [ iP 13 (.indexAddr 3) [.t 9, .t 11], iP 14 (.load 3 true) [.t 13], iP 7 (.alloc 1 [(.string ⟨#[]⟩), (.int .i64 0), (.int .i64 0)] []) [], iN (.store 3 false) [.t 7, .t 14]])
 (.seq
 (.ops [ iP 15 .id [.t 0], iP 16 (.fieldAddr 0) [.t 7], iP 17 (.load 1 false) [.t 16], iP 18 (.call "haberdash/goods.Find" []) [.t 15, .t 17], iP 8 .id [.t 18]])
 (.seq
 (.seq
 (.ops [ iP 19 .id [.t 8], iP 20 (.bin .lss) [.t 19, kI 0]])
 (.cond (.t 20)
 (.seq
 (.ops [ iP 4 .id [.c (.slice none 0 0)]])
 .ret)
 .skip))
 (.ops [ iP 21 .id [.t 5], iP 22 .id [.t 0], iP 23 .id [.t 8], iP 24 (.indexAddr 4) [.t 22, .t 23], iP 25 (.load 4 true) [.t 24], iP 26 (.buildSlice 2 false 4 1 [(.string ⟨#[]⟩), (.string ⟨#[]⟩), (.int .i64 0), (.bool false)] [(0, 4)]) [.t 25], iP 27 (.append 3 false 4 48) [.t 21, .t 26], iP 5 .id [.t 27]])))))
 (.ops [ iP 28 (.bin .add) [.t 11, kI 1], iP 11 .id [.t 28]]))))
def f_basket_Items_B : ICode :=
 (.seq
 (.ops [ iP 4 .id [.c (.slice none 0 0)]])
 (.seq
 (.ops [ iP 5 (.nilv 0 4) [.c (.slice none 0 0)]])
 (.seq
 (.seq
 (.ops [ iP 9 .id [.t 1], iP 10 .lenSlice [.t 9], iP 11 .id [kI 0]])
 (.block 0
 (.loop [1, 2, 3, 4, 6, 7, 8, 12, 13, 14, 15, 16, 17, 18, 19, 20, 21, 22, 23, 24, 25, 26, 27, 28, 29] [1, 2, 3] f_basket_Items_L0)))
 (.seq
 (.ops [ iP 29 .id [.t 5], iP 4 .id [.t 29]])
 .ret))))
def f_basket_Items : IFn := ⟨30, 4, [.tmp 4], f_basket_Items_B⟩
def f_ref10_Items_L0 : ICode :=
 (.seq
 (.seq
 (.ops [ iP 8 .id [.t 6], iP 9 .id [.t 1], iP 10 .lenSlice [.t 9], iP 11 (.bin .lss) [.t 8, .t 10]])
 (.cond (.t 11)
 .skip
 (.exit 0)))
 (.seq
 (.block 1
 (.seq
 (.ops [ iP 14 .id [.t 0], iP 15 .id [.t 1], iP 16 .id [.t 6], iP 17 (.indexAddr 3) [.t 15, .t 16], iP 18 (.fieldAddr 0) [.t 17], iP 19 (.load 1 false) [.t 18], iP 20 (.call "haberdash/haberdashref10.Find" []) [.t 14, .t 19], iP 7 .id [.t 20]])
 (.seq
 (.seq
 (.ops [ iP 21 .id [.t 7], iP 22 (.bin .lss) [.t 21, kI 0]])
 (.cond (.t 22)
 (.seq
 (.ops [ iP 4 .id [.c (.slice none 0 0)]])
 .ret)
 .skip))
 (.ops [ iP 23 .id [.t 5], iP 24 .id [.t 0], iP 25 .id [.t 7], iP 26 (.indexAddr 4) [.t 24, .t 25], iP 27 (.load 4 true) [.t 26], iP 28 (.buildSlice 1 false 4 1 [(.string ⟨#[]⟩), (.string ⟨#[]⟩), (.int .i64 0), (.bool false)] [(0, 4)]) [.t 27], iP 29 (.append 2 false 4 48) [.t 23, .t 28], iP 5 .id [.t 29]]))))
 (.ops [ iP 12 .id [.t 6], iP 13 (.bin .add) [.t 12, kI 1], iP 6 .id [.t 13]])))
def f_ref10_Items_B : ICode :=
 (.seq
 (.ops [ iP 4 .id [.c (.slice none 0 0)]])
 (.seq
 (.ops [ iP 5 (.nilv 0 4) [.c (.slice none 0 0)]])
 (.seq
 (.seq
 (.ops [ iP 6 .id [kI 0]])
 (.block 0
 (.loop [2, 3, 4, 7, 8, 9, 10, 11, 12, 13, 14, 15, 16, 17, 18, 19, 20, 21, 22, 23, 24, 25, 26, 27, 28, 29, 30] [1, 2] f_ref10_Items_L0)))
 (.seq
 (.ops [ iP 30 .id [.t 5], iP 4 .id [.t 30]])
 .ret))))
def f_ref10_Items : IFn := ⟨31, 3, [.tmp 4], f_ref10_Items_B⟩
def f_help_Kept_api_Line__L0 : ICode :=
 (.seq
 (.seq
 (.ops [ iP 28 .id [.t 8], iP 29 .id [.t 7], iP 30 .lenSlice [.t 29], iP 31 (.bin .lss) [.t 28, .t 30]])
 (.cond (.t 31)
 .skip
 (.exit 0)))
 (.seq
 (.block 1
 (.seq
 (.draw [ iP 34 .id [.t 7], iP 35 .id [.t 8], iP 36 (.indexAddr 3) [.t 34, .t 35], iP 37 (.load 3 true) [.t 36], iP 38 (.load 3 true) [.t 5], iP 39 (.eq true [.str, .int, .int]) [.t 37, .t 38]])
 (.cond (.t 39)
 (.seq
 (.ops [ iP 6 .id [.c (.bool false)]])
 .ret)
 .skip)))
 (.ops [ iP 32 .id [.t 8], iP 33 (.bin .add) [.t 32, kI 1], iP 8 .id [.t 33]])))
def f_help_Kept_api_Line__B : ICode :=
 (.seq
 (.ops [ iP 5 (.box 0) [.t 2], iP 6 .id [.c (.bool false)]])
 (.seq
 (.seq
 (.ops [ iP 9 .id [.t 0], iP 10 .id [.t 1], iP 11 (.call "haberdash/haberdashhelp.Plain[haberdash/api.Line]" []) [.t 9, .t 10], iP 12 (.un .not) [.t 11], iP 13 .id [.t 12], iG 13 false 14 .id [.t 0], iG 13 false 15 .cap [.t 14], iG 13 false 16 .id [.t 1], iG 13 false 17 .lenSlice [.t 16], iG 13 false 18 (.bin .add) [.t 17, kI 3], iG 13 false 19 (.bin .lss) [.t 15, .t 18], iP 20 .pick [.t 13, .c (.bool true), .t 19]])
 (.cond (.t 20)
 (.seq
 (.ops [ iP 6 .id [.c (.bool false)]])
 .ret)
 .skip))
 (.seq
 (.ops [ iP 21 .id [.t 0], iP 22 .id [.t 1], iP 23 .lenSlice [.t 22], iP 24 (.bin .add) [.t 23, kI 3], iP 25 (.slice 3 false true false) [.t 21, .t 24], iP 7 .id [.t 25]])
 (.seq
 (.seq
 (.ops [ iP 26 .id [.t 1], iP 27 .lenSlice [.t 26], iP 8 .id [.t 27]])
 (.block 0
 (.loop [0, 1, 2, 3, 4, 6, 9, 10, 11, 12, 13, 14, 15, 16, 17, 18, 19, 20, 21, 22, 23, 24, 25, 26, 27, 28, 29, 30, 31, 32, 33, 34, 35, 36, 37, 38, 39] [] f_help_Kept_api_Line__L0)))
 (.seq
 (.ops [ iP 6 .id [.c (.bool true)]])
 .ret)))))
def f_help_Kept_api_Line_ : IFn := ⟨40, 1, [.tmp 6], f_help_Kept_api_Line__B⟩
def f_play_Lines_L0 : ICode :=
 (.seq
 (.seq
 (.ops [ iP 5 .id [.t 4], iP 6 .id [.t 0], iP 7 .lenSlice [.t 6], iP 8 (.bin .lss) [.t 5, .t 7], iP 9 .id [.t 8], iG 9 true 10 .id [.t 4], iG 9 true 11 (.bin .lss) [.t 10, kI 8], iP 12 .pick [.t 9, .t 11, .c (.bool false)]])
 (.cond (.t 12)
 .skip
 (.exit 0)))
 (.seq
 (.block 1
 (.draw [ iP 15 .id [.t 3], iP 16 .id [.t 0], iP 17 .id [.t 4], iP 18 (.indexAddr 3) [.t 16, .t 17], iP 19 (.fieldAddr 0) [.t 18], iP 20 (.load 1 false) [.t 19], iP 21 (.call "haberdash/haberdashplay.pick" []) [.t 20], iP 22 (.call "haberdash/haberdashplay.Sku" []) [.t 21], iP 23 .id [.t 0], iP 24 .id [.t 4], iP 25 (.indexAddr 3) [.t 23, .t 24], iP 26 (.fieldAddr 1) [.t 25], iP 27 (.load 1 false) [.t 26], iP 28 (.call "haberdash/haberdashplay.Mod" []) [.t 27, kI 10], iP 29 .id [.t 0], iP 30 .id [.t 4], iP 31 (.indexAddr 3) [.t 29, .t 30], iP 32 (.fieldAddr 2) [.t 31], iP 33 (.load 1 false) [.t 32], iP 34 (.call "haberdash/haberdashplay.Mod64" []) [.t 33, kI 4000], iP 35 (.build [(.string ⟨#[]⟩), (.int .i64 0), (.int .i64 0)] [(0, 1), (1, 1), (2, 1)]) [.t 22, .t 28, .t 34], iP 36 (.buildSlice 1 false 3 1 [(.string ⟨#[]⟩), (.int .i64 0), (.int .i64 0)] [(0, 3)]) [.t 35],
 ⟨some 37, .append 2 false 3 32, [.t 15, .t 36], none, [], [0], false⟩, iP 3 .id [.t 37]]))
 (.ops [ iP 13 .id [.t 4], iP 14 (.bin .add) [.t 13, kI 1], iP 4 .id [.t 14]])))
def f_play_Lines_B : ICode :=
 (.seq
 (.ops [ iP 2 .id [.c (.slice none 0 0)]])
 (.seq
 (.ops [ iP 3 (.nilv 0 3) [.c (.slice none 0 0)]])
 (.seq
 (.seq
 (.ops [ iP 4 .id [kI 0]])
 (.block 0
 (.loop [1, 2, 5, 6, 7, 8, 9, 10, 11, 12, 13, 14, 15, 16, 17, 18, 19, 20, 21, 22, 23, 24, 25, 26, 27, 28, 29, 30, 31, 32, 33, 34, 35, 36, 37, 38] [1, 2] f_play_Lines_L0)))
 (.seq
 (.ops [ iP 38 .id [.t 3], iP 2 .id [.t 38]])
 .ret))))
def f_play_Lines : IFn := ⟨39, 3, [.tmp 2], f_play_Lines_B⟩
def f_basket_Check_1_B : ICode :=
 (.seq
 (.ops [ iP 3 .id [.c (.bool false)]])
 (.seq
 (.ops [ iP 4 (.load 1 false) [.t 1], iP 5 .id [.t 0], iP 6 (.call "haberdash/goods.Find" []) [.t 4, .t 5], iP 7 (.bin .geq) [.t 6, kI 0], iP 3 .id [.t 7]])
 .ret))
def f_basket_Check_1 : IFn := ⟨8, 0, [.tmp 3], f_basket_Check_1_B⟩
def f_basket_check_L0 : ICode :=
 (.seq
 (.ops [ iP 15 (.bin .lss) [.t 14, .t 13]])
 (.seq
 (.cond (.t 15)
 .skip
 (.exit 0))
 (.seq
 (.block 1
 (.seq
 (.ops [ iP 16 (.indexAddr 3) [.t 12, .t 14], iP 17 (.load 3 true) [.t 16], iP 6 (.alloc 0 [(.string ⟨#[]⟩), (.int .i64 0), (.int .i64 0)] []) [], iN (.store 3 false) [.t 6, .t 17]])
 (.block 2
 (.seq
 (.ops [ iP 19 .id [.t 1], iP 20 (.fieldAddr 0) [.t 6], iP 21 (.load 1 false) [.t 20], iP 22 (.callV []) [.t 19, .t 21], iP 23 (.un .not) [.t 22], iP 18 .id [.t 23]])
 (.cond (.t 18)
 (.seq
 (.ops [ iP 4 .id [kI 7]])
 .ret)
 (.seq
 (.ops [ iP 25 (.load 3 true) [.t 6], iP 26 (.call "haberdash/basket.line" []) [.t 25], iP 27 (.un .not) [.t 26], iP 24 .id [.t 27]])
 (.cond (.t 24)
 (.seq
 (.ops [ iP 4 .id [kI 2]])
 .ret)
 .skip)))))))
 (.ops [ iP 28 (.bin .add) [.t 14, kI 1], iP 14 .id [.t 28]]))))
def f_basket_check_H0 (t0 t1 t12 t13 t14 : AV) : List AV := [t0, t1, .dead, .dead, .dead, .dead, .dead, .dead, .dead, .dead, .dead, .dead, t12, t13, t14, .dead, .dead, .dead, .dead, .dead, .dead, .dead, .dead, .dead, .dead, .dead, .dead, .dead, .dead, .dead, .dead, .dead, .dead, .dead, .dead, .dead, .dead, .dead, .dead, .dead]
def f_basket_check_B : ICode :=
 (.seq
 (.ops [ iP 4 .id [kI 0]])
 (.seq
 (.seq
 (.ops [ iP 9 .id [.t 0], iP 10 .lenSlice [.t 9], iP 11 (.bin .gtr) [.t 10, kI 1000]])
 (.cond (.t 11)
 (.seq
 (.ops [ iP 4 .id [kI 6]])
 .ret)
 .skip))
 (.seq
 (.seq
 (.ops [ iP 12 .id [.t 0], iP 13 .lenSlice [.t 12], iP 14 .id [kI 0]])
 (.block 0
 (.loop [2, 3, 4, 5, 6, 7, 8, 9, 10, 11, 15, 16, 17, 18, 19, 20, 21, 22, 23, 24, 25, 26, 27, 28, 29, 30, 31, 32, 33, 34, 35, 36, 37, 38, 39] [0] f_basket_check_L0)))
 (.seq
 (.seq
 (.ops [ iP 30 .id [.t 0], iP 31 (.call "haberdash/basket.sums" []) [.t 30], iP 29 .id [.t 31], iP 32 (.extract 0) [.t 29], iP 33 (.extract 1) [.t 29], iP 7 .id [.t 32], iP 8 .id [.t 33]])
 (.seq
 (.ops [ iP 34 .id [.t 7], iP 35 (.bin .gtr) [.t 34, kI 100000], iP 36 .id [.t 35], iG 36 false 37 .id [.t 8], iG 36 false 38 (.bin .gtr) [.t 37, kI 10000000000000], iP 39 .pick [.t 36, .c (.bool true), .t 38]])
 (.cond (.t 39)
 (.seq
 (.ops [ iP 4 .id [kI 5]])
 .ret)
 .skip)))
 (.seq
 (.ops [ iP 4 .id [kI 0]])
 .ret)))))
def f_basket_check : IFn := ⟨40, 1, [.tmp 4], f_basket_check_B⟩
def f_ref10_may_L0 : ICode :=
 (.seq
 (.seq
 (.ops [ iP 10 .id [.t 3], iP 11 .id [.t 0], iP 12 .lenSlice [.t 11], iP 13 (.bin .lss) [.t 10, .t 12]])
 (.cond (.t 13)
 .skip
 (.exit 0)))
 (.seq
 (.block 1
 (.seq
 (.ops [ iP 16 .id [.t 0], iP 17 .id [.t 3], iP 18 (.indexAddr 3) [.t 16, .t 17], iP 19 (.fieldAddr 1) [.t 18], iP 20 (.load 1 false) [.t 19], iP 21 (.bin .lss) [.t 20, kI 0], iP 22 .id [.t 21], iG 22 false 23 .id [.t 0], iG 22 false 24 .id [.t 3], iG 22 false 25 (.indexAddr 3) [.t 23, .t 24], iG 22 false 26 (.fieldAddr 1) [.t 25], iG 22 false 27 (.load 1 false) [.t 26], iG 22 false 28 (.bin .gtr) [.t 27, kI 100000], iP 29 .pick [.t 22, .c (.bool true), .t 28], iP 30 .id [.t 29], iG 30 false 31 .id [.t 0], iG 30 false 32 .id [.t 3], iG 30 false 33 (.indexAddr 3) [.t 31, .t 32], iG 30 false 34 (.fieldAddr 2) [.t 33], iG 30 false 35 (.load 1 false) [.t 34], iG 30 false 36 (.call "haberdash/haberdashref10.in" []) [.t 35, kI 1000000000], iG 30 false 37 (.un .not) [.t 36], iP 38 .pick [.t 30, .c (.bool true), .t 37]])
 (.cond (.t 38)
 (.seq
 (.ops [ iP 2 .id [kI 2]])
 .ret)
 .skip)))
 (.ops [ iP 14 .id [.t 3], iP 15 (.bin .add) [.t 14, kI 1], iP 3 .id [.t 15]])))
def f_ref10_may_L1 : ICode :=
 (.seq
 (.seq
 (.ops [ iP 39 .id [.t 6], iP 40 .id [.t 0], iP 41 .lenSlice [.t 40], iP 42 (.bin .lss) [.t 39, .t 41]])
 (.cond (.t 42)
 .skip
 (.exit 2)))
 (.seq
 (.block 3
 (.seq
 (.ops [ iP 45 .id [.t 4], iP 46 .id [.t 0], iP 47 .id [.t 6], iP 48 (.indexAddr 3) [.t 46, .t 47], iP 49 (.fieldAddr 1) [.t 48], iP 50 (.load 1 false) [.t 49], iP 51 (.bin .add) [.t 45, .t 50], iP 4 .id [.t 51]])
 (.seq
 (.draw [ iP 52 .id [.t 5], iP 53 .id [.t 0], iP 54 .id [.t 6], iP 55 (.indexAddr 3) [.t 53, .t 54], iP 56 (.fieldAddr 1) [.t 55], iP 57 (.load 1 false) [.t 56], iP 58 .id [.t 0], iP 59 .id [.t 6], iP 60 (.indexAddr 3) [.t 58, .t 59], iP 61 (.fieldAddr 2) [.t 60], iP 62 (.load 1 false) [.t 61], iP 63 (.bin .mul) [.t 57, .t 62], iP 64 (.bin .add) [.t 52, .t 63], iP 5 .id [.t 64]])
 (.seq
 (.ops [ iP 65 .id [.t 4], iP 66 (.bin .gtr) [.t 65, kI 100000], iP 67 .id [.t 66], iG 67 false 68 .id [.t 5], iG 67 false 69 (.bin .gtr) [.t 68, kI 10000000000000], iP 70 .pick [.t 67, .c (.bool true), .t 69]])
 (.cond (.t 70)
 (.seq
 (.ops [ iP 2 .id [kI 5]])
 .ret)
 .skip)))))
 (.ops [ iP 43 .id [.t 6], iP 44 (.bin .add) [.t 43, kI 1], iP 6 .id [.t 44]])))
def f_ref10_may_B : ICode :=
 (.seq
 (.ops [ iP 2 .id [kI 0]])
 (.seq
 (.seq
 (.ops [ iP 7 .id [.t 0], iP 8 .lenSlice [.t 7], iP 9 (.bin .gtr) [.t 8, kI 1000]])
 (.cond (.t 9)
 (.seq
 (.ops [ iP 2 .id [kI 6]])
 .ret)
 .skip))
 (.seq
 (.seq
 (.ops [ iP 3 .id [kI 0]])
 (.block 0
 (.loop [1, 2, 4, 5, 6, 7, 8, 9, 10, 11, 12, 13, 14, 15, 16, 17, 18, 19, 20, 21, 22, 23, 24, 25, 26, 27, 28, 29, 30, 31, 32, 33, 34, 35, 36, 37, 38, 39, 40, 41, 42, 43, 44, 45, 46, 47, 48, 49, 50, 51, 52, 53, 54, 55, 56, 57, 58, 59, 60, 61, 62, 63, 64, 65, 66, 67, 68, 69, 70] [] f_ref10_may_L0)))
 (.seq
 (.ops [ iP 4 .id [kI 0], iP 5 .id [kI 0]])
 (.seq
 (.seq
 (.ops [ iP 6 .id [kI 0]])
 (.block 2
 (.loop [1, 2, 3, 7, 8, 9, 10, 11, 12, 13, 14, 15, 16, 17, 18, 19, 20, 21, 22, 23, 24, 25, 26, 27, 28, 29, 30, 31, 32, 33, 34, 35, 36, 37, 38, 39, 40, 41, 42, 43, 44, 45, 46, 47, 48, 49, 50, 51, 52, 53, 54, 55, 56, 57, 58, 59, 60, 61, 62, 63, 64, 65, 66, 67, 68, 69, 70] [] f_ref10_may_L1)))
 (.seq
 (.ops [ iP 2 .id [kI 0]])
 .ret))))))
def f_ref10_may : IFn := ⟨71, 0, [.tmp 2], f_ref10_may_B⟩
def f_basket_may_B : ICode :=
 (.seq
 (.ops [ iP 2 .id [.c (.bool false)]])
 (.seq
 (.ops [ iP 3 .id [.t 0], iP 4 (.call "haberdash/basket.check" []) [.t 3, .f "haberdash/basket.may$1"], iP 5 (.bin .eql) [.t 4, kI 0], iP 2 .id [.t 5]])
 .ret))
def f_basket_may : IFn := ⟨6, 0, [.tmp 2], f_basket_may_B⟩
def f_basket_sums_L0 : ICode :=
 (.seq
 (.ops [ iP 11 (.bin .lss) [.t 10, .t 9]])
 (.seq
 (.cond (.t 11)
 .skip
 (.exit 0))
 (.seq
 (.block 1
 (.seq
 (.ops [ iP 12 (.indexAddr 3) [.t 8, .t 10], iP 13 (.load 3 true) [.t 12], iP 7 (.alloc 0 [(.string ⟨#[]⟩), (.int .i64 0), (.int .i64 0)] []) [], iN (.store 3 false) [.t 7, .t 13]])
 (.seq
 (.ops [ iP 14 .id [.t 4], iP 15 (.fieldAddr 1) [.t 7], iP 16 (.load 1 false) [.t 15], iP 17 (.bin .add) [.t 14, .t 16], iP 4 .id [.t 17]])
 (.ops [ iP 18 .id [.t 5], iP 19 (.fieldAddr 1) [.t 7], iP 20 (.load 1 false) [.t 19], iP 21 (.fieldAddr 2) [.t 7], iP 22 (.load 1 false) [.t 21], iP 23 (.bin .mul) [.t 20, .t 22], iP 24 (.bin .add) [.t 18, .t 23], iP 5 .id [.t 24]]))))
 (.ops [ iP 25 (.bin .add) [.t 10, kI 1], iP 10 .id [.t 25]]))))
def f_basket_sums_H0 (t4 t5 t8 t9 t10 : AV) : List AV := [.dead, .dead, .dead, .dead, t4, t5, .dead, .dead, t8, t9, t10, .dead, .dead, .dead, .dead, .dead, .dead, .dead, .dead, .dead, .dead, .dead, .dead, .dead, .dead, .dead, .dead, .dead]
def f_basket_sums_B : ICode :=
 (.seq
 (.ops [ iP 2 .id [kI 0], iP 3 .id [kI 0]])
 (.seq
 (.ops [ iP 4 .id [kI 0], iP 5 .id [kI 0]])
 (.seq
 (.seq
 (.ops [ iP 8 .id [.t 0], iP 9 .lenSlice [.t 8], iP 10 .id [kI 0]])
 (.block 0
 (.loop [0, 1, 2, 3, 6, 7, 11, 12, 13, 14, 15, 16, 17, 18, 19, 20, 21, 22, 23, 24, 25, 26, 27] [0] f_basket_sums_L0)))
 (.seq
 (.ops [ iP 26 .id [.t 4], iP 27 .id [.t 5], iP 2 .id [.t 26], iP 3 .id [.t 27]])
 .ret))))
def f_basket_sums : IFn := ⟨28, 1, [.tmp 2, .tmp 3], f_basket_sums_B⟩
def f_help_Plain_api_Unit__1_B : ICode :=
 (.seq
 (.ops [ iP 2 (.box 0) [.t 0], iP 3 (.box 1) [.t 1], iP 4 .id [.c (.bool false)]])
 (.seq
 (.ops [ iP 5 (.load 3 true) [.t 2], iP 6 (.load 3 true) [.t 3], iP 7 (.eq false [.int, .int, .bool]) [.t 5, .t 6], iP 4 .id [.t 7]])
 .ret))
def f_help_Plain_api_Unit__1 : IFn := ⟨8, 2, [.tmp 4], f_help_Plain_api_Unit__1_B⟩
def f_help_Same_api_Unit__L0 : ICode :=
 (.seq
 (.seq
 (.ops [ iP 13 .id [.t 7], iP 14 .id [.t 0], iP 15 .lenSlice [.t 14], iP 16 (.bin .lss) [.t 13, .t 15]])
 (.cond (.t 16)
 .skip
 (.exit 0)))
 (.seq
 (.block 1
 (.seq
 (.draw [ iP 19 .id [.t 2], iP 20 .id [.t 0], iP 21 .id [.t 7], iP 22 (.indexAddr 3) [.t 20, .t 21], iP 23 (.load 3 true) [.t 22], iP 24 .id [.t 1], iP 25 .id [.t 7], iP 26 (.indexAddr 3) [.t 24, .t 25], iP 27 (.load 3 true) [.t 26], iP 28 (.callV []) [.t 19, .t 23, .t 27], iP 29 (.un .not) [.t 28]])
 (.cond (.t 29)
 (.seq
 (.ops [ iP 6 .id [.c (.bool false)]])
 .ret)
 .skip)))
 (.ops [ iP 17 .id [.t 7], iP 18 (.bin .add) [.t 17, kI 1], iP 7 .id [.t 18]])))
def f_help_Same_api_Unit__B : ICode :=
 (.seq
 (.ops [ iP 6 .id [.c (.bool false)]])
 (.seq
 (.seq
 (.ops [ iP 8 .id [.t 0], iP 9 .lenSlice [.t 8], iP 10 .id [.t 1], iP 11 .lenSlice [.t 10], iP 12 (.bin .neq) [.t 9, .t 11]])
 (.cond (.t 12)
 (.seq
 (.ops [ iP 6 .id [.c (.bool false)]])
 .ret)
 .skip))
 (.seq
 (.seq
 (.ops [ iP 7 .id [kI 0]])
 (.block 0
 (.loop [3, 4, 5, 6, 8, 9, 10, 11, 12, 13, 14, 15, 16, 17, 18, 19, 20, 21, 22, 23, 24, 25, 26, 27, 28, 29] [] f_help_Same_api_Unit__L0)))
 (.seq
 (.ops [ iP 6 .id [.c (.bool true)]])
 .ret))))
def f_help_Same_api_Unit_ : IFn := ⟨30, 0, [.tmp 6], f_help_Same_api_Unit__B⟩
def f_help_Plain_api_Line__B : ICode :=
 (.seq
 (.ops [ iP 4 .id [.c (.bool false)]])
 (.seq
 (.ops [ iP 5 .id [.t 0], iP 6 .id [.t 1], iP 7 (.call "haberdash/haberdashhelp.Same[haberdash/api.Line]" []) [.t 5, .t 6, .f "haberdash/haberdashhelp.Plain[haberdash/api.Line]$1"], iP 4 .id [.t 7]])
 .ret))
def f_help_Plain_api_Line_ : IFn := ⟨8, 0, [.tmp 4], f_help_Plain_api_Line__B⟩
def f_basket_line_B : ICode :=
 (.seq
 (.ops [ iP 1 (.box 0) [.t 0], iP 2 .id [.c (.bool false)]])
 (.seq
 (.ops [ iP 3 (.fieldAddr 1) [.t 1], iP 4 (.load 1 false) [.t 3], iP 5 (.bin .geq) [.t 4, kI 0], iP 6 .id [.t 5], iG 6 true 7 (.fieldAddr 1) [.t 1], iG 6 true 8 (.load 1 false) [.t 7], iG 6 true 9 (.bin .leq) [.t 8, kI 100000], iP 10 .pick [.t 6, .t 9, .c (.bool false)], iP 11 .id [.t 10], iG 11 true 12 (.fieldAddr 2) [.t 1], iG 11 true 13 (.load 1 false) [.t 12], iG 11 true 14 (.bin .geq) [.t 13, kI 0], iP 15 .pick [.t 11, .t 14, .c (.bool false)], iP 16 .id [.t 15], iG 16 true 17 (.fieldAddr 2) [.t 1], iG 16 true 18 (.load 1 false) [.t 17], iG 16 true 19 (.bin .leq) [.t 18, kI 1000000000], iP 20 .pick [.t 16, .t 19, .c (.bool false)], iP 2 .id [.t 20]])
 .ret))
def f_basket_line : IFn := ⟨21, 1, [.tmp 2], f_basket_line_B⟩
def f_basket_may_1_B : ICode :=
 (.seq
 (.ops [ iP 2 .id [.c (.bool false)]])
 (.seq
 (.ops [ iP 2 .id [.c (.bool true)]])
 .ret))
def f_basket_may_1 : IFn := ⟨3, 0, [.tmp 2], f_basket_may_1_B⟩
def f_help_Plain_api_Line__1_B : ICode :=
 (.seq
 (.ops [ iP 2 (.box 0) [.t 0], iP 3 (.box 1) [.t 1], iP 4 .id [.c (.bool false)]])
 (.seq
 (.ops [ iP 5 (.load 3 true) [.t 2], iP 6 (.load 3 true) [.t 3], iP 7 (.eq false [.str, .int, .int]) [.t 5, .t 6], iP 4 .id [.t 7]])
 .ret))
def f_help_Plain_api_Line__1 : IFn := ⟨8, 2, [.tmp 4], f_help_Plain_api_Line__1_B⟩
def f_help_Same_api_Line__L0 : ICode :=
 (.seq
 (.seq
 (.ops [ iP 13 .id [.t 7], iP 14 .id [.t 0], iP 15 .lenSlice [.t 14], iP 16 (.bin .lss) [.t 13, .t 15]])
 (.cond (.t 16)
 .skip
 (.exit 0)))
 (.seq
 (.block 1
 (.seq
 (.draw [ iP 19 .id [.t 2], iP 20 .id [.t 0], iP 21 .id [.t 7], iP 22 (.indexAddr 3) [.t 20, .t 21], iP 23 (.load 3 true) [.t 22], iP 24 .id [.t 1], iP 25 .id [.t 7], iP 26 (.indexAddr 3) [.t 24, .t 25], iP 27 (.load 3 true) [.t 26], iP 28 (.callV []) [.t 19, .t 23, .t 27], iP 29 (.un .not) [.t 28]])
 (.cond (.t 29)
 (.seq
 (.ops [ iP 6 .id [.c (.bool false)]])
 .ret)
 .skip)))
 (.ops [ iP 17 .id [.t 7], iP 18 (.bin .add) [.t 17, kI 1], iP 7 .id [.t 18]])))
def f_help_Same_api_Line__B : ICode :=
 (.seq
 (.ops [ iP 6 .id [.c (.bool false)]])
 (.seq
 (.seq
 (.ops [ iP 8 .id [.t 0], iP 9 .lenSlice [.t 8], iP 10 .id [.t 1], iP 11 .lenSlice [.t 10], iP 12 (.bin .neq) [.t 9, .t 11]])
 (.cond (.t 12)
 (.seq
 (.ops [ iP 6 .id [.c (.bool false)]])
 .ret)
 .skip))
 (.seq
 (.seq
 (.ops [ iP 7 .id [kI 0]])
 (.block 0
 (.loop [3, 4, 5, 6, 8, 9, 10, 11, 12, 13, 14, 15, 16, 17, 18, 19, 20, 21, 22, 23, 24, 25, 26, 27, 28, 29] [] f_help_Same_api_Line__L0)))
 (.seq
 (.ops [ iP 6 .id [.c (.bool true)]])
 .ret))))
def f_help_Same_api_Line_ : IFn := ⟨30, 0, [.tmp 6], f_help_Same_api_Line__B⟩
end Go.AM
