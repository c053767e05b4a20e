import Derived.Test.YtdcnjckkcfoppaaAMA
import Derived.Test.YtdcnjckkcfoppaaScopeA
import Derived.Test.YtdcnjckkcfoppaaScopeB
import Derived.Test.YtdcnjckkcfoppaaAME
set_option linter.unusedVariables false
set_option linter.unusedSimpArgs false
namespace Go.AM
def f_law10_awake_B : ICode :=
 (.seq
 (.ops [ iP 0 .id [.c (.bool false)]])
 (.seq
 (.ops [ iP 2 (.build [(.string ⟨#[]⟩), (.string ⟨#[]⟩), (.int .i64 0), (.bool false)] [(0, 1), (1, 1), (2, 1)]) [.c (.string ⟨#[97]⟩), .c (.string ⟨#[120]⟩), kI 5], iP 3 (.build [(.string ⟨#[]⟩), (.string ⟨#[]⟩), (.int .i64 0), (.bool false)] [(0, 1), (1, 1)]) [.c (.string ⟨#[98]⟩), .c (.string ⟨#[120]⟩)], iP 4 (.buildSlice 0 false 4 2 [(.string ⟨#[]⟩), (.string ⟨#[]⟩), (.int .i64 0), (.bool false)] [(0, 4), (4, 4)]) [.t 2, .t 3], iP 1 .id [.t 4]])
 (.seq
 (.ops [ iP 5 (.call "haberdash/goods.Name" []) [.c (.string ⟨#[97, 45, 49]⟩)], iP 6 .id [.t 5], iG 6 true 7 (.call "haberdash/goods.Name" []) [.c (.string ⟨#[65]⟩)], iG 6 true 8 (.un .not) [.t 7], iP 9 .pick [.t 6, .t 8, .c (.bool false)], iP 10 .id [.t 9], iG 10 true 11 .id [.t 1], iG 10 true 12 (.call "haberdash/goods.Right" []) [.t 11], iP 13 .pick [.t 10, .t 12, .c (.bool false)], iP 14 .id [.t 13], iG 14 true 15 .id [.t 1], iG 14 true 16 (.call "haberdash/goods.Find" []) [.t 15, .c (.string ⟨#[98]⟩)], iG 14 true 17 (.bin .eql) [.t 16, kI 1], iP 18 .pick [.t 14, .t 17, .c (.bool false)], iP 19 .id [.t 18], iG 19 true 20 .id [.t 1], iG 19 true 21 (.call "haberdash/goods.Find" []) [.t 20, .c (.string ⟨#[99]⟩)], iG 19 true 22 (.bin .eql) [.t 21, kI (-1)], iP 23 .pick [.t 19, .t 22, .c (.bool false)], iP 0 .id [.t 23]])
 .ret)))
def f_law10_awake : IFn := ⟨24, 1, [.tmp 0], f_law10_awake_B⟩
def f_help_Own_api_Item__L0 : ICode :=
 (.seq
 (.seq
 (.ops [ iP 22 .id [.t 7], iP 23 .id [.t 6], iP 24 .lenSlice [.t 23], iP 25 (.bin .lss) [.t 22, .t 24]])
 (.cond (.t 25)
 .skip
 (.exit 0)))
 (.seq
 (.block 1
 (.ops [ iP 28 .id [.t 6], iP 29 .id [.t 7], iP 30 (.load 4 true) [.t 3], iP 31 (.indexAddr 4) [.t 28, .t 29], iN (.store 4 false) [.t 31, .t 30]]))
 (.ops [ iP 26 .id [.t 7], iP 27 (.bin .add) [.t 26, kI 1], iP 7 .id [.t 27]])))
def f_help_Own_api_Item__B : ICode :=
 (.seq
 (.ops [ iP 3 (.box 0) [.t 1], iP 4 .id [.c (.slice none 0 0)]])
 (.seq
 (.ops [ iP 8 .id [.t 0], iP 9 .lenSlice [.t 8], iP 10 (.bin .add) [.t 9, kI 3], iP 11 (.makeSlice 1 4 48 [(.string ⟨#[]⟩), (.string ⟨#[]⟩), (.int .i64 0), (.bool false)]) [kI 0, .t 10], iP 5 .id [.t 11]])
 (.seq
 (.ops [ iP 12 .id [.t 5], iP 13 .id [.t 0], iP 14 (.append 2 false 4 48) [.t 12, .t 13], iP 5 .id [.t 14]])
 (.seq
 (.ops [ iP 15 .id [.t 5], iP 16 .id [.t 0], iP 17 .lenSlice [.t 16], iP 18 (.bin .add) [.t 17, kI 3], iP 19 (.slice 4 false true false) [.t 15, .t 18], iP 6 .id [.t 19]])
 (.seq
 (.seq
 (.ops [ iP 20 .id [.t 0], iP 21 .lenSlice [.t 20], iP 7 .id [.t 21]])
 (.block 0
 (.loop [0, 1, 2, 4, 8, 9, 10, 11, 12, 13, 14, 15, 16, 17, 18, 19, 20, 21, 22, 23, 24, 25, 26, 27, 28, 29, 30, 31, 32] [] f_help_Own_api_Item__L0)))
 (.seq
 (.ops [ iP 32 .id [.t 5], iP 4 .id [.t 32]])
 .ret))))))
def f_help_Own_api_Item_ : IFn := ⟨33, 3, [.tmp 4], f_help_Own_api_Item__B⟩
def f_goods_Right_L0 : ICode :=
 (.seq
 (.ops [ iP 12 (.bin .lss) [.t 11, .t 10]])
 (.seq
 (.cond (.t 12)
 .skip
 (.exit 0))
 (.seq
 (.block 1
 (.seq
 (.ops [ iP 13 (.indexAddr 4) [.t 9, .t 11], iP 14 (.load 4 true) [.t 13], iP 5 (.alloc 1 [(.string ⟨#[]⟩), (.string ⟨#[]⟩), (.int .i64 0), (.bool false)] []) [], iN (.store 4 false) [.t 5, .t 14]])
 (.seq
 (.seq
 (.ops [ iP 15 (.fieldAddr 0) [.t 5], iP 16 (.load 1 false) [.t 15], iP 17 (.call "haberdash/goods.Name" []) [.t 16], iP 18 (.un .not) [.t 17], iP 19 .id [.t 18], iG 19 false 20 (.fieldAddr 1) [.t 5], iG 19 false 21 (.load 1 false) [.t 20], iG 19 false 22 (.call "haberdash/goods.Name" []) [.t 21], iG 19 false 23 (.un .not) [.t 22], iP 24 .pick [.t 19, .c (.bool true), .t 23], iP 25 .id [.t 24], iG 25 false 26 (.fieldAddr 2) [.t 5], iG 25 false 27 (.load 1 false) [.t 26], iG 25 false 28 (.bin .lss) [.t 27, kI 0], iP 29 .pick [.t 25, .c (.bool true), .t 28], iP 30 .id [.t 29], iG 30 false 31 (.fieldAddr 2) [.t 5], iG 30 false 32 (.load 1 false) [.t 31], iG 30 false 33 (.bin .gtr) [.t 32, kI 1000000000], iP 34 .pick [.t 30, .c (.bool true), .t 33]])
 (.cond (.t 34)
 (.seq
 (.ops [ iP 2 .id [.c (.bool false)]])
 .ret)
 .skip))
 (.ops [ iP 35 .id [.t 3], iP 36 (.fieldAddr 0) [.t 5], iP 37 (.load 1 false) [.t 36], iP 38 (.buildSlice 2 false 1 1 [(.string ⟨#[]⟩)] [(0, 1)]) [.t 37], iP 39 (.append 3 false 1 16) [.t 35, .t 38], iP 3 .id [.t 39]]))))
 (.ops [ iP 40 (.bin .add) [.t 11, kI 1], iP 11 .id [.t 40]]))))
def f_goods_Right_B : ICode :=
 (.seq
 (.ops [ iP 2 .id [.c (.bool false)]])
 (.seq
 (.seq
 (.ops [ iP 6 .id [.t 0], iP 7 .lenSlice [.t 6], iP 8 (.bin .gtr) [.t 7, kI 500]])
 (.cond (.t 8)
 (.seq
 (.ops [ iP 2 .id [.c (.bool false)]])
 .ret)
 .skip))
 (.seq
 (.ops [ iP 3 (.nilv 0 1) [.c (.slice none 0 0)]])
 (.seq
 (.seq
 (.ops [ iP 9 .id [.t 0], iP 10 .lenSlice [.t 9], iP 11 .id [kI 0]])
 (.block 0
 (.loop [0, 1, 2, 4, 5, 6, 7, 8, 12, 13, 14, 15, 16, 17, 18, 19, 20, 21, 22, 23, 24, 25, 26, 27, 28, 29, 30, 31, 32, 33, 34, 35, 36, 37, 38, 39, 40, 41, 42] [1, 2, 3] f_goods_Right_L0)))
 (.seq
 (.ops [ iP 41 .id [.t 3], iP 42 (.call "haberdash/goods.Rise" []) [.t 41], iP 2 .id [.t 42]])
 .ret)))))
def f_goods_Right : IFn := ⟨43, 4, [.tmp 2], f_goods_Right_B⟩
def f_ref10_Goods_L0 : ICode :=
 (.seq
 (.seq
 (.ops [ iP 4 .id [.t 3], iP 5 .id [.t 0], iP 6 .lenSlice [.t 5], iP 7 (.bin .lss) [.t 4, .t 6]])
 (.cond (.t 7)
 .skip
 (.exit 0)))
 (.seq
 (.block 1
 (.seq
 (.draw [ iP 10 .id [.t 0], iP 11 .id [.t 3], iP 12 (.indexAddr 4) [.t 10, .t 11], iP 13 (.fieldAddr 0) [.t 12], iP 14 (.load 1 false) [.t 13], iP 15 (.call "haberdash/haberdashref10.Name" []) [.t 14], iP 16 (.un .not) [.t 15], iP 17 .id [.t 16], iG 17 false 18 .id [.t 0], iG 17 false 19 .id [.t 3], iG 17 false 20 (.indexAddr 4) [.t 18, .t 19], iG 17 false 21 (.fieldAddr 1) [.t 20], iG 17 false 22 (.load 1 false) [.t 21], iG 17 false 23 (.call "haberdash/haberdashref10.Name" []) [.t 22], iG 17 false 24 (.un .not) [.t 23], iP 25 .pick [.t 17, .c (.bool true), .t 24], iP 26 .id [.t 25], iG 26 false 27 .id [.t 0], iG 26 false 28 .id [.t 3], iG 26 false 29 (.indexAddr 4) [.t 27, .t 28], iG 26 false 30 (.fieldAddr 2) [.t 29], iG 26 false 31 (.load 1 false) [.t 30], iG 26 false 32 (.call "haberdash/haberdashref10.in" []) [.t 31, kI 1000000000], iG 26 false 33 (.un .not) [.t 32], iP 34 .pick [.t 26, .c (.bool true), .t 33], iP 35 .id [.t 34], iG 35 false 36 .id [.t 3], iG 35 false 37 (.bin .gtr) [.t 36, kI 0], iG 35 false 38 .id [.t 37], iG 38 true 39 .id [.t 0], iG 38 true 40 .id [.t 3], iG 38 true 41 (.indexAddr 4) [.t 39, .t 40], iG 38 true 42 (.fieldAddr 0) [.t 41], iG 38 true 43 (.load 1 false) [.t 42], iG 38 true 44 .id [.t 0], iG 38 true 45 .id [.t 3], iG 38 true 46 (.bin .sub) [.t 45, kI 1], iG 38 true 47 (.indexAddr 4) [.t 44, .t 46], iG 38 true 48 (.fieldAddr 0) [.t 47], iG 38 true 49 (.load 1 false) [.t 48], iG 38 true 50 (.bin .leq) [.t 43, .t 49], iG 35 false 51 .pick [.t 38, .t 50, .c (.bool false)], iP 52 .pick [.t 35, .c (.bool true), .t 51]])
 (.cond (.t 52)
 (.seq
 (.ops [ iP 2 .id [.c (.bool false)]])
 .ret)
 .skip)))
 (.ops [ iP 8 .id [.t 3], iP 9 (.bin .add) [.t 8, kI 1], iP 3 .id [.t 9]])))
def f_ref10_Goods_B : ICode :=
 (.seq
 (.ops [ iP 2 .id [.c (.bool false)]])
 (.seq
 (.seq
 (.ops [ iP 3 .id [kI 0]])
 (.block 0
 (.loop [1, 2, 4, 5, 6, 7, 8, 9, 10, 11, 12, 13, 14, 15, 16, 17, 18, 19, 20, 21, 22, 23, 24, 25, 26, 27, 28, 29, 30, 31, 32, 33, 34, 35, 36, 37, 38, 39, 40, 41, 42, 43, 44, 45, 46, 47, 48, 49, 50, 51, 52, 53, 54, 55] [] f_ref10_Goods_L0)))
 (.seq
 (.ops [ iP 53 .id [.t 0], iP 54 .lenSlice [.t 53], iP 55 (.bin .leq) [.t 54, kI 500], iP 2 .id [.t 55]])
 .ret)))
def f_ref10_Goods : IFn := ⟨56, 0, [.tmp 2], f_ref10_Goods_B⟩
def f_goods_Find_B : ICode :=
 (.seq
 (.ops [ iP 3 (.box 0) [.t 1], iP 4 .id [kI 0]])
 (.seq
 (.ops [ iP 8 (.load 1 false) [.t 3], iP 9 (.build [(.string ⟨#[]⟩), (.string ⟨#[]⟩), (.int .i64 0), (.bool false)] [(0, 1)]) [.t 8], iP 5 (.alloc 1 [(.string ⟨#[]⟩), (.string ⟨#[]⟩), (.int .i64 0), (.bool false)] []) [], iN (.store 4 false) [.t 5, .t 9]])
 (.seq
 (.seq
 (.ops [ iP 10 .id [.t 0], iP 11 (.call "slices.IsSortedFunc[[]haberdash/api.Item,haberdash/api.Item]" []) [.t 10, .f "haberdash/goods.bySku"], iP 12 (.un .not) [.t 11]])
 (.cond (.t 12)
 (.seq
 (.ops [ iP 13 .id [.t 0], iP 14 (.makeFunc "haberdash/goods.Find$1" 0) [.t 3], iP 15 (.call "slices.IndexFunc[[]haberdash/api.Item,haberdash/api.Item]" []) [.t 13, .t 14], iP 4 .id [.t 15]])
 .ret)
 .skip))
 (.seq
 (.seq
 (.ops [ iP 17 .id [.t 0], iP 18 (.load 4 true) [.t 5], iP 19 (.call "slices.BinarySearchFunc[[]haberdash/api.Item,haberdash/api.Item,haberdash/api.Item]" []) [.t 17, .t 18, .f "haberdash/goods.bySku"], iP 16 .id [.t 19], iP 20 (.extract 0) [.t 16], iP 21 (.extract 1) [.t 16], iP 6 .id [.t 20], iP 7 .id [.t 21]])
 (.seq
 (.ops [ iP 22 .id [.t 7]])
 (.cond (.t 22)
 (.seq
 (.ops [ iP 23 .id [.t 6], iP 4 .id [.t 23]])
 .ret)
 .skip)))
 (.seq
 (.ops [ iP 4 .id [kI (-1)]])
 .ret)))))
def f_goods_Find : IFn := ⟨24, 2, [.tmp 4], f_goods_Find_B⟩
def f_ref10_Find_L0 : ICode :=
 (.seq
 (.seq
 (.ops [ iP 6 .id [.t 5], iP 7 .id [.t 0], iP 8 .lenSlice [.t 7], iP 9 (.bin .lss) [.t 6, .t 8]])
 (.cond (.t 9)
 .skip
 (.exit 0)))
 (.seq
 (.block 1
 (.seq
 (.ops [ iP 12 .id [.t 0], iP 13 .id [.t 5], iP 14 (.indexAddr 4) [.t 12, .t 13], iP 15 (.fieldAddr 0) [.t 14], iP 16 (.load 1 false) [.t 15], iP 17 .id [.t 1], iP 18 (.bin .eql) [.t 16, .t 17]])
 (.cond (.t 18)
 (.seq
 (.ops [ iP 19 .id [.t 5], iP 4 .id [.t 19]])
 .ret)
 .skip)))
 (.ops [ iP 10 .id [.t 5], iP 11 (.bin .add) [.t 10, kI 1], iP 5 .id [.t 11]])))
def f_ref10_Find_B : ICode :=
 (.seq
 (.ops [ iP 4 .id [kI 0]])
 (.seq
 (.seq
 (.ops [ iP 5 .id [kI 0]])
 (.block 0
 (.loop [2, 3, 4, 6, 7, 8, 9, 10, 11, 12, 13, 14, 15, 16, 17, 18, 19] [] f_ref10_Find_L0)))
 (.seq
 (.ops [ iP 4 .id [kI (-1)]])
 .ret)))
def f_ref10_Find : IFn := ⟨20, 0, [.tmp 4], f_ref10_Find_B⟩
def f_help_Kept_api_Item__L0 : ICode :=
 (.seq
 (.seq
 (.ops [ iP 28 .id [.t 8], iP 29 .id [.t 7], iP 30 .lenSlice [.t 29], iP 31 (.bin .lss) [.t 28, .t 30]])
 (.cond (.t 31)
 .skip
 (.exit 0)))
 (.seq
 (.block 1
 (.seq
 (.draw [ iP 34 .id [.t 7], iP 35 .id [.t 8], iP 36 (.indexAddr 4) [.t 34, .t 35], iP 37 (.load 4 true) [.t 36], iP 38 (.load 4 true) [.t 5], iP 39 (.eq true [.str, .str, .int, .bool]) [.t 37, .t 38]])
 (.cond (.t 39)
 (.seq
 (.ops [ iP 6 .id [.c (.bool false)]])
 .ret)
 .skip)))
 (.ops [ iP 32 .id [.t 8], iP 33 (.bin .add) [.t 32, kI 1], iP 8 .id [.t 33]])))
def f_help_Kept_api_Item__B : ICode :=
 (.seq
 (.ops [ iP 5 (.box 0) [.t 2], iP 6 .id [.c (.bool false)]])
 (.seq
 (.seq
 (.ops [ iP 9 .id [.t 0], iP 10 .id [.t 1], iP 11 (.call "haberdash/haberdashhelp.Plain[haberdash/api.Item]" []) [.t 9, .t 10], iP 12 (.un .not) [.t 11], iP 13 .id [.t 12], iG 13 false 14 .id [.t 0], iG 13 false 15 .cap [.t 14], iG 13 false 16 .id [.t 1], iG 13 false 17 .lenSlice [.t 16], iG 13 false 18 (.bin .add) [.t 17, kI 3], iG 13 false 19 (.bin .lss) [.t 15, .t 18], iP 20 .pick [.t 13, .c (.bool true), .t 19]])
 (.cond (.t 20)
 (.seq
 (.ops [ iP 6 .id [.c (.bool false)]])
 .ret)
 .skip))
 (.seq
 (.ops [ iP 21 .id [.t 0], iP 22 .id [.t 1], iP 23 .lenSlice [.t 22], iP 24 (.bin .add) [.t 23, kI 3], iP 25 (.slice 4 false true false) [.t 21, .t 24], iP 7 .id [.t 25]])
 (.seq
 (.seq
 (.ops [ iP 26 .id [.t 1], iP 27 .lenSlice [.t 26], iP 8 .id [.t 27]])
 (.block 0
 (.loop [0, 1, 2, 3, 4, 6, 9, 10, 11, 12, 13, 14, 15, 16, 17, 18, 19, 20, 21, 22, 23, 24, 25, 26, 27, 28, 29, 30, 31, 32, 33, 34, 35, 36, 37, 38, 39] [] f_help_Kept_api_Item__L0)))
 (.seq
 (.ops [ iP 6 .id [.c (.bool true)]])
 .ret)))))
def f_help_Kept_api_Item_ : IFn := ⟨40, 1, [.tmp 6], f_help_Kept_api_Item__B⟩
def f_ref10_in_B : ICode :=
 (.seq
 (.ops [ iP 4 .id [.c (.bool false)]])
 (.seq
 (.ops [ iP 5 .id [.t 0], iP 6 (.bin .geq) [.t 5, kI 0], iP 7 .id [.t 6], iG 7 true 8 .id [.t 0], iG 7 true 9 .id [.t 1], iG 7 true 10 (.bin .leq) [.t 8, .t 9], iP 11 .pick [.t 7, .t 10, .c (.bool false)], iP 4 .id [.t 11]])
 .ret))
def f_ref10_in : IFn := ⟨12, 0, [.tmp 4], f_ref10_in_B⟩
def f_goods_bySku_B : ICode :=
 (.seq
 (.ops [ iP 2 (.box 0) [.t 0], iP 3 (.box 1) [.t 1], iP 4 .id [kI 0]])
 (.seq
 (.ops [ iP 5 (.fieldAddr 0) [.t 2], iP 6 (.load 1 false) [.t 5], iP 7 (.fieldAddr 0) [.t 3], iP 8 (.load 1 false) [.t 7], iP 9 (.call "cmp.Compare[string]" []) [.t 6, .t 8], iP 4 .id [.t 9]])
 .ret))
def f_goods_bySku : IFn := ⟨10, 2, [.tmp 4], f_goods_bySku_B⟩
def f_slices_IsSortedFunc___api_Item_api_Item__L0 : ICode :=
 (.seq
 (.seq
 (.ops [ iP 9 .id [.t 5], iP 10 (.bin .gtr) [.t 9, kI 0]])
 (.cond (.t 10)
 .skip
 (.exit 0)))
 (.seq
 (.block 1
 (.seq
 (.draw [ iP 13 .id [.t 1], iP 14 .id [.t 0], iP 15 .id [.t 5], iP 16 (.indexAddr 4) [.t 14, .t 15], iP 17 (.load 4 true) [.t 16], iP 18 .id [.t 0], iP 19 .id [.t 5], iP 20 (.bin .sub) [.t 19, kI 1], iP 21 (.indexAddr 4) [.t 18, .t 20], iP 22 (.load 4 true) [.t 21], iP 23 (.callV []) [.t 13, .t 17, .t 22], iP 24 (.bin .lss) [.t 23, kI 0]])
 (.cond (.t 24)
 (.seq
 (.ops [ iP 4 .id [.c (.bool false)]])
 .ret)
 .skip)))
 (.ops [ iP 11 .id [.t 5], iP 12 (.bin .sub) [.t 11, kI 1], iP 5 .id [.t 12]])))
def f_slices_IsSortedFunc___api_Item_api_Item__B : ICode :=
 (.seq
 (.ops [ iP 4 .id [.c (.bool false)]])
 (.seq
 (.seq
 (.ops [ iP 6 .id [.t 0], iP 7 .lenSlice [.t 6], iP 8 (.bin .sub) [.t 7, kI 1], iP 5 .id [.t 8]])
 (.block 0
 (.loop [2, 3, 4, 6, 7, 8, 9, 10, 11, 12, 13, 14, 15, 16, 17, 18, 19, 20, 21, 22, 23, 24] [] f_slices_IsSortedFunc___api_Item_api_Item__L0)))
 (.seq
 (.ops [ iP 4 .id [.c (.bool true)]])
 .ret)))
def f_slices_IsSortedFunc___api_Item_api_Item_ : IFn := ⟨25, 0, [.tmp 4], f_slices_IsSortedFunc___api_Item_api_Item__B⟩
def f_goods_Find_1_B : ICode :=
 (.seq
 (.ops [ iP 2 (.box 0) [.t 0], iP 3 .id [.c (.bool false)]])
 (.seq
 (.ops [ iP 4 (.fieldAddr 0) [.t 2], iP 5 (.load 1 false) [.t 4], iP 6 (.load 1 false) [.t 1], iP 7 (.bin .eql) [.t 5, .t 6], iP 3 .id [.t 7]])
 .ret))
def f_goods_Find_1 : IFn := ⟨8, 1, [.tmp 3], f_goods_Find_1_B⟩
def f_slices_IndexFunc___api_Item_api_Item__L0 : ICode :=
 (.seq
 (.ops [ iP 9 (.bin .lss) [.t 8, .t 7]])
 (.seq
 (.cond (.t 9)
 .skip
 (.exit 0))
 (.seq
 (.block 1
 (.seq
 (.ops [ iP 10 .id [.t 8], iP 5 .id [.t 10]])
 (.seq
 (.ops [ iP 11 .id [.t 1], iP 12 .id [.t 0], iP 13 .id [.t 5], iP 14 (.indexAddr 4) [.t 12, .t 13], iP 15 (.load 4 true) [.t 14], iP 16 (.callV []) [.t 11, .t 15]])
 (.cond (.t 16)
 (.seq
 (.ops [ iP 17 .id [.t 5], iP 4 .id [.t 17]])
 .ret)
 .skip))))
 (.ops [ iP 18 (.bin .add) [.t 8, kI 1], iP 8 .id [.t 18]]))))
def f_slices_IndexFunc___api_Item_api_Item__B : ICode :=
 (.seq
 (.ops [ iP 4 .id [kI 0]])
 (.seq
 (.seq
 (.ops [ iP 6 .id [.t 0], iP 7 .lenSlice [.t 6], iP 8 .id [kI 0]])
 (.block 0
 (.loop [2, 3, 4, 5, 6, 9, 10, 11, 12, 13, 14, 15, 16, 17, 18] [] f_slices_IndexFunc___api_Item_api_Item__L0)))
 (.seq
 (.ops [ iP 4 .id [kI (-1)]])
 .ret)))
def f_slices_IndexFunc___api_Item_api_Item_ : IFn := ⟨19, 0, [.tmp 4], f_slices_IndexFunc___api_Item_api_Item__B⟩
def f_slices_BinarySearchFunc___api_Item_api_Item_api_Item__L0 : ICode :=
 (.seq
 (.seq
 (.ops [ iP 15 .id [.t 9], iP 16 .id [.t 10], iP 17 (.bin .lss) [.t 15, .t 16]])
 (.cond (.t 17)
 .skip
 (.exit 0)))
 (.block 1
 (.seq
 (.ops [ iP 18 .id [.t 9], iP 19 .id [.t 10], iP 20 (.bin .add) [.t 18, .t 19], iP 21 (.convInt .u64) [.t 20], iP 22 (.bin .shr) [.t 21, .c (.int .u64 1)], iP 23 (.convInt .i64) [.t 22], iP 11 .id [.t 23]])
 (.seq
 (.draw [ iP 24 .id [.t 2], iP 25 .id [.t 0], iP 26 .id [.t 11], iP 27 (.indexAddr 4) [.t 25, .t 26], iP 28 (.load 4 true) [.t 27], iP 29 (.load 4 true) [.t 4], iP 30 (.callV []) [.t 24, .t 28, .t 29], iP 31 (.bin .lss) [.t 30, kI 0]])
 (.cond (.t 31)
 (.ops [ iP 32 .id [.t 11], iP 33 (.bin .add) [.t 32, kI 1], iP 9 .id [.t 33]])
 (.ops [ iP 34 .id [.t 11], iP 10 .id [.t 34]]))))))
def f_slices_BinarySearchFunc___api_Item_api_Item_api_Item__B : ICode :=
 (.seq
 (.ops [ iP 4 (.box 0) [.t 1], iP 6 .id [kI 0], iP 7 .id [.c (.bool false)]])
 (.seq
 (.ops [ iP 12 .id [.t 0], iP 13 .lenSlice [.t 12], iP 8 .id [.t 13]])
 (.seq
 (.ops [ iP 14 .id [.t 8], iP 9 .id [kI 0], iP 10 .id [.t 14]])
 (.seq
 (.block 0
 (.loop [1, 3, 5, 6, 7, 11, 12, 13, 14, 15, 16, 17, 18, 19, 20, 21, 22, 23, 24, 25, 26, 27, 28, 29, 30, 31, 32, 33, 34, 35, 36, 37, 38, 39, 40, 41, 42, 43, 44, 45, 46, 47, 48] [] f_slices_BinarySearchFunc___api_Item_api_Item_api_Item__L0))
 (.seq
 (.draw [ iP 35 .id [.t 9], iP 36 .id [.t 9], iP 37 .id [.t 8], iP 38 (.bin .lss) [.t 36, .t 37], iP 39 .id [.t 38], iG 39 true 40 .id [.t 2], iG 39 true 41 .id [.t 0], iG 39 true 42 .id [.t 9], iG 39 true 43 (.indexAddr 4) [.t 41, .t 42], iG 39 true 44 (.load 4 true) [.t 43], iG 39 true 45 (.load 4 true) [.t 4], iG 39 true 46 (.callV []) [.t 40, .t 44, .t 45], iG 39 true 47 (.bin .eql) [.t 46, kI 0], iP 48 .pick [.t 39, .t 47, .c (.bool false)], iP 6 .id [.t 35], iP 7 .id [.t 48]])
 .ret)))))
def f_slices_BinarySearchFunc___api_Item_api_Item_api_Item_ : IFn := ⟨49, 1, [.tmp 6, .tmp 7], f_slices_BinarySearchFunc___api_Item_api_Item_api_Item__B⟩
def f_help_Plain_api_Item__B : ICode :=
 (.seq
 (.ops [ iP 4 .id [.c (.bool false)]])
 (.seq
 (.ops [ iP 5 .id [.t 0], iP 6 .id [.t 1], iP 7 (.call "haberdash/haberdashhelp.Same[haberdash/api.Item]" []) [.t 5, .t 6, .f "haberdash/haberdashhelp.Plain[haberdash/api.Item]$1"], iP 4 .id [.t 7]])
 .ret))
def f_help_Plain_api_Item_ : IFn := ⟨8, 0, [.tmp 4], f_help_Plain_api_Item__B⟩
def f_cmp_Compare_string__B : ICode :=
 (.seq
 (.ops [ iP 4 .id [kI 0]])
 (.seq
 (.ops [ iP 7 .id [.t 0], iP 8 (.call "cmp.isNaN[string]" []) [.t 7], iP 5 .id [.t 8]])
 (.seq
 (.ops [ iP 9 .id [.t 1], iP 10 (.call "cmp.isNaN[string]" []) [.t 9], iP 6 .id [.t 10]])
 (.seq
 (.seq
 (.ops [ iP 11 .id [.t 5]])
 (.cond (.t 11)
 (.seq
 (.seq
 (.ops [ iP 12 .id [.t 6]])
 (.cond (.t 12)
 (.seq
 (.ops [ iP 4 .id [kI 0]])
 .ret)
 .skip))
 (.seq
 (.ops [ iP 4 .id [kI (-1)]])
 .ret))
 .skip))
 (.seq
 (.seq
 (.ops [ iP 13 .id [.t 6]])
 (.cond (.t 13)
 (.seq
 (.ops [ iP 4 .id [kI 1]])
 .ret)
 .skip))
 (.seq
 (.seq
 (.ops [ iP 14 .id [.t 0], iP 15 .id [.t 1], iP 16 (.bin .lss) [.t 14, .t 15]])
 (.cond (.t 16)
 (.seq
 (.ops [ iP 4 .id [kI (-1)]])
 .ret)
 .skip))
 (.seq
 (.seq
 (.ops [ iP 17 .id [.t 0], iP 18 .id [.t 1], iP 19 (.bin .gtr) [.t 17, .t 18]])
 (.cond (.t 19)
 (.seq
 (.ops [ iP 4 .id [kI 1]])
 .ret)
 .skip))
 (.seq
 (.ops [ iP 4 .id [kI 0]])
 .ret))))))))
def f_cmp_Compare_string_ : IFn := ⟨20, 0, [.tmp 4], f_cmp_Compare_string__B⟩
def f_help_Plain_api_Item__1_B : ICode :=
 (.seq
 (.ops [ iP 2 (.box 0) [.t 0], iP 3 (.box 1) [.t 1], iP 4 .id [.c (.bool false)]])
 (.seq
 (.ops [ iP 5 (.load 4 true) [.t 2], iP 6 (.load 4 true) [.t 3], iP 7 (.eq false [.str, .str, .int, .bool]) [.t 5, .t 6], iP 4 .id [.t 7]])
 .ret))
def f_help_Plain_api_Item__1 : IFn := ⟨8, 2, [.tmp 4], f_help_Plain_api_Item__1_B⟩
def f_help_Same_api_Item__L0 : ICode :=
 (.seq
 (.seq
 (.ops [ iP 13 .id [.t 7], iP 14 .id [.t 0], iP 15 .lenSlice [.t 14], iP 16 (.bin .lss) [.t 13, .t 15]])
 (.cond (.t 16)
 .skip
 (.exit 0)))
 (.seq
 (.block 1
 (.seq
 (.draw [ iP 19 .id [.t 2], iP 20 .id [.t 0], iP 21 .id [.t 7], iP 22 (.indexAddr 4) [.t 20, .t 21], iP 23 (.load 4 true) [.t 22], iP 24 .id [.t 1], iP 25 .id [.t 7], iP 26 (.indexAddr 4) [.t 24, .t 25], iP 27 (.load 4 true) [.t 26], iP 28 (.callV []) [.t 19, .t 23, .t 27], iP 29 (.un .not) [.t 28]])
 (.cond (.t 29)
 (.seq
 (.ops [ iP 6 .id [.c (.bool false)]])
 .ret)
 .skip)))
 (.ops [ iP 17 .id [.t 7], iP 18 (.bin .add) [.t 17, kI 1], iP 7 .id [.t 18]])))
def f_help_Same_api_Item__B : ICode :=
 (.seq
 (.ops [ iP 6 .id [.c (.bool false)]])
 (.seq
 (.seq
 (.ops [ iP 8 .id [.t 0], iP 9 .lenSlice [.t 8], iP 10 .id [.t 1], iP 11 .lenSlice [.t 10], iP 12 (.bin .neq) [.t 9, .t 11]])
 (.cond (.t 12)
 (.seq
 (.ops [ iP 6 .id [.c (.bool false)]])
 .ret)
 .skip))
 (.seq
 (.seq
 (.ops [ iP 7 .id [kI 0]])
 (.block 0
 (.loop [3, 4, 5, 6, 8, 9, 10, 11, 12, 13, 14, 15, 16, 17, 18, 19, 20, 21, 22, 23, 24, 25, 26, 27, 28, 29] [] f_help_Same_api_Item__L0)))
 (.seq
 (.ops [ iP 6 .id [.c (.bool true)]])
 .ret))))
def f_help_Same_api_Item_ : IFn := ⟨30, 0, [.tmp 6], f_help_Same_api_Item__B⟩
def f_cmp_isNaN_string__B : ICode :=
 (.seq
 (.ops [ iP 2 .id [.c (.bool false)]])
 (.seq
 (.ops [ iP 3 .id [.t 0], iP 4 .id [.t 0], iP 5 (.bin .neq) [.t 3, .t 4], iP 2 .id [.t 5]])
 .ret))
def f_cmp_isNaN_string_ : IFn := ⟨6, 0, [.tmp 2], f_cmp_isNaN_string__B⟩
end Go.AM
namespace Go.AM
variable {prog : String → Option IFn}
abbrev lessT (a b : Txt) : Bool := Op.bytesLess a b
theorem less_irrefl : ∀ a : Txt, lessT a a = false
  | [] => rfl
  | a :: x => by
    have h : ¬ a < a := fun h => by have := UInt8.lt_iff_toNat_lt.1 h; omega
    simp [Op.bytesLess, h, less_irrefl x]
theorem less_trans : ∀ {a b c : Txt}, lessT a b = true → lessT b c = true → lessT a c = true
  | [], _ :: _, [], _, h => by simp [Op.bytesLess] at h
  | [], _ :: _, _ :: _, _, _ => rfl
  | _ :: _, [], _, h, _ => by simp [Op.bytesLess] at h
  | [], [], _, h, _ => by simp [Op.bytesLess] at h
  | _ :: _, _ :: _, [], _, h => by simp [Op.bytesLess] at h
  | a :: x, b :: y, c :: z, h1, h2 => by
    simp only [Op.bytesLess, Bool.or_eq_true, Bool.and_eq_true, decide_eq_true_eq, beq_iff_eq] at *
    rcases h1 with h1 | ⟨rfl, h1⟩
    · rcases h2 with h2 | ⟨rfl, h2⟩
      · left; have := UInt8.lt_iff_toNat_lt.1 h1; have := UInt8.lt_iff_toNat_lt.1 h2; exact UInt8.lt_iff_toNat_lt.2 (by omega)
      · exact .inl h1
    · rcases h2 with h2 | ⟨rfl, h2⟩
      · exact .inl h2
      · exact .inr ⟨rfl, less_trans h1 h2⟩
theorem less_tri {a b : Txt} (h1 : lessT a b = false) (h2 : lessT b a = false) : a = b := by
  have := less_total b a
  simp only [lessT] at h1 h2
  rw [h2, h1] at this
  simpa using this.symm
theorem le_trans' {a b c : Txt} (h1 : lessT b a = false) (h2 : lessT c b = false) : lessT c a = false := by
  cases h : lessT c a with
  | false => rfl
  | true =>
    cases h3 : lessT a b with
    | true => have := less_trans h h3; rw [h2] at this; cases this
    | false => have e := less_tri h3 h1; subst e; rw [h2] at h; cases h
end Go.AM
namespace Go.AM
variable {prog : String → Option IFn}
def Sorted (ks : List Txt) : Prop := ∀ (i : Nat) a b, ks[i]? = some a → ks[i + 1]? = some b → lessT b a = false
theorem Sorted.le {ks : List Txt} (h : Sorted ks) : ∀ {d i : Nat} {a b}, ks[i]? = some a → ks[i + d]? = some b → lessT b a = false
  | 0, i, a, b, h1, h2 => by rw [Nat.add_zero, h1] at h2; cases h2; exact less_irrefl a
  | d + 1, i, a, b, h1, h2 => by
    have hl := lt_of_get h2
    obtain ⟨c, hc⟩ : ∃ c, ks[i + d]? = some c := ⟨_, List.getElem?_eq_getElem (by omega)⟩
    exact le_trans' (h.le h1 hc) (h (i + d) c b hc h2)
variable {α : Type} {T : Enc α}
end Go.AM
