import Derived.Test.YtikbagggffehkaaAMA
import Derived.Test.YtikbagggffehkaaScopeA
import Derived.Test.YtikbagggffehkaaScopeB
import Derived.Test.YtikbagggffehkaaAME
set_option linter.unusedVariables false
set_option linter.unusedSimpArgs false
namespace Go.AM
def f_help_Own_api_Item__L0 : ICode :=
 (.seq
 (.seq
 (.ops [ iP 22 .id [.t 7], iP 23 .id [.t 6], iP 24 .lenSlice [.t 23], iP 25 (.bin .lss) [.t 22, .t 24]])
 (.cond (.t 25)
 .skip
 (.exit 0)))
 (.seq
 (.block 1
 (.ops [ iP 28 .id [.t 6], iP 29 .id [.t 7], iP 30 (.load 4 true) [.t 3], iP 31 (.indexAddr 4) [.t 28, .t 29], iN (.store 4 false) [.t 31, .t 30]]))
 (.ops [ iP 26 .id [.t 7], iP 27 (.bin .add) [.t 26, kI 1], iP 7 .id [.t 27]])))
def f_help_Own_api_Item__B : ICode :=
 (.seq
 (.ops [ iP 3 (.box 0) [.t 1], iP 4 .id [.c (.slice none 0 0)]])
 (.seq
 (.ops [ iP 8 .id [.t 0], iP 9 .lenSlice [.t 8], iP 10 (.bin .add) [.t 9, kI 3], iP 11 (.makeSlice 1 4 48 [(.string ⟨#[]⟩), (.string ⟨#[]⟩), (.int .i64 0), (.bool false)]) [kI 0, .t 10], iP 5 .id [.t 11]])
 (.seq
 (.ops [ iP 12 .id [.t 5], iP 13 .id [.t 0], iP 14 (.append 2 false 4 48) [.t 12, .t 13], iP 5 .id [.t 14]])
 (.seq
 (.ops [ iP 15 .id [.t 5], iP 16 .id [.t 0], iP 17 .lenSlice [.t 16], iP 18 (.bin .add) [.t 17, kI 3], iP 19 (.slice 4 false true false) [.t 15, .t 18], iP 6 .id [.t 19]])
 (.seq
 (.seq
 (.ops [ iP 20 .id [.t 0], iP 21 .lenSlice [.t 20], iP 7 .id [.t 21]])
 (.block 0
 (.loop [0, 1, 2, 4, 8, 9, 10, 11, 12, 13, 14, 15, 16, 17, 18, 19, 20, 21, 22, 23, 24, 25, 26, 27, 28, 29, 30, 31, 32] [] f_help_Own_api_Item__L0)))
 (.seq
 (.ops [ iP 32 .id [.t 5], iP 4 .id [.t 32]])
 .ret))))))
def f_help_Own_api_Item_ : IFn := ⟨33, 3, [.tmp 4], f_help_Own_api_Item__B⟩
def f_goods_Find_B : ICode :=
 (.seq
 (.ops [ iP 3 (.box 0) [.t 1], iP 4 .id [kI 0]])
 (.seq
 (.ops [ iP 8 (.load 1 false) [.t 3], iP 9 (.build [(.string ⟨#[]⟩), (.string ⟨#[]⟩), (.int .i64 0), (.bool false)] [(0, 1)]) [.t 8], iP 5 (.alloc 1 [(.string ⟨#[]⟩), (.string ⟨#[]⟩), (.int .i64 0), (.bool false)] []) [], iN (.store 4 false) [.t 5, .t 9]])
 (.seq
 (.seq
 (.ops [ iP 10 .id [.t 0], iP 11 (.call "slices.IsSortedFunc[[]haberdash/api.Item,haberdash/api.Item]" []) [.t 10, .f "haberdash/goods.bySku"], iP 12 (.un .not) [.t 11]])
 (.cond (.t 12)
 (.seq
 (.ops [ iP 13 .id [.t 0], iP 14 (.makeFunc "haberdash/goods.Find$1" 0) [.t 3], iP 15 (.call "slices.IndexFunc[[]haberdash/api.Item,haberdash/api.Item]" []) [.t 13, .t 14], iP 4 .id [.t 15]])
 .ret)
 .skip))
 (.seq
 (.seq
 (.ops [ iP 17 .id [.t 0], iP 18 (.load 4 true) [.t 5], iP 19 (.call "slices.BinarySearchFunc[[]haberdash/api.Item,haberdash/api.Item,haberdash/api.Item]" []) [.t 17, .t 18, .f "haberdash/goods.bySku"], iP 16 .id [.t 19], iP 20 (.extract 0) [.t 16], iP 21 (.extract 1) [.t 16], iP 6 .id [.t 20], iP 7 .id [.t 21]])
 (.seq
 (.ops [ iP 22 .id [.t 7]])
 (.cond (.t 22)
 (.seq
 (.ops [ iP 23 .id [.t 6], iP 4 .id [.t 23]])
 .ret)
 .skip)))
 (.seq
 (.ops [ iP 4 .id [kI (-1)]])
 .ret)))))
def f_goods_Find : IFn := ⟨24, 2, [.tmp 4], f_goods_Find_B⟩
def f_ref10_Find_L0 : ICode :=
 (.seq
 (.seq
 (.ops [ iP 6 .id [.t 5], iP 7 .id [.t 0], iP 8 .lenSlice [.t 7], iP 9 (.bin .lss) [.t 6, .t 8]])
 (.cond (.t 9)
 .skip
 (.exit 0)))
 (.seq
 (.block 1
 (.seq
 (.ops [ iP 12 .id [.t 0], iP 13 .id [.t 5], iP 14 (.indexAddr 4) [.t 12, .t 13], iP 15 (.fieldAddr 0) [.t 14], iP 16 (.load 1 false) [.t 15], iP 17 .id [.t 1], iP 18 (.bin .eql) [.t 16, .t 17]])
 (.cond (.t 18)
 (.seq
 (.ops [ iP 19 .id [.t 5], iP 4 .id [.t 19]])
 .ret)
 .skip)))
 (.ops [ iP 10 .id [.t 5], iP 11 (.bin .add) [.t 10, kI 1], iP 5 .id [.t 11]])))
def f_ref10_Find_B : ICode :=
 (.seq
 (.ops [ iP 4 .id [kI 0]])
 (.seq
 (.seq
 (.ops [ iP 5 .id [kI 0]])
 (.block 0
 (.loop [2, 3, 4, 6, 7, 8, 9, 10, 11, 12, 13, 14, 15, 16, 17, 18, 19] [] f_ref10_Find_L0)))
 (.seq
 (.ops [ iP 4 .id [kI (-1)]])
 .ret)))
def f_ref10_Find : IFn := ⟨20, 0, [.tmp 4], f_ref10_Find_B⟩
def f_help_Kept_api_Item__L0 : ICode :=
 (.seq
 (.seq
 (.ops [ iP 28 .id [.t 8], iP 29 .id [.t 7], iP 30 .lenSlice [.t 29], iP 31 (.bin .lss) [.t 28, .t 30]])
 (.cond (.t 31)
 .skip
 (.exit 0)))
 (.seq
 (.block 1
 (.seq
 (.draw [ iP 34 .id [.t 7], iP 35 .id [.t 8], iP 36 (.indexAddr 4) [.t 34, .t 35], iP 37 (.load 4 true) [.t 36], iP 38 (.load 4 true) [.t 5], iP 39 (.eq true [.str, .str, .int, .bool]) [.t 37, .t 38]])
 (.cond (.t 39)
 (.seq
 (.ops [ iP 6 .id [.c (.bool false)]])
 .ret)
 .skip)))
 (.ops [ iP 32 .id [.t 8], iP 33 (.bin .add) [.t 32, kI 1], iP 8 .id [.t 33]])))
def f_help_Kept_api_Item__B : ICode :=
 (.seq
 (.ops [ iP 5 (.box 0) [.t 2], iP 6 .id [.c (.bool false)]])
 (.seq
 (.seq
 (.ops [ iP 9 .id [.t 0], iP 10 .id [.t 1], iP 11 (.call "haberdash/haberdashhelp.Plain[haberdash/api.Item]" []) [.t 9, .t 10], iP 12 (.un .not) [.t 11], iP 13 .id [.t 12], iG 13 false 14 .id [.t 0], iG 13 false 15 .cap [.t 14], iG 13 false 16 .id [.t 1], iG 13 false 17 .lenSlice [.t 16], iG 13 false 18 (.bin .add) [.t 17, kI 3], iG 13 false 19 (.bin .lss) [.t 15, .t 18], iP 20 .pick [.t 13, .c (.bool true), .t 19]])
 (.cond (.t 20)
 (.seq
 (.ops [ iP 6 .id [.c (.bool false)]])
 .ret)
 .skip))
 (.seq
 (.ops [ iP 21 .id [.t 0], iP 22 .id [.t 1], iP 23 .lenSlice [.t 22], iP 24 (.bin .add) [.t 23, kI 3], iP 25 (.slice 4 false true false) [.t 21, .t 24], iP 7 .id [.t 25]])
 (.seq
 (.seq
 (.ops [ iP 26 .id [.t 1], iP 27 .lenSlice [.t 26], iP 8 .id [.t 27]])
 (.block 0
 (.loop [0, 1, 2, 3, 4, 6, 9, 10, 11, 12, 13, 14, 15, 16, 17, 18, 19, 20, 21, 22, 23, 24, 25, 26, 27, 28, 29, 30, 31, 32, 33, 34, 35, 36, 37, 38, 39] [] f_help_Kept_api_Item__L0)))
 (.seq
 (.ops [ iP 6 .id [.c (.bool true)]])
 .ret)))))
def f_help_Kept_api_Item_ : IFn := ⟨40, 1, [.tmp 6], f_help_Kept_api_Item__B⟩
def f_ref10_in_B : ICode :=
 (.seq
 (.ops [ iP 4 .id [.c (.bool false)]])
 (.seq
 (.ops [ iP 5 .id [.t 0], iP 6 (.bin .geq) [.t 5, kI 0], iP 7 .id [.t 6], iG 7 true 8 .id [.t 0], iG 7 true 9 .id [.t 1], iG 7 true 10 (.bin .leq) [.t 8, .t 9], iP 11 .pick [.t 7, .t 10, .c (.bool false)], iP 4 .id [.t 11]])
 .ret))
def f_ref10_in : IFn := ⟨12, 0, [.tmp 4], f_ref10_in_B⟩
def f_goods_bySku_B : ICode :=
 (.seq
 (.ops [ iP 2 (.box 0) [.t 0], iP 3 (.box 1) [.t 1], iP 4 .id [kI 0]])
 (.seq
 (.ops [ iP 5 (.fieldAddr 0) [.t 2], iP 6 (.load 1 false) [.t 5], iP 7 (.fieldAddr 0) [.t 3], iP 8 (.load 1 false) [.t 7], iP 9 (.call "cmp.Compare[string]" []) [.t 6, .t 8], iP 4 .id [.t 9]])
 .ret))
def f_goods_bySku : IFn := ⟨10, 2, [.tmp 4], f_goods_bySku_B⟩
def f_slices_IsSortedFunc___api_Item_api_Item__L0 : ICode :=
 (.seq
 (.seq
 (.ops [ iP 9 .id [.t 5], iP 10 (.bin .gtr) [.t 9, kI 0]])
 (.cond (.t 10)
 .skip
 (.exit 0)))
 (.seq
 (.block 1
 (.seq
 (.draw [ iP 13 .id [.t 1], iP 14 .id [.t 0], iP 15 .id [.t 5], iP 16 (.indexAddr 4) [.t 14, .t 15], iP 17 (.load 4 true) [.t 16], iP 18 .id [.t 0], iP 19 .id [.t 5], iP 20 (.bin .sub) [.t 19, kI 1], iP 21 (.indexAddr 4) [.t 18, .t 20], iP 22 (.load 4 true) [.t 21], iP 23 (.callV []) [.t 13, .t 17, .t 22], iP 24 (.bin .lss) [.t 23, kI 0]])
 (.cond (.t 24)
 (.seq
 (.ops [ iP 4 .id [.c (.bool false)]])
 .ret)
 .skip)))
 (.ops [ iP 11 .id [.t 5], iP 12 (.bin .sub) [.t 11, kI 1], iP 5 .id [.t 12]])))
def f_slices_IsSortedFunc___api_Item_api_Item__B : ICode :=
 (.seq
 (.ops [ iP 4 .id [.c (.bool false)]])
 (.seq
 (.seq
 (.ops [ iP 6 .id [.t 0], iP 7 .lenSlice [.t 6], iP 8 (.bin .sub) [.t 7, kI 1], iP 5 .id [.t 8]])
 (.block 0
 (.loop [2, 3, 4, 6, 7, 8, 9, 10, 11, 12, 13, 14, 15, 16, 17, 18, 19, 20, 21, 22, 23, 24] [] f_slices_IsSortedFunc___api_Item_api_Item__L0)))
 (.seq
 (.ops [ iP 4 .id [.c (.bool true)]])
 .ret)))
def f_slices_IsSortedFunc___api_Item_api_Item_ : IFn := ⟨25, 0, [.tmp 4], f_slices_IsSortedFunc___api_Item_api_Item__B⟩
def f_goods_Find_1_B : ICode :=
 (.seq
 (.ops [ iP 2 (.box 0) [.t 0], iP 3 .id [.c (.bool false)]])
 (.seq
 (.ops [ iP 4 (.fieldAddr 0) [.t 2], iP 5 (.load 1 false) [.t 4], iP 6 (.load 1 false) [.t 1], iP 7 (.bin .eql) [.t 5, .t 6], iP 3 .id [.t 7]])
 .ret))
def f_goods_Find_1 : IFn := ⟨8, 1, [.tmp 3], f_goods_Find_1_B⟩
def f_slices_IndexFunc___api_Item_api_Item__L0 : ICode :=
 (.seq
 (.ops [ iP 9 (.bin .lss) [.t 8, .t 7]])
 (.seq
 (.cond (.t 9)
 .skip
 (.exit 0))
 (.seq
 (.block 1
 (.seq
 (.ops [ iP 10 .id [.t 8], iP 5 .id [.t 10]])
 (.seq
 (.ops [ iP 11 .id [.t 1], iP 12 .id [.t 0], iP 13 .id [.t 5], iP 14 (.indexAddr 4) [.t 12, .t 13], iP 15 (.load 4 true) [.t 14], iP 16 (.callV []) [.t 11, .t 15]])
 (.cond (.t 16)
 (.seq
 (.ops [ iP 17 .id [.t 5], iP 4 .id [.t 17]])
 .ret)
 .skip))))
 (.ops [ iP 18 (.bin .add) [.t 8, kI 1], iP 8 .id [.t 18]]))))
def f_slices_IndexFunc___api_Item_api_Item__B : ICode :=
 (.seq
 (.ops [ iP 4 .id [kI 0]])
 (.seq
 (.seq
 (.ops [ iP 6 .id [.t 0], iP 7 .lenSlice [.t 6], iP 8 .id [kI 0]])
 (.block 0
 (.loop [2, 3, 4, 5, 6, 9, 10, 11, 12, 13, 14, 15, 16, 17, 18] [] f_slices_IndexFunc___api_Item_api_Item__L0)))
 (.seq
 (.ops [ iP 4 .id [kI (-1)]])
 .ret)))
def f_slices_IndexFunc___api_Item_api_Item_ : IFn := ⟨19, 0, [.tmp 4], f_slices_IndexFunc___api_Item_api_Item__B⟩
def f_slices_BinarySearchFunc___api_Item_api_Item_api_Item__L0 : ICode :=
 (.seq
 (.seq
 (.ops [ iP 15 .id [.t 9], iP 16 .id [.t 10], iP 17 (.bin .lss) [.t 15, .t 16]])
 (.cond (.t 17)
 .skip
 (.exit 0)))
 (.block 1
 (.seq
 (.ops [ iP 18 .id [.t 9], iP 19 .id [.t 10], iP 20 (.bin .add) [.t 18, .t 19], iP 21 (.convInt .u64) [.t 20], iP 22 (.bin .shr) [.t 21, .c (.int .u64 1)], iP 23 (.convInt .i64) [.t 22], iP 11 .id [.t 23]])
 (.seq
 (.draw [ iP 24 .id [.t 2], iP 25 .id [.t 0], iP 26 .id [.t 11], iP 27 (.indexAddr 4) [.t 25, .t 26], iP 28 (.load 4 true) [.t 27], iP 29 (.load 4 true) [.t 4], iP 30 (.callV []) [.t 24, .t 28, .t 29], iP 31 (.bin .lss) [.t 30, kI 0]])
 (.cond (.t 31)
 (.ops [ iP 32 .id [.t 11], iP 33 (.bin .add) [.t 32, kI 1], iP 9 .id [.t 33]])
 (.ops [ iP 34 .id [.t 11], iP 10 .id [.t 34]]))))))
def f_slices_BinarySearchFunc___api_Item_api_Item_api_Item__B : ICode :=
 (.seq
 (.ops [ iP 4 (.box 0) [.t 1], iP 6 .id [kI 0], iP 7 .id [.c (.bool false)]])
 (.seq
 (.ops [ iP 12 .id [.t 0], iP 13 .lenSlice [.t 12], iP 8 .id [.t 13]])
 (.seq
 (.ops [ iP 14 .id [.t 8], iP 9 .id [kI 0], iP 10 .id [.t 14]])
 (.seq
 (.block 0
 (.loop [1, 3, 5, 6, 7, 11, 12, 13, 14, 15, 16, 17, 18, 19, 20, 21, 22, 23, 24, 25, 26, 27, 28, 29, 30, 31, 32, 33, 34, 35, 36, 37, 38, 39, 40, 41, 42, 43, 44, 45, 46, 47, 48] [] f_slices_BinarySearchFunc___api_Item_api_Item_api_Item__L0))
 (.seq
 (.draw [ iP 35 .id [.t 9], iP 36 .id [.t 9], iP 37 .id [.t 8], iP 38 (.bin .lss) [.t 36, .t 37], iP 39 .id [.t 38], iG 39 true 40 .id [.t 2], iG 39 true 41 .id [.t 0], iG 39 true 42 .id [.t 9], iG 39 true 43 (.indexAddr 4) [.t 41, .t 42], iG 39 true 44 (.load 4 true) [.t 43], iG 39 true 45 (.load 4 true) [.t 4], iG 39 true 46 (.callV []) [.t 40, .t 44, .t 45], iG 39 true 47 (.bin .eql) [.t 46, kI 0], iP 48 .pick [.t 39, .t 47, .c (.bool false)], iP 6 .id [.t 35], iP 7 .id [.t 48]])
 .ret)))))
def f_slices_BinarySearchFunc___api_Item_api_Item_api_Item_ : IFn := ⟨49, 1, [.tmp 6, .tmp 7], f_slices_BinarySearchFunc___api_Item_api_Item_api_Item__B⟩
def f_help_Plain_api_Item__B : ICode :=
 (.seq
 (.ops [ iP 4 .id [.c (.bool false)]])
 (.seq
 (.ops [ iP 5 .id [.t 0], iP 6 .id [.t 1], iP 7 (.call "haberdash/haberdashhelp.Same[haberdash/api.Item]" []) [.t 5, .t 6, .f "haberdash/haberdashhelp.Plain[haberdash/api.Item]$1"], iP 4 .id [.t 7]])
 .ret))
def f_help_Plain_api_Item_ : IFn := ⟨8, 0, [.tmp 4], f_help_Plain_api_Item__B⟩
def f_cmp_Compare_string__B : ICode :=
 (.seq
 (.ops [ iP 4 .id [kI 0]])
 (.seq
 (.ops [ iP 7 .id [.t 0], iP 8 (.call "cmp.isNaN[string]" []) [.t 7], iP 5 .id [.t 8]])
 (.seq
 (.ops [ iP 9 .id [.t 1], iP 10 (.call "cmp.isNaN[string]" []) [.t 9], iP 6 .id [.t 10]])
 (.seq
 (.seq
 (.ops [ iP 11 .id [.t 5]])
 (.cond (.t 11)
 (.seq
 (.seq
 (.ops [ iP 12 .id [.t 6]])
 (.cond (.t 12)
 (.seq
 (.ops [ iP 4 .id [kI 0]])
 .ret)
 .skip))
 (.seq
 (.ops [ iP 4 .id [kI (-1)]])
 .ret))
 .skip))
 (.seq
 (.seq
 (.ops [ iP 13 .id [.t 6]])
 (.cond (.t 13)
 (.seq
 (.ops [ iP 4 .id [kI 1]])
 .ret)
 .skip))
 (.seq
 (.seq
 (.ops [ iP 14 .id [.t 0], iP 15 .id [.t 1], iP 16 (.bin .lss) [.t 14, .t 15]])
 (.cond (.t 16)
 (.seq
 (.ops [ iP 4 .id [kI (-1)]])
 .ret)
 .skip))
 (.seq
 (.seq
 (.ops [ iP 17 .id [.t 0], iP 18 .id [.t 1], iP 19 (.bin .gtr) [.t 17, .t 18]])
 (.cond (.t 19)
 (.seq
 (.ops [ iP 4 .id [kI 1]])
 .ret)
 .skip))
 (.seq
 (.ops [ iP 4 .id [kI 0]])
 .ret))))))))
def f_cmp_Compare_string_ : IFn := ⟨20, 0, [.tmp 4], f_cmp_Compare_string__B⟩
def f_help_Plain_api_Item__1_B : ICode :=
 (.seq
 (.ops [ iP 2 (.box 0) [.t 0], iP 3 (.box 1) [.t 1], iP 4 .id [.c (.bool false)]])
 (.seq
 (.ops [ iP 5 (.load 4 true) [.t 2], iP 6 (.load 4 true) [.t 3], iP 7 (.eq false [.str, .str, .int, .bool]) [.t 5, .t 6], iP 4 .id [.t 7]])
 .ret))
def f_help_Plain_api_Item__1 : IFn := ⟨8, 2, [.tmp 4], f_help_Plain_api_Item__1_B⟩
def f_help_Same_api_Item__L0 : ICode :=
 (.seq
 (.seq
 (.ops [ iP 13 .id [.t 7], iP 14 .id [.t 0], iP 15 .lenSlice [.t 14], iP 16 (.bin .lss) [.t 13, .t 15]])
 (.cond (.t 16)
 .skip
 (.exit 0)))
 (.seq
 (.block 1
 (.seq
 (.draw [ iP 19 .id [.t 2], iP 20 .id [.t 0], iP 21 .id [.t 7], iP 22 (.indexAddr 4) [.t 20, .t 21], iP 23 (.load 4 true) [.t 22], iP 24 .id [.t 1], iP 25 .id [.t 7], iP 26 (.indexAddr 4) [.t 24, .t 25], iP 27 (.load 4 true) [.t 26], iP 28 (.callV []) [.t 19, .t 23, .t 27], iP 29 (.un .not) [.t 28]])
 (.cond (.t 29)
 (.seq
 (.ops [ iP 6 .id [.c (.bool false)]])
 .ret)
 .skip)))
 (.ops [ iP 17 .id [.t 7], iP 18 (.bin .add) [.t 17, kI 1], iP 7 .id [.t 18]])))
def f_help_Same_api_Item__B : ICode :=
 (.seq
 (.ops [ iP 6 .id [.c (.bool false)]])
 (.seq
 (.seq
 (.ops [ iP 8 .id [.t 0], iP 9 .lenSlice [.t 8], iP 10 .id [.t 1], iP 11 .lenSlice [.t 10], iP 12 (.bin .neq) [.t 9, .t 11]])
 (.cond (.t 12)
 (.seq
 (.ops [ iP 6 .id [.c (.bool false)]])
 .ret)
 .skip))
 (.seq
 (.seq
 (.ops [ iP 7 .id [kI 0]])
 (.block 0
 (.loop [3, 4, 5, 6, 8, 9, 10, 11, 12, 13, 14, 15, 16, 17, 18, 19, 20, 21, 22, 23, 24, 25, 26, 27, 28, 29] [] f_help_Same_api_Item__L0)))
 (.seq
 (.ops [ iP 6 .id [.c (.bool true)]])
 .ret))))
def f_help_Same_api_Item_ : IFn := ⟨30, 0, [.tmp 6], f_help_Same_api_Item__B⟩
def f_cmp_isNaN_string__B : ICode :=
 (.seq
 (.ops [ iP 2 .id [.c (.bool false)]])
 (.seq
 (.ops [ iP 3 .id [.t 0], iP 4 .id [.t 0], iP 5 (.bin .neq) [.t 3, .t 4], iP 2 .id [.t 5]])
 .ret))
def f_cmp_isNaN_string_ : IFn := ⟨6, 0, [.tmp 2], f_cmp_isNaN_string__B⟩
end Go.AM
