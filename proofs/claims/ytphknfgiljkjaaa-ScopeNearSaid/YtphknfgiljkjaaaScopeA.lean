import Derived.Test.YtphknfgiljkjaaaAMA
import Derived.Test.YtphknfgiljkjaaaAMD
import Derived.Test.YtphknfgiljkjaaaHelp
set_option linter.unusedVariables false
set_option linter.unusedSimpArgs false
namespace Go.AM
def f_law11_ScopeNear_L0 : ICode :=
 (.seq
 (.seq
 (.ops [ iP 17 .id [.t 6], iP 18 .id [.t 0], iP 19 .lenSlice [.t 18], iP 20 (.bin .lss) [.t 17, .t 19]])
 (.cond (.t 20)
 .skip
 (.exit 0)))
 (.seq
 (.block 1
 (.seq
 (.ops [ iP 23 .id [.t 5], iP 24 .id [.t 0], iP 25 .id [.t 6], iP 26 (.indexAddr 2) [.t 24, .t 25], iP 27 (.load 2 true) [.t 26], iP 28 (.call "haberdash/haberdashplay.Scope" [1, 2]) [.t 27], iP 29 (.buildSlice 3 true 2 1 [(.slice none 0 0), (.slice none 0 0)] [(0, 2)]) [.t 28], iP 30 (.append 4 true 2 48) [.t 23, .t 29], iP 5 .id [.t 30]])
 (.seq
 (.ops [ iP 31 .id [.t 5], iP 32 .id [.t 6], iP 33 (.indexAddr 2) [.t 31, .t 32], iP 34 (.load 2 true) [.t 33], iP 35 (.call "haberdash/scope.Right" []) [.t 34], iP 36 (.un .not) [.t 35]])
 (.cond (.t 36)
 (.seq
 (.ops [ iP 4 .id [.c (.bool false)]])
 .ret)
 .skip))))
 (.ops [ iP 21 .id [.t 6], iP 22 (.bin .add) [.t 21, kI 1], iP 6 .id [.t 22]])))
def f_law11_ScopeNear_H0 (t0 t1 t5 t6 : AV) : List AV := [t0, t1, .dead, .dead, .dead, t5, t6, .dead, .dead, .dead, .dead, .dead, .dead, .dead, .dead, .dead, .dead, .dead, .dead, .dead, .dead, .dead, .dead, .dead, .dead, .dead, .dead, .dead, .dead, .dead, .dead, .dead, .dead, .dead, .dead, .dead, .dead, .dead, .dead, .dead, .dead, .dead, .dead, .dead, .dead, .dead, .dead, .dead, .dead, .dead, .dead, .dead, .dead, .dead, .dead, .dead, .dead, .dead]
def f_law11_ScopeNear_B : ICode :=
 (.seq
 (.ops [ iP 4 .id [.c (.bool false)]])
 (.seq
 (.seq
 (.ops [ iP 8 .id [.t 0], iP 9 (.call "haberdash/haberdashlaw11.few" []) [.t 8], iP 10 (.un .not) [.t 9], iP 11 .id [.t 10], iG 11 false 12 .id [.t 1], iG 11 false 13 .lenSlice [.t 12], iG 11 false 14 (.bin .gtr) [.t 13, kI 40], iP 15 .pick [.t 11, .c (.bool true), .t 14]])
 (.cond (.t 15)
 (.seq
 (.ops [ iP 16 (.call "haberdash/haberdashlaw11.awake" []) [], iP 4 .id [.t 16]])
 .ret)
 .skip))
 (.seq
 (.ops [ iP 5 (.nilv 0 2) [.c (.slice none 0 0)]])
 (.seq
 (.seq
 (.ops [ iP 6 .id [kI 0]])
 (.block 0
 (.loop [2, 3, 4, 7, 8, 9, 10, 11, 12, 13, 14, 15, 16, 17, 18, 19, 20, 21, 22, 23, 24, 25, 26, 27, 28, 29, 30, 31, 32, 33, 34, 35, 36, 37, 38, 39, 40, 41, 42, 43, 44, 45, 46, 47, 48, 49, 50, 51, 52, 53, 54, 55, 56, 57] [1, 2, 3, 4] f_law11_ScopeNear_L0)))
 (.seq
 (.ops [ iP 37 .id [.t 1], iP 38 (.call "haberdash/haberdashplay.Items" [5]) [.t 37], iP 7 .id [.t 38]])
 (.seq
 (.ops [ iP 39 (.call "haberdash/haberdashlaw11.awake" []) [], iP 40 .id [.t 39], iG 40 true 41 .id [.t 7], iG 40 true 42 .id [.t 5], iG 40 true 43 (.call "haberdash/scope.Index" [6]) [.t 41, .t 42], iG 40 true 44 .id [.t 7], iG 40 true 45 .id [.t 5], iG 40 true 46 (.call "haberdash/haberdashref10.Index" [7]) [.t 44, .t 45], iG 40 true 47 (.call "haberdash/haberdashhelp.Lists" []) [.t 43, .t 46], iP 48 .pick [.t 40, .t 47, .c (.bool false)], iP 49 .id [.t 48], iG 49 true 50 .id [.t 1], iG 49 true 51 .id [.t 0], iG 49 true 52 (.call "haberdash/scope.Index" [8]) [.t 50, .t 51], iG 49 true 53 .id [.t 1], iG 49 true 54 .id [.t 0], iG 49 true 55 (.call "haberdash/haberdashref10.Index" [9]) [.t 53, .t 54], iG 49 true 56 (.call "haberdash/haberdashhelp.Lists" []) [.t 52, .t 55], iP 57 .pick [.t 49, .t 56, .c (.bool false)], iP 4 .id [.t 57]])
 .ret))))))
def f_law11_ScopeNear : IFn := ⟨58, 10, [.tmp 4], f_law11_ScopeNear_B⟩
def f_law11_few_L0 : ICode :=
 (.seq
 (.seq
 (.ops [ iP 4 .id [.t 3], iP 5 .id [.t 0], iP 6 .lenSlice [.t 5], iP 7 (.bin .lss) [.t 4, .t 6]])
 (.cond (.t 7)
 .skip
 (.exit 0)))
 (.seq
 (.block 1
 (.seq
 (.ops [ iP 10 .id [.t 0], iP 11 .id [.t 3], iP 12 (.indexAddr 2) [.t 10, .t 11], iP 13 (.fieldAddr 0) [.t 12], iP 14 (.load 1 false) [.t 13], iP 15 .lenSlice [.t 14], iP 16 (.bin .gtr) [.t 15, kI 40], iP 17 .id [.t 16], iG 17 false 18 .id [.t 0], iG 17 false 19 .id [.t 3], iG 17 false 20 (.indexAddr 2) [.t 18, .t 19], iG 17 false 21 (.fieldAddr 1) [.t 20], iG 17 false 22 (.load 1 false) [.t 21], iG 17 false 23 .lenSlice [.t 22], iG 17 false 24 (.bin .gtr) [.t 23, kI 40], iP 25 .pick [.t 17, .c (.bool true), .t 24]])
 (.cond (.t 25)
 (.seq
 (.ops [ iP 2 .id [.c (.bool false)]])
 .ret)
 .skip)))
 (.ops [ iP 8 .id [.t 3], iP 9 (.bin .add) [.t 8, kI 1], iP 3 .id [.t 9]])))
def f_law11_few_H0 (t0 t3 : AV) : List AV := [t0, .dead, .dead, t3, .dead, .dead, .dead, .dead, .dead, .dead, .dead, .dead, .dead, .dead, .dead, .dead, .dead, .dead, .dead, .dead, .dead, .dead, .dead, .dead, .dead, .dead, .dead, .dead, .dead]
def f_law11_few_B : ICode :=
 (.seq
 (.ops [ iP 2 .id [.c (.bool false)]])
 (.seq
 (.seq
 (.ops [ iP 3 .id [kI 0]])
 (.block 0
 (.loop [1, 2, 4, 5, 6, 7, 8, 9, 10, 11, 12, 13, 14, 15, 16, 17, 18, 19, 20, 21, 22, 23, 24, 25, 26, 27, 28] [] f_law11_few_L0)))
 (.seq
 (.ops [ iP 26 .id [.t 0], iP 27 .lenSlice [.t 26], iP 28 (.bin .leq) [.t 27, kI 20], iP 2 .id [.t 28]])
 .ret)))
def f_law11_few : IFn := ⟨29, 0, [.tmp 2], f_law11_few_B⟩
def f_law11_awake_B : ICode :=
 (.seq
 (.ops [ iP 0 .id [.c (.bool false)]])
 (.seq
 (.ops [ iP 2 (.buildSlice 0 false 1 1 [(.string ⟨#[]⟩)] [(0, 1)]) [.c (.string ⟨#[97]⟩)], iP 3 (.buildSlice 1 false 1 1 [(.string ⟨#[]⟩)] [(0, 1)]) [.c (.string ⟨#[120]⟩)], iP 4 (.build [(.slice none 0 0), (.slice none 0 0)] [(0, 1), (1, 1)]) [.t 2, .t 3], iP 1 (.alloc 2 [(.slice none 0 0), (.slice none 0 0)] []) [], iN (.store 2 false) [.t 1, .t 4]])
 (.seq
 (.ops [ iP 5 (.load 2 true) [.t 1], iP 6 (.call "haberdash/scope.Right" []) [.t 5], iP 7 .id [.t 6], iG 7 true 8 (.load 2 true) [.t 1], iG 7 true 9 (.build [(.string ⟨#[]⟩), (.string ⟨#[]⟩), (.int .i64 0), (.bool false)] [(0, 1), (1, 1)]) [.c (.string ⟨#[98]⟩), .c (.string ⟨#[120]⟩)], iG 7 true 10 (.call "haberdash/scope.Has" []) [.t 8, .t 9], iP 11 .pick [.t 7, .t 10, .c (.bool false)], iP 12 .id [.t 11], iG 12 true 13 (.load 2 true) [.t 1], iG 12 true 14 (.build [(.string ⟨#[]⟩), (.string ⟨#[]⟩), (.int .i64 0), (.bool false)] [(0, 1), (1, 1)]) [.c (.string ⟨#[98]⟩), .c (.string ⟨#[121]⟩)], iG 12 true 15 (.call "haberdash/scope.Has" []) [.t 13, .t 14], iG 12 true 16 (.un .not) [.t 15], iP 17 .pick [.t 12, .t 16, .c (.bool false)], iP 18 .id [.t 17], iG 18 true 19 (.build [(.slice none 0 0), (.slice none 0 0)] []) [], iG 18 true 20 (.build [(.string ⟨#[]⟩), (.string ⟨#[]⟩), (.int .i64 0), (.bool false)] []) [], iG 18 true 21 (.call "haberdash/scope.Has" []) [.t 19, .t 20], iP 22 .pick [.t 18, .t 21, .c (.bool false)], iP 0 .id [.t 22]])
 .ret)))
def f_law11_awake : IFn := ⟨23, 3, [.tmp 0], f_law11_awake_B⟩
def f_help_Own_string__L0 : ICode :=
 (.seq
 (.seq
 (.ops [ iP 22 .id [.t 7], iP 23 .id [.t 6], iP 24 .lenSlice [.t 23], iP 25 (.bin .lss) [.t 22, .t 24]])
 (.cond (.t 25)
 .skip
 (.exit 0)))
 (.seq
 (.block 1
 (.ops [ iP 28 .id [.t 6], iP 29 .id [.t 7], iP 30 .id [.t 1], iP 31 (.indexAddr 1) [.t 28, .t 29], iN (.store 1 false) [.t 31, .t 30]]))
 (.ops [ iP 26 .id [.t 7], iP 27 (.bin .add) [.t 26, kI 1], iP 7 .id [.t 27]])))
def f_help_Own_string__B : ICode :=
 (.seq
 (.ops [ iP 4 .id [.c (.slice none 0 0)]])
 (.seq
 (.ops [ iP 8 .id [.t 0], iP 9 .lenSlice [.t 8], iP 10 (.bin .add) [.t 9, kI 3], iP 11 (.makeSlice 0 1 16 [(.string ⟨#[]⟩)]) [kI 0, .t 10], iP 5 .id [.t 11]])
 (.seq
 (.ops [ iP 12 .id [.t 5], iP 13 .id [.t 0], iP 14 (.append 1 false 1 16) [.t 12, .t 13], iP 5 .id [.t 14]])
 (.seq
 (.ops [ iP 15 .id [.t 5], iP 16 .id [.t 0], iP 17 .lenSlice [.t 16], iP 18 (.bin .add) [.t 17, kI 3], iP 19 (.slice 1 false true false) [.t 15, .t 18], iP 6 .id [.t 19]])
 (.seq
 (.seq
 (.ops [ iP 20 .id [.t 0], iP 21 .lenSlice [.t 20], iP 7 .id [.t 21]])
 (.block 0
 (.loop [0, 2, 3, 4, 8, 9, 10, 11, 12, 13, 14, 15, 16, 17, 18, 19, 20, 21, 22, 23, 24, 25, 26, 27, 28, 29, 30, 31, 32] [] f_help_Own_string__L0)))
 (.seq
 (.ops [ iP 32 .id [.t 5], iP 4 .id [.t 32]])
 .ret))))))
def f_help_Own_string_ : IFn := ⟨33, 2, [.tmp 4], f_help_Own_string__B⟩
def f_scope_Right_B : ICode :=
 (.seq
 (.ops [ iP 1 (.box 0) [.t 0], iP 2 .id [.c (.bool false)]])
 (.seq
 (.ops [ iP 3 (.fieldAddr 0) [.t 1], iP 4 (.load 1 false) [.t 3], iP 5 (.call "(haberdash/scope.names).right" []) [.t 4], iP 6 .id [.t 5], iG 6 true 7 (.fieldAddr 1) [.t 1], iG 6 true 8 (.load 1 false) [.t 7], iG 6 true 9 (.call "(haberdash/scope.names).right" []) [.t 8], iP 10 .pick [.t 6, .t 9, .c (.bool false)], iP 2 .id [.t 10]])
 .ret))
def f_scope_Right : IFn := ⟨11, 1, [.tmp 2], f_scope_Right_B⟩
def f_ref10_Scope_B : ICode :=
 (.seq
 (.ops [ iP 1 (.box 0) [.t 0], iP 2 .id [.c (.bool false)]])
 (.seq
 (.ops [ iP 3 (.fieldAddr 0) [.t 1], iP 4 (.load 1 false) [.t 3], iP 5 (.call "haberdash/haberdashref10.names" []) [.t 4, kI 20], iP 6 .id [.t 5], iG 6 true 7 (.fieldAddr 1) [.t 1], iG 6 true 8 (.load 1 false) [.t 7], iG 6 true 9 (.call "haberdash/haberdashref10.names" []) [.t 8, kI 20], iP 10 .pick [.t 6, .t 9, .c (.bool false)], iP 2 .id [.t 10]])
 .ret))
def f_ref10_Scope : IFn := ⟨11, 1, [.tmp 2], f_ref10_Scope_B⟩
def f_scope_Has_B : ICode :=
 (.seq
 (.ops [ iP 2 (.box 0) [.t 0], iP 3 (.box 1) [.t 1], iP 4 .id [.c (.bool false)]])
 (.seq
 (.ops [ iP 5 (.fieldAddr 0) [.t 2], iP 6 (.load 1 false) [.t 5], iP 7 .lenSlice [.t 6], iP 8 (.fieldAddr 1) [.t 2], iP 9 (.load 1 false) [.t 8], iP 10 .lenSlice [.t 9], iP 11 (.bin .add) [.t 7, .t 10], iP 12 (.bin .eql) [.t 11, kI 0], iP 13 .id [.t 12], iG 13 false 14 (.fieldAddr 0) [.t 2], iG 13 false 15 (.load 1 false) [.t 14], iG 13 false 16 (.fieldAddr 0) [.t 3], iG 13 false 17 (.load 1 false) [.t 16], iG 13 false 18 (.call "(haberdash/scope.names).has" []) [.t 15, .t 17], iP 19 .pick [.t 13, .c (.bool true), .t 18], iP 20 .id [.t 19], iG 20 false 21 (.fieldAddr 1) [.t 2], iG 20 false 22 (.load 1 false) [.t 21], iG 20 false 23 (.fieldAddr 1) [.t 3], iG 20 false 24 (.load 1 false) [.t 23], iG 20 false 25 (.call "(haberdash/scope.names).has" []) [.t 22, .t 24], iP 26 .pick [.t 20, .c (.bool true), .t 25], iP 4 .id [.t 26]])
 .ret))
def f_scope_Has : IFn := ⟨27, 2, [.tmp 4], f_scope_Has_B⟩
def f_ref10_Has_B : ICode :=
 (.seq
 (.ops [ iP 2 (.box 0) [.t 0], iP 3 (.box 1) [.t 1], iP 4 .id [.c (.bool false)]])
 (.seq
 (.ops [ iP 5 (.fieldAddr 0) [.t 2], iP 6 (.load 1 false) [.t 5], iP 7 .lenSlice [.t 6], iP 8 (.bin .eql) [.t 7, kI 0], iP 9 .id [.t 8], iG 9 true 10 (.fieldAddr 1) [.t 2], iG 9 true 11 (.load 1 false) [.t 10], iG 9 true 12 .lenSlice [.t 11], iG 9 true 13 (.bin .eql) [.t 12, kI 0], iP 14 .pick [.t 9, .t 13, .c (.bool false)], iP 15 .id [.t 14], iG 15 false 16 (.fieldAddr 0) [.t 2], iG 15 false 17 (.load 1 false) [.t 16], iG 15 false 18 (.fieldAddr 0) [.t 3], iG 15 false 19 (.load 1 false) [.t 18], iG 15 false 20 (.call "haberdash/haberdashref10.has" []) [.t 17, .t 19], iP 21 .pick [.t 15, .c (.bool true), .t 20], iP 22 .id [.t 21], iG 22 false 23 (.fieldAddr 1) [.t 2], iG 22 false 24 (.load 1 false) [.t 23], iG 22 false 25 (.fieldAddr 1) [.t 3], iG 22 false 26 (.load 1 false) [.t 25], iG 22 false 27 (.call "haberdash/haberdashref10.has" []) [.t 24, .t 26], iP 28 .pick [.t 22, .c (.bool true), .t 27], iP 4 .id [.t 28]])
 .ret))
def f_ref10_Has : IFn := ⟨29, 2, [.tmp 4], f_ref10_Has_B⟩
def f_help_Kept_string__L0 : ICode :=
 (.seq
 (.seq
 (.ops [ iP 28 .id [.t 8], iP 29 .id [.t 7], iP 30 .lenSlice [.t 29], iP 31 (.bin .lss) [.t 28, .t 30]])
 (.cond (.t 31)
 .skip
 (.exit 0)))
 (.seq
 (.block 1
 (.seq
 (.ops [ iP 34 .id [.t 7], iP 35 .id [.t 8], iP 36 (.indexAddr 1) [.t 34, .t 35], iP 37 (.load 1 false) [.t 36], iP 38 .id [.t 2], iP 39 (.bin .neq) [.t 37, .t 38]])
 (.cond (.t 39)
 (.seq
 (.ops [ iP 6 .id [.c (.bool false)]])
 .ret)
 .skip)))
 (.ops [ iP 32 .id [.t 8], iP 33 (.bin .add) [.t 32, kI 1], iP 8 .id [.t 33]])))
def f_help_Kept_string__B : ICode :=
 (.seq
 (.ops [ iP 6 .id [.c (.bool false)]])
 (.seq
 (.seq
 (.ops [ iP 9 .id [.t 0], iP 10 .id [.t 1], iP 11 (.call "haberdash/haberdashhelp.Plain[string]" []) [.t 9, .t 10], iP 12 (.un .not) [.t 11], iP 13 .id [.t 12], iG 13 false 14 .id [.t 0], iG 13 false 15 .cap [.t 14], iG 13 false 16 .id [.t 1], iG 13 false 17 .lenSlice [.t 16], iG 13 false 18 (.bin .add) [.t 17, kI 3], iG 13 false 19 (.bin .lss) [.t 15, .t 18], iP 20 .pick [.t 13, .c (.bool true), .t 19]])
 (.cond (.t 20)
 (.seq
 (.ops [ iP 6 .id [.c (.bool false)]])
 .ret)
 .skip))
 (.seq
 (.ops [ iP 21 .id [.t 0], iP 22 .id [.t 1], iP 23 .lenSlice [.t 22], iP 24 (.bin .add) [.t 23, kI 3], iP 25 (.slice 1 false true false) [.t 21, .t 24], iP 7 .id [.t 25]])
 (.seq
 (.seq
 (.ops [ iP 26 .id [.t 1], iP 27 .lenSlice [.t 26], iP 8 .id [.t 27]])
 (.block 0
 (.loop [0, 1, 3, 4, 5, 6, 9, 10, 11, 12, 13, 14, 15, 16, 17, 18, 19, 20, 21, 22, 23, 24, 25, 26, 27, 28, 29, 30, 31, 32, 33, 34, 35, 36, 37, 38, 39] [] f_help_Kept_string__L0)))
 (.seq
 (.ops [ iP 6 .id [.c (.bool true)]])
 .ret)))))
def f_help_Kept_string_ : IFn := ⟨40, 0, [.tmp 6], f_help_Kept_string__B⟩
def f_play_Scope_B : ICode :=
 (.seq
 (.ops [ iP 1 (.box 0) [.t 0], iP 2 (.alloc 3 [(.slice none 0 0), (.slice none 0 0)] []) []])
 (.seq
 (.draw [ iP 3 (.fieldAddr 0) [.t 1], iP 4 (.load 1 false) [.t 3], iP 5 (.call "haberdash/haberdashplay.some" [1]) [.t 4, kI 3, kI 8, .f "haberdash/haberdashplay.Sku"], iP 6 (.fieldAddr 1) [.t 1],
 ⟨some 7, .load 1 false, [.t 6], none, [1], [], false⟩, iP 8 (.call "haberdash/haberdashplay.some" [2]) [.t 7, kI 2, kI 3, .f "haberdash/haberdashplay.Category"], iP 9 (.build [(.slice none 0 0), (.slice none 0 0)] [(0, 1), (1, 1)]) [.t 5, .t 8],
 ⟨none, .store 2 false, [.t 2, .t 9], none, [], [3], false⟩])
 .ret))
def f_play_Scope : IFn := ⟨10, 4, [.cell 2 2 true], f_play_Scope_B⟩
def f_play_Sku_B : ICode :=
 (.seq
 (.ops [ iP 2 .id [.c (.string ⟨#[]⟩)]])
 (.seq
 (.ops [ iP 3 .id [.t 0], iP 4 (.call "haberdash/haberdashplay.Mod" []) [.t 3, kI 8], iP 5 (.convInt .u8) [.t 4], iP 6 (.bin .add) [.c (.int .u8 97), .t 5], iP 7 (.buildSlice 0 false 1 1 [(.int .u8 0)] [(0, 1)]) [.t 6], iP 8 .bytesStr [.t 7], iP 2 .id [.t 8]])
 .ret))
def f_play_Sku : IFn := ⟨9, 1, [.tmp 2], f_play_Sku_B⟩
def f_play_Category_B : ICode :=
 (.seq
 (.ops [ iP 2 .id [.c (.string ⟨#[]⟩)]])
 (.seq
 (.ops [ iP 3 .id [.t 0], iP 4 (.call "haberdash/haberdashplay.Mod" []) [.t 3, kI 3], iP 5 (.convInt .u8) [.t 4], iP 6 (.bin .add) [.c (.int .u8 120), .t 5], iP 7 (.buildSlice 0 false 1 1 [(.int .u8 0)] [(0, 1)]) [.t 6], iP 8 .bytesStr [.t 7], iP 2 .id [.t 8]])
 .ret))
def f_play_Category : IFn := ⟨9, 1, [.tmp 2], f_play_Category_B⟩
def f_play_Mod_B : ICode :=
 (.seq
 (.ops [ iP 4 .id [kI 0]])
 (.seq
 (.ops [ iP 5 .id [.t 0], iP 6 (.convInt .u64) [.t 5], iP 7 .id [.t 1], iP 8 (.convInt .u64) [.t 7], iP 9 (.bin .rem) [.t 6, .t 8], iP 10 (.convInt .i64) [.t 9], iP 4 .id [.t 10]])
 .ret))
def f_play_Mod : IFn := ⟨11, 0, [.tmp 4], f_play_Mod_B⟩
def f_play_Items_L0 : ICode :=
 (.seq
 (.seq
 (.ops [ iP 6 .id [.t 4], iP 7 (.bin .lss) [.t 6, kI 8]])
 (.cond (.t 7)
 .skip
 (.exit 0)))
 (.seq
 (.block 1
 (.seq
 (.ops [ iP 10 .id [.t 4], iP 11 (.call "haberdash/haberdashplay.Sku" []) [.t 10], iP 12 .id [.t 4], iP 13 (.call "haberdash/haberdashplay.Category" []) [.t 12], iP 14 .id [.t 4], iP 15 (.bin .mul) [kI 37, .t 14], iP 16 (.bin .add) [kI 100, .t 15], iP 17 (.build [(.string ⟨#[]⟩), (.string ⟨#[]⟩), (.int .i64 0), (.bool false)] [(0, 1), (1, 1), (2, 1)]) [.t 11, .t 13, .t 16], iP 5 (.alloc 1 [(.string ⟨#[]⟩), (.string ⟨#[]⟩), (.int .i64 0), (.bool false)] []) [], iN (.store 4 false) [.t 5, .t 17]])
 (.seq
 (.seq
 (.ops [ iP 18 .id [.t 4], iP 19 .id [.t 0], iP 20 .lenSlice [.t 19], iP 21 (.bin .lss) [.t 18, .t 20]])
 (.cond (.t 21)
 (.draw [ iP 22 .id [.t 0], iP 23 .id [.t 4], iP 24 (.indexAddr 4) [.t 22, .t 23], iP 25 (.fieldAddr 1) [.t 24], iP 26 (.load 1 false) [.t 25], iP 27 (.call "haberdash/haberdashplay.pick" []) [.t 26], iP 28 (.call "haberdash/haberdashplay.Category" []) [.t 27], iP 29 .id [.t 0], iP 30 .id [.t 4], iP 31 (.indexAddr 4) [.t 29, .t 30], iP 32 (.fieldAddr 2) [.t 31], iP 33 (.load 1 false) [.t 32], iP 34 (.call "haberdash/haberdashplay.Mod64" []) [.t 33, kI 4000], iP 35 .id [.t 0], iP 36 .id [.t 4], iP 37 (.indexAddr 4) [.t 35, .t 36], iP 38 (.fieldAddr 3) [.t 37], iP 39 (.load 1 false) [.t 38], iP 40 .id [.t 39], iG 40 true 41 .id [.t 4], iG 40 true 42 (.bin .eql) [.t 41, kI 7], iP 43 .pick [.t 40, .t 42, .c (.bool false)], iP 44 (.fieldAddr 1) [.t 5],
 ⟨none, .store 1 false, [.t 44, .t 28], none, [], [1], false⟩, iP 45 (.fieldAddr 2) [.t 5],
 ⟨none, .store 1 false, [.t 45, .t 34], none, [], [1], false⟩, iP 46 (.fieldAddr 3) [.t 5],
 ⟨none, .store 1 false, [.t 46, .t 43], none, [], [1], false⟩])
 .skip))
 (.ops [ iP 47 .id [.t 3], iP 48 (.load 4 true) [.t 5], iP 49 (.buildSlice 2 false 4 1 [(.string ⟨#[]⟩), (.string ⟨#[]⟩), (.int .i64 0), (.bool false)] [(0, 4)]) [.t 48], iP 50 (.append 3 false 4 48) [.t 47, .t 49], iP 3 .id [.t 50]]))))
 (.ops [ iP 8 .id [.t 4], iP 9 (.bin .add) [.t 8, kI 1], iP 4 .id [.t 9]])))
def f_play_Items_H0 (t0 t3 t4 : AV) : List AV := [t0, .dead, .dead, t3, t4, .dead, .dead, .dead, .dead, .dead, .dead, .dead, .dead, .dead, .dead, .dead, .dead, .dead, .dead, .dead, .dead, .dead, .dead, .dead, .dead, .dead, .dead, .dead, .dead, .dead, .dead, .dead, .dead, .dead, .dead, .dead, .dead, .dead, .dead, .dead, .dead, .dead, .dead, .dead, .dead, .dead, .dead, .dead, .dead, .dead, .dead, .dead]
def f_play_Items_B : ICode :=
 (.seq
 (.ops [ iP 2 .id [.c (.slice none 0 0)]])
 (.seq
 (.ops [ iP 3 (.nilv 0 4) [.c (.slice none 0 0)]])
 (.seq
 (.seq
 (.ops [ iP 4 .id [kI 0]])
 (.block 0
 (.loop [1, 2, 5, 6, 7, 8, 9, 10, 11, 12, 13, 14, 15, 16, 17, 18, 19, 20, 21, 22, 23, 24, 25, 26, 27, 28, 29, 30, 31, 32, 33, 34, 35, 36, 37, 38, 39, 40, 41, 42, 43, 44, 45, 46, 47, 48, 49, 50, 51] [1, 2, 3] f_play_Items_L0)))
 (.seq
 (.ops [ iP 51 .id [.t 3], iP 2 .id [.t 51]])
 .ret))))
def f_play_Items : IFn := ⟨52, 4, [.tmp 2], f_play_Items_B⟩
def f_ref10_Index_L0 : ICode :=
 (.seq
 (.seq
 (.ops [ iP 15 .id [.t 8], iP 16 .id [.t 1], iP 17 .lenSlice [.t 16], iP 18 (.bin .lss) [.t 15, .t 17]])
 (.cond (.t 18)
 .skip
 (.exit 2)))
 (.seq
 (.block 3
 (.seq
 (.draw [ iP 21 .id [.t 1], iP 22 .id [.t 8], iP 23 (.indexAddr 2) [.t 21, .t 22], iP 24 (.load 2 true) [.t 23], iP 25 .id [.t 0], iP 26 .id [.t 6], iP 27 (.indexAddr 4) [.t 25, .t 26], iP 28 (.load 4 true) [.t 27], iP 29 (.call "haberdash/haberdashref10.Has" []) [.t 24, .t 28]])
 (.cond (.t 29)
 (.ops [ iP 30 .id [.t 7], iP 31 .id [.t 8], iP 32 (.buildSlice 2 false 1 1 [(.int .i64 0)] [(0, 1)]) [.t 31], iP 33 (.append 3 false 1 8) [.t 30, .t 32], iP 7 .id [.t 33]])
 .skip)))
 (.ops [ iP 19 .id [.t 8], iP 20 (.bin .add) [.t 19, kI 1], iP 8 .id [.t 20]])))
def f_ref10_Index_H0 (t0 t1 t5 t6 t7 t8 : AV) : List AV := [t0, t1, .dead, .dead, .dead, t5, t6, t7, t8, .dead, .dead, .dead, .dead, .dead, .dead, .dead, .dead, .dead, .dead, .dead, .dead, .dead, .dead, .dead, .dead, .dead, .dead, .dead, .dead, .dead, .dead, .dead, .dead, .dead, .dead, .dead, .dead, .dead, .dead]
def f_ref10_Index_L1 : ICode :=
 (.seq
 (.seq
 (.ops [ iP 9 .id [.t 6], iP 10 .id [.t 0], iP 11 .lenSlice [.t 10], iP 12 (.bin .lss) [.t 9, .t 11]])
 (.cond (.t 12)
 .skip
 (.exit 0)))
 (.seq
 (.block 1
 (.seq
 (.ops [ iP 7 (.nilv 1 1) [.c (.slice none 0 0)]])
 (.seq
 (.seq
 (.ops [ iP 8 .id [kI 0]])
 (.block 2
 (.loop [2, 3, 4, 9, 10, 11, 12, 13, 14, 15, 16, 17, 18, 19, 20, 21, 22, 23, 24, 25, 26, 27, 28, 29, 30, 31, 32, 33, 34, 35, 36, 37, 38] [2, 3] f_ref10_Index_L0)))
 (.ops [ iP 34 .id [.t 5], iP 35 .id [.t 7], iP 36 (.buildSlice 4 true 1 1 [(.slice none 0 0)] [(0, 1)]) [.t 35], iP 37 (.append 5 true 1 24) [.t 34, .t 36], iP 5 .id [.t 37]]))))
 (.ops [ iP 13 .id [.t 6], iP 14 (.bin .add) [.t 13, kI 1], iP 6 .id [.t 14]])))
def f_ref10_Index_H1 (t0 t1 t5 t6 : AV) : List AV := [t0, t1, .dead, .dead, .dead, t5, t6, .dead, .dead, .dead, .dead, .dead, .dead, .dead, .dead, .dead, .dead, .dead, .dead, .dead, .dead, .dead, .dead, .dead, .dead, .dead, .dead, .dead, .dead, .dead, .dead, .dead, .dead, .dead, .dead, .dead, .dead, .dead, .dead]
def f_ref10_Index_B : ICode :=
 (.seq
 (.ops [ iP 4 .id [.c (.slice none 0 0)]])
 (.seq
 (.ops [ iP 5 (.nilv 0 1) [.c (.slice none 0 0)]])
 (.seq
 (.seq
 (.ops [ iP 6 .id [kI 0]])
 (.block 0
 (.loop [2, 3, 4, 7, 8, 9, 10, 11, 12, 13, 14, 15, 16, 17, 18, 19, 20, 21, 22, 23, 24, 25, 26, 27, 28, 29, 30, 31, 32, 33, 34, 35, 36, 37, 38] [1, 2, 3, 4, 5] f_ref10_Index_L1)))
 (.seq
 (.ops [ iP 38 .id [.t 5], iP 4 .id [.t 38]])
 .ret))))
def f_ref10_Index : IFn := ⟨39, 6, [.tmp 4], f_ref10_Index_B⟩
def f_help_Lists_B : ICode :=
 (.seq
 (.ops [ iP 4 .id [.c (.bool false)]])
 (.seq
 (.ops [ iP 5 .id [.t 0], iP 6 .id [.t 1], iP 7 (.call "haberdash/haberdashhelp.Same[[]int]" []) [.t 5, .t 6, .f "haberdash/haberdashhelp.Plain[int]"], iP 4 .id [.t 7]])
 .ret))
def f_help_Lists : IFn := ⟨8, 0, [.tmp 4], f_help_Lists_B⟩
def f__scope_names__right_B : ICode :=
 (.seq
 (.ops [ iP 2 .id [.c (.bool false)]])
 (.seq
 (.ops [ iP 3 .id [.t 0], iP 4 .lenSlice [.t 3], iP 5 (.bin .leq) [.t 4, kI 20], iP 6 .id [.t 5], iG 6 true 7 .id [.t 0], iG 6 true 8 (.call "haberdash/goods.Rise" []) [.t 7], iP 9 .pick [.t 6, .t 8, .c (.bool false)], iP 10 .id [.t 9], iG 10 true 11 .id [.t 0], iG 10 true 12 (.call "slices.ContainsFunc[haberdash/scope.names,string]" []) [.t 11, .f "(haberdash/scope.names).right$1"], iG 10 true 13 (.un .not) [.t 12], iP 14 .pick [.t 10, .t 13, .c (.bool false)], iP 2 .id [.t 14]])
 .ret))
def f__scope_names__right : IFn := ⟨15, 0, [.tmp 2], f__scope_names__right_B⟩
def f_ref10_names_L0 : ICode :=
 (.seq
 (.seq
 (.ops [ iP 6 .id [.t 5], iP 7 .id [.t 0], iP 8 .lenSlice [.t 7], iP 9 (.bin .lss) [.t 6, .t 8]])
 (.cond (.t 9)
 .skip
 (.exit 0)))
 (.seq
 (.block 1
 (.seq
 (.draw [ iP 12 .id [.t 0], iP 13 .id [.t 5], iP 14 (.indexAddr 1) [.t 12, .t 13], iP 15 (.load 1 false) [.t 14], iP 16 (.call "haberdash/haberdashref10.Name" []) [.t 15], iP 17 (.un .not) [.t 16], iP 18 .id [.t 17], iG 18 false 19 .id [.t 5], iG 18 false 20 (.bin .gtr) [.t 19, kI 0], iG 18 false 21 .id [.t 20], iG 21 true 22 .id [.t 0], iG 21 true 23 .id [.t 5], iG 21 true 24 (.indexAddr 1) [.t 22, .t 23], iG 21 true 25 (.load 1 false) [.t 24], iG 21 true 26 .id [.t 0], iG 21 true 27 .id [.t 5], iG 21 true 28 (.bin .sub) [.t 27, kI 1], iG 21 true 29 (.indexAddr 1) [.t 26, .t 28], iG 21 true 30 (.load 1 false) [.t 29], iG 21 true 31 (.bin .leq) [.t 25, .t 30], iG 18 false 32 .pick [.t 21, .t 31, .c (.bool false)], iP 33 .pick [.t 18, .c (.bool true), .t 32]])
 (.cond (.t 33)
 (.seq
 (.ops [ iP 4 .id [.c (.bool false)]])
 .ret)
 .skip)))
 (.ops [ iP 10 .id [.t 5], iP 11 (.bin .add) [.t 10, kI 1], iP 5 .id [.t 11]])))
def f_ref10_names_B : ICode :=
 (.seq
 (.ops [ iP 4 .id [.c (.bool false)]])
 (.seq
 (.seq
 (.ops [ iP 5 .id [kI 0]])
 (.block 0
 (.loop [2, 3, 4, 6, 7, 8, 9, 10, 11, 12, 13, 14, 15, 16, 17, 18, 19, 20, 21, 22, 23, 24, 25, 26, 27, 28, 29, 30, 31, 32, 33, 34, 35, 36, 37] [] f_ref10_names_L0)))
 (.seq
 (.ops [ iP 34 .id [.t 0], iP 35 .lenSlice [.t 34], iP 36 .id [.t 1], iP 37 (.bin .leq) [.t 35, .t 36], iP 4 .id [.t 37]])
 .ret)))
def f_ref10_names : IFn := ⟨38, 0, [.tmp 4], f_ref10_names_B⟩
def f__scope_names__has_B : ICode :=
 (.seq
 (.ops [ iP 4 .id [.c (.bool false)]])
 (.seq
 (.ops [ iP 5 .id [.t 0], iP 6 .id [.t 1], iP 7 (.call "slices.Contains[haberdash/scope.names,string]" []) [.t 5, .t 6], iP 4 .id [.t 7]])
 .ret))
def f__scope_names__has : IFn := ⟨8, 0, [.tmp 4], f__scope_names__has_B⟩
def f_ref10_has_L0 : ICode :=
 (.seq
 (.seq
 (.ops [ iP 6 .id [.t 5], iP 7 .id [.t 0], iP 8 .lenSlice [.t 7], iP 9 (.bin .lss) [.t 6, .t 8]])
 (.cond (.t 9)
 .skip
 (.exit 0)))
 (.seq
 (.block 1
 (.seq
 (.ops [ iP 12 .id [.t 0], iP 13 .id [.t 5], iP 14 (.indexAddr 1) [.t 12, .t 13], iP 15 (.load 1 false) [.t 14], iP 16 .id [.t 1], iP 17 (.bin .eql) [.t 15, .t 16]])
 (.cond (.t 17)
 (.seq
 (.ops [ iP 4 .id [.c (.bool true)]])
 .ret)
 .skip)))
 (.ops [ iP 10 .id [.t 5], iP 11 (.bin .add) [.t 10, kI 1], iP 5 .id [.t 11]])))
def f_ref10_has_H0 (t0 t1 t5 : AV) : List AV := [t0, t1, .dead, .dead, .dead, t5, .dead, .dead, .dead, .dead, .dead, .dead, .dead, .dead, .dead, .dead, .dead, .dead]
def f_ref10_has_B : ICode :=
 (.seq
 (.ops [ iP 4 .id [.c (.bool false)]])
 (.seq
 (.seq
 (.ops [ iP 5 .id [kI 0]])
 (.block 0
 (.loop [2, 3, 4, 6, 7, 8, 9, 10, 11, 12, 13, 14, 15, 16, 17] [] f_ref10_has_L0)))
 (.seq
 (.ops [ iP 4 .id [.c (.bool false)]])
 .ret)))
def f_ref10_has : IFn := ⟨18, 0, [.tmp 4], f_ref10_has_B⟩
def f_help_Plain_string__B : ICode :=
 (.seq
 (.ops [ iP 4 .id [.c (.bool false)]])
 (.seq
 (.ops [ iP 5 .id [.t 0], iP 6 .id [.t 1], iP 7 (.call "haberdash/haberdashhelp.Same[string]" []) [.t 5, .t 6, .f "haberdash/haberdashhelp.Plain[string]$1"], iP 4 .id [.t 7]])
 .ret))
def f_help_Plain_string_ : IFn := ⟨8, 0, [.tmp 4], f_help_Plain_string__B⟩
def f_play_some_L0 : ICode :=
 (.seq
 (.seq
 (.ops [ iP 17 .id [.t 11], iP 18 .id [.t 0], iP 19 .lenSlice [.t 18], iP 20 (.bin .lss) [.t 17, .t 19], iP 21 .id [.t 20], iG 21 true 22 .id [.t 11], iG 21 true 23 (.bin .lss) [.t 22, kI 4], iP 24 .pick [.t 21, .t 23, .c (.bool false)], iP 25 .id [.t 24], iG 25 true 26 .id [.t 9], iG 25 true 27 .lenSlice [.t 26], iG 25 true 28 .id [.t 1], iG 25 true 29 (.bin .lss) [.t 27, .t 28], iP 30 .pick [.t 25, .t 29, .c (.bool false)]])
 (.cond (.t 30)
 .skip
 (.exit 2)))
 (.seq
 (.block 3
 (.seq
 (.ops [ iP 33 .id [.t 0], iP 34 .id [.t 11], iP 35 (.indexAddr 1) [.t 33, .t 34], iP 36 (.load 1 false) [.t 35], iP 37 (.call "haberdash/haberdashplay.pick" []) [.t 36], iP 38 .id [.t 2], iP 39 (.call "haberdash/haberdashplay.Mod" []) [.t 37, .t 38], iP 40 .id [.t 10], iP 41 (.bin .eql) [.t 39, .t 40]])
 (.cond (.t 41)
 (.seq
 (.ops [ iP 42 .id [.t 9], iP 43 .id [.t 3], iP 44 .id [.t 10], iP 45 (.callV []) [.t 43, .t 44], iP 46 (.buildSlice 1 false 1 1 [(.string ⟨#[]⟩)] [(0, 1)]) [.t 45], iP 47 (.append 2 false 1 16) [.t 42, .t 46], iP 9 .id [.t 47]])
 (.exit 2))
 .skip)))
 (.ops [ iP 31 .id [.t 11], iP 32 (.bin .add) [.t 31, kI 1], iP 11 .id [.t 32]])))
def f_play_some_H0 (t0 t1 t2 t3 t9 t10 t11 : AV) : List AV := [t0, t1, t2, t3, .dead, .dead, .dead, .dead, .dead, t9, t10, t11, .dead, .dead, .dead, .dead, .dead, .dead, .dead, .dead, .dead, .dead, .dead, .dead, .dead, .dead, .dead, .dead, .dead, .dead, .dead, .dead, .dead, .dead, .dead, .dead, .dead, .dead, .dead, .dead, .dead, .dead, .dead, .dead, .dead, .dead, .dead, .dead, .dead]
def f_play_some_L1 : ICode :=
 (.seq
 (.seq
 (.ops [ iP 12 .id [.t 10], iP 13 .id [.t 2], iP 14 (.bin .lss) [.t 12, .t 13]])
 (.cond (.t 14)
 .skip
 (.exit 0)))
 (.seq
 (.block 1
 (.seq
 (.ops [ iP 11 .id [kI 0]])
 (.block 2
 (.loop [4, 5, 6, 7, 8, 12, 13, 14, 15, 16, 17, 18, 19, 20, 21, 22, 23, 24, 25, 26, 27, 28, 29, 30, 31, 32, 33, 34, 35, 36, 37, 38, 39, 40, 41, 42, 43, 44, 45, 46, 47, 48] [1, 2] f_play_some_L0))))
 (.ops [ iP 15 .id [.t 10], iP 16 (.bin .add) [.t 15, kI 1], iP 10 .id [.t 16]])))
def f_play_some_H1 (t0 t1 t2 t3 t9 t10 : AV) : List AV := [t0, t1, t2, t3, .dead, .dead, .dead, .dead, .dead, t9, t10, .dead, .dead, .dead, .dead, .dead, .dead, .dead, .dead, .dead, .dead, .dead, .dead, .dead, .dead, .dead, .dead, .dead, .dead, .dead, .dead, .dead, .dead, .dead, .dead, .dead, .dead, .dead, .dead, .dead, .dead, .dead, .dead, .dead, .dead, .dead, .dead, .dead, .dead]
def f_play_some_B : ICode :=
 (.seq
 (.ops [ iP 8 .id [.c (.slice none 0 0)]])
 (.seq
 (.ops [ iP 9 (.nilv 0 1) [.c (.slice none 0 0)]])
 (.seq
 (.seq
 (.ops [ iP 10 .id [kI 0]])
 (.block 0
 (.loop [4, 5, 6, 7, 8, 11, 12, 13, 14, 15, 16, 17, 18, 19, 20, 21, 22, 23, 24, 25, 26, 27, 28, 29, 30, 31, 32, 33, 34, 35, 36, 37, 38, 39, 40, 41, 42, 43, 44, 45, 46, 47, 48] [1, 2] f_play_some_L1)))
 (.seq
 (.ops [ iP 48 .id [.t 9], iP 8 .id [.t 48]])
 .ret))))
def f_play_some : IFn := ⟨49, 3, [.tmp 8], f_play_some_B⟩
def f_play_pick_L0 : ICode :=
 (.seq
 (.seq
 (.ops [ iP 7 .id [.t 4], iP 8 .id [.t 0], iP 9 .lenStr [.t 8], iP 10 (.bin .lss) [.t 7, .t 9], iP 11 .id [.t 10], iG 11 true 12 .id [.t 4], iG 11 true 13 (.bin .lss) [.t 12, kI 8], iP 14 .pick [.t 11, .t 13, .c (.bool false)]])
 (.cond (.t 14)
 .skip
 (.exit 0)))
 (.seq
 (.block 1
 (.ops [ iP 17 .id [.t 3], iP 18 (.bin .mul) [kI 7, .t 17], iP 19 .id [.t 0], iP 20 .id [.t 4], iP 21 .indexStr [.t 19, .t 20], iP 22 (.convInt .i64) [.t 21], iP 23 (.bin .add) [.t 18, .t 22], iP 3 .id [.t 23]]))
 (.ops [ iP 15 .id [.t 4], iP 16 (.bin .add) [.t 15, kI 1], iP 4 .id [.t 16]])))
def f_play_pick_H0 (t0 t3 t4 : AV) : List AV := [t0, .dead, .dead, t3, t4, .dead, .dead, .dead, .dead, .dead, .dead, .dead, .dead, .dead, .dead, .dead, .dead, .dead, .dead, .dead, .dead, .dead, .dead, .dead, .dead]
def f_play_pick_B : ICode :=
 (.seq
 (.ops [ iP 2 .id [kI 0]])
 (.seq
 (.ops [ iP 5 .id [.t 0], iP 6 .lenStr [.t 5], iP 3 .id [.t 6]])
 (.seq
 (.seq
 (.ops [ iP 4 .id [kI 0]])
 (.block 0
 (.loop [1, 2, 5, 6, 7, 8, 9, 10, 11, 12, 13, 14, 15, 16, 17, 18, 19, 20, 21, 22, 23, 24] [] f_play_pick_L0)))
 (.seq
 (.ops [ iP 24 .id [.t 3], iP 2 .id [.t 24]])
 .ret))))
def f_play_pick : IFn := ⟨25, 0, [.tmp 2], f_play_pick_B⟩
def f_play_Mod64_B : ICode :=
 (.seq
 (.ops [ iP 4 .id [kI 0]])
 (.seq
 (.ops [ iP 5 .id [.t 0], iP 6 (.convInt .u64) [.t 5], iP 7 .id [.t 1], iP 8 (.convInt .u64) [.t 7], iP 9 (.bin .rem) [.t 6, .t 8], iP 10 (.convInt .i64) [.t 9], iP 4 .id [.t 10]])
 .ret))
def f_play_Mod64 : IFn := ⟨11, 0, [.tmp 4], f_play_Mod64_B⟩
def f_help_Plain_int__B : ICode :=
 (.seq
 (.ops [ iP 4 .id [.c (.bool false)]])
 (.seq
 (.ops [ iP 5 .id [.t 0], iP 6 .id [.t 1], iP 7 (.call "haberdash/haberdashhelp.Same[int]" []) [.t 5, .t 6, .f "haberdash/haberdashhelp.Plain[int]$1"], iP 4 .id [.t 7]])
 .ret))
def f_help_Plain_int_ : IFn := ⟨8, 0, [.tmp 4], f_help_Plain_int__B⟩
def f_help_Same___int__L0 : ICode :=
 (.seq
 (.seq
 (.ops [ iP 13 .id [.t 7], iP 14 .id [.t 0], iP 15 .lenSlice [.t 14], iP 16 (.bin .lss) [.t 13, .t 15]])
 (.cond (.t 16)
 .skip
 (.exit 0)))
 (.seq
 (.block 1
 (.seq
 (.draw [ iP 19 .id [.t 2], iP 20 .id [.t 0], iP 21 .id [.t 7], iP 22 (.indexAddr 1) [.t 20, .t 21], iP 23 (.load 1 false) [.t 22], iP 24 .id [.t 1], iP 25 .id [.t 7], iP 26 (.indexAddr 1) [.t 24, .t 25], iP 27 (.load 1 false) [.t 26], iP 28 (.callV []) [.t 19, .t 23, .t 27], iP 29 (.un .not) [.t 28]])
 (.cond (.t 29)
 (.seq
 (.ops [ iP 6 .id [.c (.bool false)]])
 .ret)
 .skip)))
 (.ops [ iP 17 .id [.t 7], iP 18 (.bin .add) [.t 17, kI 1], iP 7 .id [.t 18]])))
def f_help_Same___int__B : ICode :=
 (.seq
 (.ops [ iP 6 .id [.c (.bool false)]])
 (.seq
 (.seq
 (.ops [ iP 8 .id [.t 0], iP 9 .lenSlice [.t 8], iP 10 .id [.t 1], iP 11 .lenSlice [.t 10], iP 12 (.bin .neq) [.t 9, .t 11]])
 (.cond (.t 12)
 (.seq
 (.ops [ iP 6 .id [.c (.bool false)]])
 .ret)
 .skip))
 (.seq
 (.seq
 (.ops [ iP 7 .id [kI 0]])
 (.block 0
 (.loop [3, 4, 5, 6, 8, 9, 10, 11, 12, 13, 14, 15, 16, 17, 18, 19, 20, 21, 22, 23, 24, 25, 26, 27, 28, 29] [] f_help_Same___int__L0)))
 (.seq
 (.ops [ iP 6 .id [.c (.bool true)]])
 .ret))))
def f_help_Same___int_ : IFn := ⟨30, 0, [.tmp 6], f_help_Same___int__B⟩
def f_goods_Rise_L0 : ICode :=
 (.seq
 (.ops [ iP 7 (.bin .lss) [.t 6, .t 5]])
 (.seq
 (.cond (.t 7)
 .skip
 (.exit 0))
 (.seq
 (.block 1
 (.seq
 (.ops [ iP 8 .id [.t 6], iP 3 .id [.t 8]])
 (.seq
 (.draw [ iP 9 .id [.t 3], iP 10 (.bin .gtr) [.t 9, kI 0], iP 11 .id [.t 10], iG 11 true 12 .id [.t 0], iG 11 true 13 .id [.t 3], iG 11 true 14 (.bin .sub) [.t 13, kI 1], iG 11 true 15 (.indexAddr 1) [.t 12, .t 14], iG 11 true 16 (.load 1 false) [.t 15], iG 11 true 17 .id [.t 0], iG 11 true 18 .id [.t 3], iG 11 true 19 (.indexAddr 1) [.t 17, .t 18], iG 11 true 20 (.load 1 false) [.t 19], iG 11 true 21 (.bin .geq) [.t 16, .t 20], iP 22 .pick [.t 11, .t 21, .c (.bool false)]])
 (.cond (.t 22)
 (.seq
 (.ops [ iP 2 .id [.c (.bool false)]])
 .ret)
 .skip))))
 (.ops [ iP 23 (.bin .add) [.t 6, kI 1], iP 6 .id [.t 23]]))))
def f_goods_Rise_H0 (t0 t5 t6 : AV) : List AV := [t0, .dead, .dead, .dead, .dead, t5, t6, .dead, .dead, .dead, .dead, .dead, .dead, .dead, .dead, .dead, .dead, .dead, .dead, .dead, .dead, .dead, .dead, .dead]
def f_goods_Rise_B : ICode :=
 (.seq
 (.ops [ iP 2 .id [.c (.bool false)]])
 (.seq
 (.seq
 (.ops [ iP 4 .id [.t 0], iP 5 .lenSlice [.t 4], iP 6 .id [kI 0]])
 (.block 0
 (.loop [1, 2, 3, 4, 7, 8, 9, 10, 11, 12, 13, 14, 15, 16, 17, 18, 19, 20, 21, 22, 23] [] f_goods_Rise_L0)))
 (.seq
 (.ops [ iP 2 .id [.c (.bool true)]])
 .ret)))
def f_goods_Rise : IFn := ⟨24, 0, [.tmp 2], f_goods_Rise_B⟩
def f__scope_names__right_1_B : ICode :=
 (.seq
 (.ops [ iP 2 .id [.c (.bool false)]])
 (.seq
 (.ops [ iP 3 .id [.t 0], iP 4 (.call "haberdash/goods.Name" []) [.t 3], iP 5 (.un .not) [.t 4], iP 2 .id [.t 5]])
 .ret))
def f__scope_names__right_1 : IFn := ⟨6, 0, [.tmp 2], f__scope_names__right_1_B⟩
def f_slices_ContainsFunc_scope_names_string__B : ICode :=
 (.seq
 (.ops [ iP 4 .id [.c (.bool false)]])
 (.seq
 (.ops [ iP 5 .id [.t 0], iP 6 .id [.t 1], iP 7 (.call "slices.IndexFunc[haberdash/scope.names,string]" []) [.t 5, .t 6], iP 8 (.bin .geq) [.t 7, kI 0], iP 4 .id [.t 8]])
 .ret))
def f_slices_ContainsFunc_scope_names_string_ : IFn := ⟨9, 0, [.tmp 4], f_slices_ContainsFunc_scope_names_string__B⟩
def f_ref10_Name_L0 : ICode :=
 (.seq
 (.seq
 (.ops [ iP 5 .id [.t 3], iP 6 .id [.t 0], iP 7 .lenStr [.t 6], iP 8 (.bin .lss) [.t 5, .t 7]])
 (.cond (.t 8)
 .skip
 (.exit 0)))
 (.seq
 (.block 1
 (.seq
 (.ops [ iP 11 .id [.t 0], iP 12 .id [.t 3], iP 13 .indexStr [.t 11, .t 12], iP 4 .id [.t 13]])
 (.seq
 (.ops [ iP 14 .id [.t 4], iP 15 (.bin .geq) [.t 14, .c (.int .u8 97)], iP 16 .id [.t 15], iG 16 true 17 .id [.t 4], iG 16 true 18 (.bin .leq) [.t 17, .c (.int .u8 122)], iP 19 .pick [.t 16, .t 18, .c (.bool false)], iP 20 .id [.t 19], iG 20 false 21 .id [.t 4], iG 20 false 22 (.bin .geq) [.t 21, .c (.int .u8 48)], iG 20 false 23 .id [.t 22], iG 23 true 24 .id [.t 4], iG 23 true 25 (.bin .leq) [.t 24, .c (.int .u8 57)], iG 20 false 26 .pick [.t 23, .t 25, .c (.bool false)], iP 27 .pick [.t 20, .c (.bool true), .t 26], iP 28 .id [.t 27], iG 28 false 29 .id [.t 4], iG 28 false 30 (.bin .eql) [.t 29, .c (.int .u8 45)], iP 31 .pick [.t 28, .c (.bool true), .t 30], iP 32 (.un .not) [.t 31]])
 (.cond (.t 32)
 (.seq
 (.ops [ iP 2 .id [.c (.bool false)]])
 .ret)
 .skip))))
 (.ops [ iP 9 .id [.t 3], iP 10 (.bin .add) [.t 9, kI 1], iP 3 .id [.t 10]])))
def f_ref10_Name_B : ICode :=
 (.seq
 (.ops [ iP 2 .id [.c (.bool false)]])
 (.seq
 (.seq
 (.ops [ iP 3 .id [kI 0]])
 (.block 0
 (.loop [1, 2, 4, 5, 6, 7, 8, 9, 10, 11, 12, 13, 14, 15, 16, 17, 18, 19, 20, 21, 22, 23, 24, 25, 26, 27, 28, 29, 30, 31, 32, 33, 34, 35, 36, 37, 38, 39, 40] [] f_ref10_Name_L0)))
 (.seq
 (.ops [ iP 33 .id [.t 0], iP 34 .lenStr [.t 33], iP 35 (.bin .geq) [.t 34, kI 1], iP 36 .id [.t 35], iG 36 true 37 .id [.t 0], iG 36 true 38 .lenStr [.t 37], iG 36 true 39 (.bin .leq) [.t 38, kI 12], iP 40 .pick [.t 36, .t 39, .c (.bool false)], iP 2 .id [.t 40]])
 .ret)))
def f_ref10_Name : IFn := ⟨41, 0, [.tmp 2], f_ref10_Name_B⟩
def f_slices_Contains_scope_names_string__B : ICode :=
 (.seq
 (.ops [ iP 4 .id [.c (.bool false)]])
 (.seq
 (.ops [ iP 5 .id [.t 0], iP 6 .id [.t 1], iP 7 (.call "slices.Index[haberdash/scope.names,string]" []) [.t 5, .t 6], iP 8 (.bin .geq) [.t 7, kI 0], iP 4 .id [.t 8]])
 .ret))
def f_slices_Contains_scope_names_string_ : IFn := ⟨9, 0, [.tmp 4], f_slices_Contains_scope_names_string__B⟩
def f_help_Plain_string__1_B : ICode :=
 (.seq
 (.ops [ iP 4 .id [.c (.bool false)]])
 (.seq
 (.ops [ iP 5 .id [.t 0], iP 6 .id [.t 1], iP 7 (.bin .eql) [.t 5, .t 6], iP 4 .id [.t 7]])
 .ret))
def f_help_Plain_string__1 : IFn := ⟨8, 0, [.tmp 4], f_help_Plain_string__1_B⟩
def f_help_Same_string__L0 : ICode :=
 (.seq
 (.seq
 (.ops [ iP 13 .id [.t 7], iP 14 .id [.t 0], iP 15 .lenSlice [.t 14], iP 16 (.bin .lss) [.t 13, .t 15]])
 (.cond (.t 16)
 .skip
 (.exit 0)))
 (.seq
 (.block 1
 (.seq
 (.draw [ iP 19 .id [.t 2], iP 20 .id [.t 0], iP 21 .id [.t 7], iP 22 (.indexAddr 1) [.t 20, .t 21], iP 23 (.load 1 false) [.t 22], iP 24 .id [.t 1], iP 25 .id [.t 7], iP 26 (.indexAddr 1) [.t 24, .t 25], iP 27 (.load 1 false) [.t 26], iP 28 (.callV []) [.t 19, .t 23, .t 27], iP 29 (.un .not) [.t 28]])
 (.cond (.t 29)
 (.seq
 (.ops [ iP 6 .id [.c (.bool false)]])
 .ret)
 .skip)))
 (.ops [ iP 17 .id [.t 7], iP 18 (.bin .add) [.t 17, kI 1], iP 7 .id [.t 18]])))
def f_help_Same_string__B : ICode :=
 (.seq
 (.ops [ iP 6 .id [.c (.bool false)]])
 (.seq
 (.seq
 (.ops [ iP 8 .id [.t 0], iP 9 .lenSlice [.t 8], iP 10 .id [.t 1], iP 11 .lenSlice [.t 10], iP 12 (.bin .neq) [.t 9, .t 11]])
 (.cond (.t 12)
 (.seq
 (.ops [ iP 6 .id [.c (.bool false)]])
 .ret)
 .skip))
 (.seq
 (.seq
 (.ops [ iP 7 .id [kI 0]])
 (.block 0
 (.loop [3, 4, 5, 6, 8, 9, 10, 11, 12, 13, 14, 15, 16, 17, 18, 19, 20, 21, 22, 23, 24, 25, 26, 27, 28, 29] [] f_help_Same_string__L0)))
 (.seq
 (.ops [ iP 6 .id [.c (.bool true)]])
 .ret))))
def f_help_Same_string_ : IFn := ⟨30, 0, [.tmp 6], f_help_Same_string__B⟩
def f_help_Plain_int__1_B : ICode :=
 (.seq
 (.ops [ iP 4 .id [.c (.bool false)]])
 (.seq
 (.ops [ iP 5 .id [.t 0], iP 6 .id [.t 1], iP 7 (.bin .eql) [.t 5, .t 6], iP 4 .id [.t 7]])
 .ret))
def f_help_Plain_int__1 : IFn := ⟨8, 0, [.tmp 4], f_help_Plain_int__1_B⟩
def f_help_Same_int__L0 : ICode :=
 (.seq
 (.seq
 (.ops [ iP 13 .id [.t 7], iP 14 .id [.t 0], iP 15 .lenSlice [.t 14], iP 16 (.bin .lss) [.t 13, .t 15]])
 (.cond (.t 16)
 .skip
 (.exit 0)))
 (.seq
 (.block 1
 (.seq
 (.draw [ iP 19 .id [.t 2], iP 20 .id [.t 0], iP 21 .id [.t 7], iP 22 (.indexAddr 1) [.t 20, .t 21], iP 23 (.load 1 false) [.t 22], iP 24 .id [.t 1], iP 25 .id [.t 7], iP 26 (.indexAddr 1) [.t 24, .t 25], iP 27 (.load 1 false) [.t 26], iP 28 (.callV []) [.t 19, .t 23, .t 27], iP 29 (.un .not) [.t 28]])
 (.cond (.t 29)
 (.seq
 (.ops [ iP 6 .id [.c (.bool false)]])
 .ret)
 .skip)))
 (.ops [ iP 17 .id [.t 7], iP 18 (.bin .add) [.t 17, kI 1], iP 7 .id [.t 18]])))
def f_help_Same_int__B : ICode :=
 (.seq
 (.ops [ iP 6 .id [.c (.bool false)]])
 (.seq
 (.seq
 (.ops [ iP 8 .id [.t 0], iP 9 .lenSlice [.t 8], iP 10 .id [.t 1], iP 11 .lenSlice [.t 10], iP 12 (.bin .neq) [.t 9, .t 11]])
 (.cond (.t 12)
 (.seq
 (.ops [ iP 6 .id [.c (.bool false)]])
 .ret)
 .skip))
 (.seq
 (.seq
 (.ops [ iP 7 .id [kI 0]])
 (.block 0
 (.loop [3, 4, 5, 6, 8, 9, 10, 11, 12, 13, 14, 15, 16, 17, 18, 19, 20, 21, 22, 23, 24, 25, 26, 27, 28, 29] [] f_help_Same_int__L0)))
 (.seq
 (.ops [ iP 6 .id [.c (.bool true)]])
 .ret))))
def f_help_Same_int_ : IFn := ⟨30, 0, [.tmp 6], f_help_Same_int__B⟩
def f_goods_Name_L0 : ICode :=
 (.seq
 (.ops [ iP 16 (.bin .lss) [.t 15, .t 14]])
 (.seq
 (.cond (.t 16)
 .skip
 (.exit 0))
 (.seq
 (.block 1
 (.seq
 (.ops [ iP 17 .id [.t 15], iP 3 .id [.t 17]])
 (.seq
 (.ops [ iP 18 .id [.t 0], iP 19 .id [.t 3], iP 20 .indexStr [.t 18, .t 19], iP 4 .id [.t 20]])
 (.seq
 (.ops [ iP 21 .id [.t 4], iP 22 (.bin .neq) [.t 21, .c (.int .u8 45)], iP 23 .id [.t 22], iG 23 true 24 .id [.t 4], iG 23 true 25 (.bin .lss) [.t 24, .c (.int .u8 48)], iG 23 true 26 .id [.t 25], iG 26 false 27 .id [.t 4], iG 26 false 28 (.bin .gtr) [.t 27, .c (.int .u8 57)], iG 23 true 29 .pick [.t 26, .c (.bool true), .t 28], iP 30 .pick [.t 23, .t 29, .c (.bool false)], iP 31 .id [.t 30], iG 31 true 32 .id [.t 4], iG 31 true 33 (.bin .lss) [.t 32, .c (.int .u8 97)], iG 31 true 34 .id [.t 33], iG 34 false 35 .id [.t 4], iG 34 false 36 (.bin .gtr) [.t 35, .c (.int .u8 122)], iG 31 true 37 .pick [.t 34, .c (.bool true), .t 36], iP 38 .pick [.t 31, .t 37, .c (.bool false)]])
 (.cond (.t 38)
 (.seq
 (.ops [ iP 2 .id [.c (.bool false)]])
 .ret)
 .skip)))))
 (.ops [ iP 39 (.bin .add) [.t 15, kI 1], iP 15 .id [.t 39]]))))
def f_goods_Name_H0 (t0 t14 t15 : AV) : List AV := [t0, .dead, .dead, .dead, .dead, .dead, .dead, .dead, .dead, .dead, .dead, .dead, .dead, .dead, t14, t15, .dead, .dead, .dead, .dead, .dead, .dead, .dead, .dead, .dead, .dead, .dead, .dead, .dead, .dead, .dead, .dead, .dead, .dead, .dead, .dead, .dead, .dead, .dead, .dead]
def f_goods_Name_B : ICode :=
 (.seq
 (.ops [ iP 2 .id [.c (.bool false)]])
 (.seq
 (.seq
 (.ops [ iP 5 .id [.t 0], iP 6 .lenStr [.t 5], iP 7 (.bin .lss) [.t 6, kI 1], iP 8 .id [.t 7], iG 8 false 9 .id [.t 0], iG 8 false 10 .lenStr [.t 9], iG 8 false 11 (.bin .gtr) [.t 10, kI 12], iP 12 .pick [.t 8, .c (.bool true), .t 11]])
 (.cond (.t 12)
 (.seq
 (.ops [ iP 2 .id [.c (.bool false)]])
 .ret)
 .skip))
 (.seq
 (.seq
 (.ops [ iP 13 .id [.t 0], iP 14 .lenStr [.t 13], iP 15 .id [kI 0]])
 (.block 0
 (.loop [1, 2, 3, 4, 5, 6, 7, 8, 9, 10, 11, 12, 13, 16, 17, 18, 19, 20, 21, 22, 23, 24, 25, 26, 27, 28, 29, 30, 31, 32, 33, 34, 35, 36, 37, 38, 39] [] f_goods_Name_L0)))
 (.seq
 (.ops [ iP 2 .id [.c (.bool true)]])
 .ret))))
def f_goods_Name : IFn := ⟨40, 0, [.tmp 2], f_goods_Name_B⟩
def f_slices_IndexFunc_scope_names_string__L0 : ICode :=
 (.seq
 (.ops [ iP 9 (.bin .lss) [.t 8, .t 7]])
 (.seq
 (.cond (.t 9)
 .skip
 (.exit 0))
 (.seq
 (.block 1
 (.seq
 (.ops [ iP 10 .id [.t 8], iP 5 .id [.t 10]])
 (.seq
 (.ops [ iP 11 .id [.t 1], iP 12 .id [.t 0], iP 13 .id [.t 5], iP 14 (.indexAddr 1) [.t 12, .t 13], iP 15 (.load 1 false) [.t 14], iP 16 (.callV []) [.t 11, .t 15]])
 (.cond (.t 16)
 (.seq
 (.ops [ iP 17 .id [.t 5], iP 4 .id [.t 17]])
 .ret)
 .skip))))
 (.ops [ iP 18 (.bin .add) [.t 8, kI 1], iP 8 .id [.t 18]]))))
def f_slices_IndexFunc_scope_names_string__H0 (t0 t1 t7 t8 : AV) : List AV := [t0, t1, .dead, .dead, .dead, .dead, .dead, t7, t8, .dead, .dead, .dead, .dead, .dead, .dead, .dead, .dead, .dead, .dead]
def f_slices_IndexFunc_scope_names_string__B : ICode :=
 (.seq
 (.ops [ iP 4 .id [kI 0]])
 (.seq
 (.seq
 (.ops [ iP 6 .id [.t 0], iP 7 .lenSlice [.t 6], iP 8 .id [kI 0]])
 (.block 0
 (.loop [2, 3, 4, 5, 6, 9, 10, 11, 12, 13, 14, 15, 16, 17, 18] [] f_slices_IndexFunc_scope_names_string__L0)))
 (.seq
 (.ops [ iP 4 .id [kI (-1)]])
 .ret)))
def f_slices_IndexFunc_scope_names_string_ : IFn := ⟨19, 0, [.tmp 4], f_slices_IndexFunc_scope_names_string__B⟩
def f_slices_Index_scope_names_string__L0 : ICode :=
 (.seq
 (.ops [ iP 9 (.bin .lss) [.t 8, .t 7]])
 (.seq
 (.cond (.t 9)
 .skip
 (.exit 0))
 (.seq
 (.block 1
 (.seq
 (.ops [ iP 10 .id [.t 8], iP 5 .id [.t 10]])
 (.seq
 (.ops [ iP 11 .id [.t 1], iP 12 .id [.t 0], iP 13 .id [.t 5], iP 14 (.indexAddr 1) [.t 12, .t 13], iP 15 (.load 1 false) [.t 14], iP 16 (.bin .eql) [.t 11, .t 15]])
 (.cond (.t 16)
 (.seq
 (.ops [ iP 17 .id [.t 5], iP 4 .id [.t 17]])
 .ret)
 .skip))))
 (.ops [ iP 18 (.bin .add) [.t 8, kI 1], iP 8 .id [.t 18]]))))
def f_slices_Index_scope_names_string__H0 (t0 t1 t7 t8 : AV) : List AV := [t0, t1, .dead, .dead, .dead, .dead, .dead, t7, t8, .dead, .dead, .dead, .dead, .dead, .dead, .dead, .dead, .dead, .dead]
def f_slices_Index_scope_names_string__B : ICode :=
 (.seq
 (.ops [ iP 4 .id [kI 0]])
 (.seq
 (.seq
 (.ops [ iP 6 .id [.t 0], iP 7 .lenSlice [.t 6], iP 8 .id [kI 0]])
 (.block 0
 (.loop [2, 3, 4, 5, 6, 9, 10, 11, 12, 13, 14, 15, 16, 17, 18] [] f_slices_Index_scope_names_string__L0)))
 (.seq
 (.ops [ iP 4 .id [kI (-1)]])
 .ret)))
def f_slices_Index_scope_names_string_ : IFn := ⟨19, 0, [.tmp 4], f_slices_Index_scope_names_string__B⟩
end Go.AM
namespace Go.AM
variable {prog : String → Option IFn}
def nameB (c : UInt8) : Bool := c.toNat == 45 || (decide (48 ≤ c.toNat) && decide (c.toNat ≤ 57)) || (decide (97 ≤ c.toNat) && decide (c.toNat ≤ 122))
def nameOK (s : List UInt8) : Bool := decide (1 ≤ s.length) && decide (s.length ≤ 12) && s.all nameB
theorem all_of {α : Type} {p : α → Bool} {xs : List α} (h : ∀ (j : Nat) x, xs[j]? = some x → p x = true) : xs.all p = true := by
  rw [List.all_eq_true]
  intro x hx
  obtain ⟨j, hj⟩ := List.mem_iff_getElem?.1 hx
  exact h j x hj
theorem all_bad {α : Type} {p : α → Bool} {xs : List α} {j : Nat} {x : α} (hx : xs[j]? = some x) (hp : p x = false) : xs.all p = false := by
  cases h : xs.all p with
  | false => rfl
  | true =>
    have := List.all_eq_true.1 h x (List.mem_of_getElem? hx)
    rw [hp] at this; cases this
theorem goodsName_spec (hf : prog "haberdash/goods.Name" = some f_goods_Name) {G} {s : List UInt8} :
    Ev prog (.call "haberdash/goods.Name" [.v (str s)] G) (.ret (.v (.bool (nameOK s))) G) := by
  refine call_of_fin hf ?_
  simp only [f_goods_Name_B, enter, List.length_cons, List.length_nil, List.replicate, Nat.reduceAdd, Nat.reduceSub, List.cons_append, List.nil_append]
  simp (disch := first | (simp only [DS, reduceCtorEq]; done) | omega) only [WS, St.guard, St.put, evalO, reduceCtorEq, reduceIte, Nat.reduceAdd, Nat.reduceEqDiff, lenStr_str]
  by_cases h1 : s.length < 1
  · have e : nameOK s = false := by unfold nameOK; rw [decide_eq_false (by omega)]; rfl
    simp (disch := first | (simp only [DS, reduceCtorEq]; done) | omega) only [WS, St.guard, St.put, evalO, reduceCtorEq, reduceIte, Nat.reduceAdd, Nat.reduceEqDiff, show ((s.length : Int) < 1) from by omega, decide_true, fin_tmp, leave_v, e]
    simp
  simp (disch := first | (simp only [DS, reduceCtorEq]; done) | omega) only [WS, St.guard, St.put, evalO, reduceCtorEq, reduceIte, Nat.reduceAdd, Nat.reduceEqDiff, show ¬ ((s.length : Int) < 1) from by omega, decide_false, lenStr_str]
  by_cases h2 : 12 < s.length
  · have e : nameOK s = false := by unfold nameOK; rw [decide_eq_false (p := s.length ≤ 12) (by omega), Bool.and_false]; rfl
    simp (disch := first | (simp only [DS, reduceCtorEq]; done) | omega) only [WS, St.guard, St.put, evalO, reduceCtorEq, reduceIte, Nat.reduceAdd, Nat.reduceEqDiff, show ((s.length : Int) > 12) from by omega, decide_true, fin_tmp, leave_v, e]
    simp
  simp (disch := first | (simp only [DS, reduceCtorEq]; done) | omega) only [WS, St.guard, St.put, evalO, reduceCtorEq, reduceIte, Nat.reduceAdd, Nat.reduceEqDiff, show ¬ ((s.length : Int) > 12) from by omega, decide_false, lenStr_str]
  have e : nameOK s = s.all nameB := by unfold nameOK; rw [decide_eq_true (by omega), decide_eq_true (by omega)]; rfl
  rw [e]
  refine WC_countP (fun i => ∀ (j : Nat) x, j < i → s[j]? = some x → nameB x = true) (fun i => ⟨f_goods_Name_H0 (.v (str s)) (.v (.int .i64 s.length)) (.v (.int .i64 (i : Nat))), ⟨G, []⟩⟩) s.length ?_ (fun j x h => by omega) (fun i hi hp => ?_) (fun hp => ?_)
  · simp only [clear_nil, List.foldl_cons, List.foldl_nil, Option.some.injEq, LS, reduceCtorEq, reduceIte, Nat.reduceAdd]; rfl
  · have hlt' : (i : Int) < (s.length : Int) := by omega
    have hx : s[i]? = some s[i] := List.getElem?_eq_getElem hi
    have hb : ∀ h : Hp, prim h .indexStr [.v (str s), .v (.int .i64 (i : Int))] = some (.v (.int .u8 (s[i].toNat : Int)), h) := fun h => by
      rw [indexStr_str hi, List.getD_eq_getElem?_getD, hx]; rfl
    simp (disch := first | (simp only [DS, reduceCtorEq]; done) | omega) only [f_goods_Name_L0, f_goods_Name_H0, WS, St.guard, St.put, evalO, reduceCtorEq, reduceIte, Nat.reduceAdd, Nat.reduceEqDiff, hlt', decide_true, hb]
    have hbad : nameB s[i] = false → s.all nameB = false := all_bad hx
    have hgood : nameB s[i] = true → ∀ (j : Nat) x, j < i + 1 → s[j]? = some x → nameB x = true := fun h j x hj hjx => by
      by_cases hji : j < i
      · exact hp j x hji hjx
      · obtain rfl : j = i := by omega
        rw [hx] at hjx; cases hjx; exact h
    have hN : nameB s[i] = (s[i].toNat == 45 || (decide (48 ≤ s[i].toNat) && decide (s[i].toNat ≤ 57)) || (decide (97 ≤ s[i].toNat) && decide (s[i].toNat ≤ 122))) := rfl
    generalize s[i].toNat = n at *
    by_cases c1 : n = 45
    · have f1 : ((n : Int) != 45) = false := by rw [bne_eq_false_iff_eq]; omega
      simp (disch := first | (simp only [DS, reduceCtorEq]; done) | omega) only [WS, St.guard, St.put, evalO, reduceCtorEq, reduceIte, Nat.reduceAdd, Nat.reduceEqDiff, f1, vBin_add_i64, clear_nil, List.foldl_cons, List.foldl_nil, Option.some.injEq]
      exact ⟨rfl, hgood (by rw [hN, c1]; rfl)⟩
    have f1 : ((n : Int) != 45) = true := by rw [bne_iff_ne]; omega
    by_cases c2 : 48 ≤ n ∧ n ≤ 57
    · simp (disch := first | (simp only [DS, reduceCtorEq]; done) | omega) only [WS, St.guard, St.put, evalO, reduceCtorEq, reduceIte, Nat.reduceAdd, Nat.reduceEqDiff, f1, show ¬ ((n : Int) < 48) from by omega, show ¬ ((n : Int) > 57) from by omega, decide_false, vBin_add_i64, clear_nil, List.foldl_cons, List.foldl_nil, Option.some.injEq]
      exact ⟨rfl, hgood (by rw [hN]; simp; omega)⟩
    by_cases c3 : 97 ≤ n ∧ n ≤ 122
    · simp (disch := first | (simp only [DS, reduceCtorEq]; done) | omega) only [WS, St.guard, St.put, evalO, reduceCtorEq, reduceIte, Nat.reduceAdd, Nat.reduceEqDiff, f1, show ¬ ((n : Int) < 48) from by omega, show (n : Int) > 57 from by omega, show ¬ ((n : Int) < 97) from by omega, show ¬ ((n : Int) > 122) from by omega, decide_false, decide_true, vBin_add_i64, clear_nil, List.foldl_cons, List.foldl_nil, Option.some.injEq]
      exact ⟨rfl, hgood (by rw [hN]; simp; omega)⟩
    have hb := hbad (by rw [hN]; simp; omega)
    by_cases c4 : n < 48
    · simp (disch := first | (simp only [DS, reduceCtorEq]; done) | omega) only [WS, St.guard, St.put, evalO, reduceCtorEq, reduceIte, Nat.reduceAdd, Nat.reduceEqDiff, f1, show (n : Int) < 48 from by omega, show (n : Int) < 97 from by omega, decide_true, fin_tmp, leave_v, hb]
      simp
    by_cases c5 : n < 97
    · simp (disch := first | (simp only [DS, reduceCtorEq]; done) | omega) only [WS, St.guard, St.put, evalO, reduceCtorEq, reduceIte, Nat.reduceAdd, Nat.reduceEqDiff, f1, show ¬ ((n : Int) < 48) from by omega, show (n : Int) > 57 from by omega, show (n : Int) < 97 from by omega, decide_false, decide_true, fin_tmp, leave_v, hb]
      simp
    · simp (disch := first | (simp only [DS, reduceCtorEq]; done) | omega) only [WS, St.guard, St.put, evalO, reduceCtorEq, reduceIte, Nat.reduceAdd, Nat.reduceEqDiff, f1, show ¬ ((n : Int) < 48) from by omega, show (n : Int) > 57 from by omega, show ¬ ((n : Int) < 97) from by omega, show (n : Int) > 122 from by omega, decide_false, decide_true, fin_tmp, leave_v, hb]
      simp
  · simp (disch := first | (simp only [DS, reduceCtorEq]; done) | omega) only [f_goods_Name_L0, f_goods_Name_H0, WS, St.guard, St.put, evalO, reduceCtorEq, reduceIte, Nat.reduceAdd, Nat.reduceEqDiff, decide_false, fin_tmp, leave_v]
    rw [all_of fun j x hx => hp j x (lt_of_get hx) hx]
    simp
end Go.AM
namespace Go.AM
variable {prog : String → Option IFn}
abbrev Txt := List UInt8
def sEnc : Enc Txt := ⟨fun s => [.v (str s)], 1, false, fun _ => rfl, by omega, .inr rfl, fun _ => rfl, fun _ s => ⟨.v (str s), rfl, rfl⟩⟩
theorem sEnc_av (s : Txt) : sEnc.av s = .v (str s) := rfl
def rise : List Txt → Bool
  | a :: b :: r => Op.bytesLess a b && rise (b :: r)
  | _ => true
theorem rise_of : ∀ {xs : List Txt}, (∀ (i : Nat) a b, xs[i]? = some a → xs[i + 1]? = some b → Op.bytesLess a b = true) → rise xs = true
  | [], _ => rfl
  | [_], _ => rfl
  | a :: b :: r, h => by
    rw [rise, h 0 a b rfl rfl, Bool.true_and]
    exact rise_of fun i x y h1 h2 => h (i + 1) x y (by simpa using h1) (by simpa using h2)
theorem rise_at : ∀ {xs : List Txt} {i : Nat} {a b}, rise xs = true → xs[i]? = some a → xs[i + 1]? = some b → Op.bytesLess a b = true
  | [], i, a, b, _, h, _ => by simp at h
  | [_], i, a, b, _, _, h => by simp at h
  | x :: y :: r, 0, a, b, h, h1, h2 => by
    simp only [rise, Bool.and_eq_true] at h
    simp at h1 h2; subst h1; subst h2; exact h.1
  | x :: y :: r, i + 1, a, b, h, h1, h2 => by
    simp only [rise, Bool.and_eq_true] at h
    exact rise_at (i := i) h.2 (by simpa using h1) (by simpa using h2)
theorem rise_bad {xs : List Txt} {i : Nat} {a b} (h1 : xs[i]? = some a) (h2 : xs[i + 1]? = some b) (h : Op.bytesLess a b = false) : rise xs = false := by
  cases hr : rise xs with
  | false => rfl
  | true => have := rise_at hr h1 h2; rw [h] at this; cases this
theorem Rise_spec (hf : prog "haberdash/goods.Rise" = some f_goods_Rise) {G a} {xs : List Txt} (v : ∀ L, TView sEnc ⟨G, L⟩ a xs) (hl : xs.length ≤ maxLen) :
    Ev prog (.call "haberdash/goods.Rise" [a] G) (.ret (.v (.bool (rise xs))) G) := by
  have hml : xs.length ≤ 9223372036854775807 := hl
  refine call_of_fin hf ?_
  simp only [f_goods_Rise_B, enter, List.length_cons, List.length_nil, List.replicate, Nat.reduceAdd, Nat.reduceSub, List.cons_append, List.nil_append]
  simp (disch := first | (simp only [DS, reduceCtorEq]; done) | omega) only [WS, St.guard, St.put, evalO, reduceCtorEq, reduceIte, Nat.reduceAdd, Nat.reduceEqDiff, (v _).lenSlice]
  refine WC_countP (fun i => ∀ (j : Nat) x y, j + 1 < i → xs[j]? = some x → xs[j + 1]? = some y → Op.bytesLess x y = true) (fun i => ⟨f_goods_Rise_H0 a (.v (.int .i64 xs.length)) (.v (.int .i64 (i : Nat))), ⟨G, []⟩⟩) xs.length ?_ (fun j x y h => by omega) (fun i hi hp => ?_) (fun hp => ?_)
  · simp only [clear_nil, List.foldl_cons, List.foldl_nil, Option.some.injEq, LS, reduceCtorEq, reduceIte, Nat.reduceAdd]; rfl
  · have hlt' : (i : Int) < (xs.length : Int) := by omega
    have hx : xs[i]? = some xs[i] := List.getElem?_eq_getElem hi
    have vi := (v []).index (k := .i64) hi
    have vl := (v []).load hx
    simp only [show sEnc.esz = 1 from rfl, show sEnc.agg = false from rfl, sEnc_av] at vi vl
    simp (disch := first | (simp only [DS, reduceCtorEq]; done) | omega) only [f_goods_Rise_L0, f_goods_Rise_H0, WS, St.guard, St.put, evalO, reduceCtorEq, reduceIte, Nat.reduceAdd, Nat.reduceEqDiff, hlt', decide_true]
    cases i with
    | zero =>
      simp (disch := first | (simp only [DS, reduceCtorEq]; done) | omega) only [WS, St.guard, St.put, evalO, reduceCtorEq, reduceIte, Nat.reduceAdd, Nat.reduceEqDiff, show ¬ (((0 : Nat) : Int) > 0) from by omega, decide_false, vBin_add_i64, clear_nil, List.foldl_cons, List.foldl_nil, Option.some.injEq]
      exact ⟨rfl, fun j x y h => by omega⟩
    | succ k =>
      have hk : k < xs.length := by omega
      have hx0 : xs[k]? = some xs[k] := List.getElem?_eq_getElem hk
      have vi0 := (v []).index (k := .i64) hk
      have vl0 := (v []).load hx0
      simp only [show sEnc.esz = 1 from rfl, show sEnc.agg = false from rfl, sEnc_av] at vi0 vl0
      have e1 : ((k + 1 : Nat) : Int) - 1 = (k : Int) := by omega
      simp (disch := first | (simp only [DS, reduceCtorEq]; done) | omega) only [WS, St.guard, St.put, evalO, reduceCtorEq, reduceIte, Nat.reduceAdd, Nat.reduceEqDiff, show (((k + 1 : Nat) : Int) > 0) from by omega, decide_true, vBin_sub_i64, e1, vi0, vl0, vi, vl, vBin_geq_str]
      cases hless : Op.bytesLess xs[k] xs[k + 1]
      · simp (disch := first | (simp only [DS, reduceCtorEq]; done) | omega) only [WS, St.guard, St.put, evalO, reduceCtorEq, reduceIte, Nat.reduceAdd, Nat.reduceEqDiff, fin_tmp, leave_v, rise_bad hx0 hx hless]
        simp
      · simp (disch := first | (simp only [DS, reduceCtorEq]; done) | omega) only [WS, St.guard, St.put, evalO, reduceCtorEq, reduceIte, Nat.reduceAdd, Nat.reduceEqDiff, vBin_add_i64, clear_nil, List.foldl_cons, List.foldl_nil, Option.some.injEq]
        refine ⟨rfl, fun j x y hj h1 h2 => ?_⟩
        by_cases hjk : j + 1 < k + 1
        · exact hp j x y hjk h1 h2
        · obtain rfl : j = k := by omega
          rw [hx0] at h1; rw [hx] at h2; cases h1; cases h2; exact hless
  · simp (disch := first | (simp only [DS, reduceCtorEq]; done) | omega) only [f_goods_Rise_L0, f_goods_Rise_H0, WS, St.guard, St.put, evalO, reduceCtorEq, reduceIte, Nat.reduceAdd, Nat.reduceEqDiff, decide_false, fin_tmp, leave_v]
    rw [rise_of fun i x y h1 h2 => hp i x y (lt_of_get h2) h1 h2]
    simp
end Go.AM
namespace Go.AM
variable {prog : String → Option IFn}
theorem sView_at {G L a} {xs : List Txt} (v : TView sEnc ⟨G, L⟩ a xs) {i : Nat} (hi : i < xs.length) :
    prim ⟨G, L⟩ (.indexAddr 1) [a, .v (.int .i64 (i : Int))] = some (elemPtr a 1 i, ⟨G, L⟩) ∧ prim ⟨G, L⟩ (.load 1 false) [elemPtr a 1 i] = some (.v (str xs[i]), ⟨G, L⟩) :=
  ⟨v.index hi, v.load (List.getElem?_eq_getElem hi)⟩
theorem mem_of_at {xs : List Txt} {i : Nat} {x : Txt} (h : xs[i]? = some x) : x ∈ xs := List.mem_of_getElem? h
theorem not_mem_of {xs : List Txt} {x : Txt} (h : ∀ (j : Nat) y, xs[j]? = some y → y ≠ x) : x ∉ xs := fun hx => by
  obtain ⟨j, hj⟩ := List.mem_iff_getElem?.1 hx
  exact h j x hj rfl
theorem Index_spec (hf : prog "slices.Index[haberdash/scope.names,string]" = some f_slices_Index_scope_names_string_) {G a} {xs : List Txt} {x : Txt} (v : ∀ L, TView sEnc ⟨G, L⟩ a xs) (hl : xs.length ≤ maxLen) :
    ∃ n : Int, Ev prog (.call "slices.Index[haberdash/scope.names,string]" [a, .v (str x)] G) (.ret (.v (.int .i64 n)) G) ∧ decide (n ≥ 0) = decide (x ∈ xs) := by
  have hml : xs.length ≤ 9223372036854775807 := hl
  obtain ⟨r, G2, he, n, rfl, rfl, hr⟩ := call_ex (prog := prog) (P := fun r G2 => ∃ n : Int, r = .v (.int .i64 n) ∧ G2 = G ∧ decide (n ≥ 0) = decide (x ∈ xs)) hf (args := [a, .v (str x)]) (G := G) (by
    simp only [f_slices_Index_scope_names_string__B, enter, List.length_cons, List.length_nil, List.replicate, Nat.reduceAdd, Nat.reduceSub, List.cons_append, List.nil_append]
    simp (disch := first | (simp only [DS, reduceCtorEq]; done) | omega) only [WS, St.guard, St.put, evalO, reduceCtorEq, reduceIte, Nat.reduceAdd, Nat.reduceEqDiff, (v _).lenSlice]
    refine WC_countP (fun i => ∀ (j : Nat) y, j < i → xs[j]? = some y → y ≠ x) (fun i => ⟨f_slices_Index_scope_names_string__H0 a (.v (str x)) (.v (.int .i64 xs.length)) (.v (.int .i64 (i : Nat))), ⟨G, []⟩⟩) xs.length ?_ (fun j y h => by omega) (fun i hi hp => ?_) (fun hp => ?_)
    · simp only [clear_nil, List.foldl_cons, List.foldl_nil, Option.some.injEq, LS, reduceCtorEq, reduceIte, Nat.reduceAdd]; rfl
    · have hlt' : (i : Int) < (xs.length : Int) := by omega
      have hx : xs[i]? = some xs[i] := List.getElem?_eq_getElem hi
      have vi := (sView_at (v []) hi).1
      have vl := (sView_at (v []) hi).2
      simp (disch := first | (simp only [DS, reduceCtorEq]; done) | omega) only [f_slices_Index_scope_names_string__L0, f_slices_Index_scope_names_string__H0, WS, St.guard, St.put, evalO, reduceCtorEq, reduceIte, Nat.reduceAdd, Nat.reduceEqDiff, hlt', decide_true, vi, vl, vBin_eql_str]
      by_cases hc : x = xs[i]
      · simp (disch := first | (simp only [DS, reduceCtorEq]; done) | omega) only [WS, St.guard, St.put, evalO, reduceCtorEq, reduceIte, Nat.reduceAdd, Nat.reduceEqDiff, decide_eq_true hc, fin_tmp, leave_v]
        refine ⟨by simp, _, _, rfl, i, rfl, rfl, ?_⟩
        have : x ∈ xs := by rw [hc]; exact mem_of_at hx
        rw [decide_eq_true this, decide_eq_true (by omega)]
      · simp (disch := first | (simp only [DS, reduceCtorEq]; done) | omega) only [WS, St.guard, St.put, evalO, reduceCtorEq, reduceIte, Nat.reduceAdd, Nat.reduceEqDiff, decide_eq_false hc, vBin_add_i64, clear_nil, List.foldl_cons, List.foldl_nil, Option.some.injEq]
        refine ⟨rfl, fun j y hj h1 => ?_⟩
        by_cases hji : j < i
        · exact hp j y hji h1
        · obtain rfl : j = i := by omega
          rw [hx] at h1; cases h1; exact fun h => hc h.symm
    · simp (disch := first | (simp only [DS, reduceCtorEq]; done) | omega) only [f_slices_Index_scope_names_string__L0, f_slices_Index_scope_names_string__H0, WS, St.guard, St.put, evalO, reduceCtorEq, reduceIte, Nat.reduceAdd, Nat.reduceEqDiff, decide_false, fin_tmp, leave_v]
      refine ⟨by simp, _, _, rfl, -1, rfl, rfl, ?_⟩
      have : x ∉ xs := not_mem_of fun j y h => hp j y (lt_of_get h) h
      rw [decide_eq_false this]; rfl)
  exact ⟨n, he, hr⟩
theorem IndexFunc_spec (hf : prog "slices.IndexFunc[haberdash/scope.names,string]" = some f_slices_IndexFunc_scope_names_string_) {G a fv} {xs : List Txt} (p : Txt → Bool) (v : ∀ L, TView sEnc ⟨G, L⟩ a xs) (hl : xs.length ≤ maxLen)
    (hc : ∀ (i : Nat) x, xs[i]? = some x → Ev prog (.op (.callV []) [fv, .v (str x)] ⟨G, []⟩) (.val (.v (.bool (p x))) ⟨G, []⟩)) :
    ∃ n : Int, Ev prog (.call "slices.IndexFunc[haberdash/scope.names,string]" [a, fv] G) (.ret (.v (.int .i64 n)) G) ∧ decide (n ≥ 0) = xs.any p := by
  have hml : xs.length ≤ 9223372036854775807 := hl
  obtain ⟨r, G2, he, n, rfl, rfl, hr⟩ := call_ex (prog := prog) (P := fun r G2 => ∃ n : Int, r = .v (.int .i64 n) ∧ G2 = G ∧ decide (n ≥ 0) = xs.any p) hf (args := [a, fv]) (G := G) (by
    simp only [f_slices_IndexFunc_scope_names_string__B, enter, List.length_cons, List.length_nil, List.replicate, Nat.reduceAdd, Nat.reduceSub, List.cons_append, List.nil_append]
    simp (disch := first | (simp only [DS, reduceCtorEq]; done) | omega) only [WS, St.guard, St.put, evalO, reduceCtorEq, reduceIte, Nat.reduceAdd, Nat.reduceEqDiff, (v _).lenSlice]
    refine WC_countP (fun i => ∀ (j : Nat) y, j < i → xs[j]? = some y → p y = false) (fun i => ⟨f_slices_IndexFunc_scope_names_string__H0 a fv (.v (.int .i64 xs.length)) (.v (.int .i64 (i : Nat))), ⟨G, []⟩⟩) xs.length ?_ (fun j y h => by omega) (fun i hi hp => ?_) (fun hp => ?_)
    · simp only [clear_nil, List.foldl_cons, List.foldl_nil, Option.some.injEq, LS, reduceCtorEq, reduceIte, Nat.reduceAdd]; rfl
    · have hlt' : (i : Int) < (xs.length : Int) := by omega
      have hx : xs[i]? = some xs[i] := List.getElem?_eq_getElem hi
      have vi := (sView_at (v []) hi).1
      have vl := (sView_at (v []) hi).2
      simp (disch := first | (simp only [DS, reduceCtorEq]; done) | omega) only [f_slices_IndexFunc_scope_names_string__L0, f_slices_IndexFunc_scope_names_string__H0, WS, St.guard, St.put, evalO, reduceCtorEq, reduceIte, Nat.reduceAdd, Nat.reduceEqDiff, hlt', decide_true, vi, vl]
      refine ⟨_, _, hc i _ hx, ?_⟩
      cases hpx : p xs[i]
      · simp (disch := first | (simp only [DS, reduceCtorEq]; done) | omega) only [WS, St.guard, St.put, evalO, reduceCtorEq, reduceIte, Nat.reduceAdd, Nat.reduceEqDiff, vBin_add_i64, clear_nil, List.foldl_cons, List.foldl_nil, Option.some.injEq]
        refine ⟨rfl, fun j y hj h1 => ?_⟩
        by_cases hji : j < i
        · exact hp j y hji h1
        · obtain rfl : j = i := by omega
          rw [hx] at h1; cases h1; exact hpx
      · simp (disch := first | (simp only [DS, reduceCtorEq]; done) | omega) only [WS, St.guard, St.put, evalO, reduceCtorEq, reduceIte, Nat.reduceAdd, Nat.reduceEqDiff, fin_tmp, leave_v]
        refine ⟨by simp, _, _, rfl, i, rfl, rfl, ?_⟩
        rw [decide_eq_true (by omega)]
        exact (List.any_eq_true.2 ⟨_, mem_of_at hx, hpx⟩).symm
    · simp (disch := first | (simp only [DS, reduceCtorEq]; done) | omega) only [f_slices_IndexFunc_scope_names_string__L0, f_slices_IndexFunc_scope_names_string__H0, WS, St.guard, St.put, evalO, reduceCtorEq, reduceIte, Nat.reduceAdd, Nat.reduceEqDiff, decide_false, fin_tmp, leave_v]
      refine ⟨by simp, _, _, rfl, -1, rfl, rfl, ?_⟩
      have : xs.any p = false := by
        rw [List.any_eq_false]
        intro x hx
        obtain ⟨j, hj⟩ := List.mem_iff_getElem?.1 hx
        rw [hp j x (lt_of_get hj) hj]; simp
      rw [this]; rfl)
  exact ⟨n, he, hr⟩
theorem refhas_spec (hf : prog "haberdash/haberdashref10.has" = some f_ref10_has) {G a} {xs : List Txt} {x : Txt} (v : ∀ L, TView sEnc ⟨G, L⟩ a xs) (hl : xs.length ≤ maxLen) :
    Ev prog (.call "haberdash/haberdashref10.has" [a, .v (str x)] G) (.ret (.v (.bool (decide (x ∈ xs)))) G) := by
  have hml : xs.length ≤ 9223372036854775807 := hl
  refine call_of_fin hf ?_
  simp only [f_ref10_has_B, enter, List.length_cons, List.length_nil, List.replicate, Nat.reduceAdd, Nat.reduceSub, List.cons_append, List.nil_append]
  simp (disch := first | (simp only [DS, reduceCtorEq]; done) | omega) only [WS, St.guard, St.put, evalO, reduceCtorEq, reduceIte, Nat.reduceAdd, Nat.reduceEqDiff]
  refine WC_countP (fun i => ∀ (j : Nat) y, j < i → xs[j]? = some y → y ≠ x) (fun i => ⟨f_ref10_has_H0 a (.v (str x)) (.v (.int .i64 (i : Nat))), ⟨G, []⟩⟩) xs.length ?_ (fun j y h => by omega) (fun i hi hp => ?_) (fun hp => ?_)
  · simp only [clear_nil, List.foldl_cons, List.foldl_nil, Option.some.injEq, LS, reduceCtorEq, reduceIte, Nat.reduceAdd]; rfl
  · have hlt' : (i : Int) < (xs.length : Int) := by omega
    have hx : xs[i]? = some xs[i] := List.getElem?_eq_getElem hi
    have vi := (sView_at (v []) hi).1
    have vl := (sView_at (v []) hi).2
    simp (disch := first | (simp only [DS, reduceCtorEq]; done) | omega) only [f_ref10_has_L0, f_ref10_has_H0, WS, St.guard, St.put, evalO, reduceCtorEq, reduceIte, Nat.reduceAdd, Nat.reduceEqDiff, (v _).lenSlice, hlt', decide_true, vi, vl, vBin_eql_str]
    by_cases hc : xs[i] = x
    · have : x ∈ xs := by rw [← hc]; exact mem_of_at hx
      simp (disch := first | (simp only [DS, reduceCtorEq]; done) | omega) only [WS, St.guard, St.put, evalO, reduceCtorEq, reduceIte, Nat.reduceAdd, Nat.reduceEqDiff, decide_eq_true hc, fin_tmp, leave_v, decide_eq_true this]
      simp
    · simp (disch := first | (simp only [DS, reduceCtorEq]; done) | omega) only [WS, St.guard, St.put, evalO, reduceCtorEq, reduceIte, Nat.reduceAdd, Nat.reduceEqDiff, decide_eq_false hc, vBin_add_i64, clear_nil, List.foldl_cons, List.foldl_nil, Option.some.injEq]
      refine ⟨rfl, fun j y hj h1 => ?_⟩
      by_cases hji : j < i
      · exact hp j y hji h1
      · obtain rfl : j = i := by omega
        rw [hx] at h1; cases h1; exact hc
  · have : x ∉ xs := not_mem_of fun j y h => hp j y (lt_of_get h) h
    simp (disch := first | (simp only [DS, reduceCtorEq]; done) | omega) only [f_ref10_has_L0, f_ref10_has_H0, WS, St.guard, St.put, evalO, reduceCtorEq, reduceIte, Nat.reduceAdd, Nat.reduceEqDiff, (v _).lenSlice, decide_false, fin_tmp, leave_v, decide_eq_false this]
    simp
end Go.AM
namespace Go.AM
variable {prog : String → Option IFn}
structure ScopeLib (prog : String → Option IFn) : Prop where
  name : prog "haberdash/goods.Name" = some f_goods_Name
  rname : prog "haberdash/haberdashref10.Name" = some f_ref10_Name
  riseF : prog "haberdash/goods.Rise" = some f_goods_Rise
  idx : prog "slices.Index[haberdash/scope.names,string]" = some f_slices_Index_scope_names_string_
  idxF : prog "slices.IndexFunc[haberdash/scope.names,string]" = some f_slices_IndexFunc_scope_names_string_
  cont : prog "slices.Contains[haberdash/scope.names,string]" = some f_slices_Contains_scope_names_string_
  contF : prog "slices.ContainsFunc[haberdash/scope.names,string]" = some f_slices_ContainsFunc_scope_names_string_
  nright : prog "(haberdash/scope.names).right" = some f__scope_names__right
  nright1 : prog "(haberdash/scope.names).right$1" = some f__scope_names__right_1
  nhas : prog "(haberdash/scope.names).has" = some f__scope_names__has
  right : prog "haberdash/scope.Right" = some f_scope_Right
  has : prog "haberdash/scope.Has" = some f_scope_Has
  rnames : prog "haberdash/haberdashref10.names" = some f_ref10_names
  rhas : prog "haberdash/haberdashref10.has" = some f_ref10_has
  rscope : prog "haberdash/haberdashref10.Scope" = some f_ref10_Scope
  rHas : prog "haberdash/haberdashref10.Has" = some f_ref10_Has
theorem nhas_spec (H : ScopeLib prog) {G a} {xs : List Txt} {x : Txt} (v : ∀ L, TView sEnc ⟨G, L⟩ a xs) (hl : xs.length ≤ maxLen) :
    Ev prog (.call "(haberdash/scope.names).has" [a, .v (str x)] G) (.ret (.v (.bool (decide (x ∈ xs)))) G) := by
  refine call_of_fin H.nhas ?_
  simp only [f__scope_names__has_B, enter, List.length_cons, List.length_nil, List.replicate, Nat.reduceAdd, Nat.reduceSub, List.cons_append, List.nil_append]
  simp (disch := first | (simp only [DS, reduceCtorEq]; done) | omega) only [WS, St.guard, St.put, evalO, reduceCtorEq, reduceIte, Nat.reduceAdd, Nat.reduceEqDiff]
  have hc : ∀ {G a} , (∀ L, TView sEnc ⟨G, L⟩ a xs) → Ev prog (.call "slices.Contains[haberdash/scope.names,string]" [a, .v (str x)] G) (.ret (.v (.bool (decide (x ∈ xs)))) G) := fun {G a} v => by
    refine call_of_fin H.cont ?_
    simp only [f_slices_Contains_scope_names_string__B, enter, List.length_cons, List.length_nil, List.replicate, Nat.reduceAdd, Nat.reduceSub, List.cons_append, List.nil_append]
    simp (disch := first | (simp only [DS, reduceCtorEq]; done) | omega) only [WS, St.guard, St.put, evalO, reduceCtorEq, reduceIte, Nat.reduceAdd, Nat.reduceEqDiff]
    obtain ⟨n, he, hn⟩ := Index_spec (prog := prog) H.idx (x := x) ((v []).into) hl
    rw [WP_p (x := .int .i64 n) (by exact he) (by exact trivial)]
    simp (disch := first | (simp only [DS, reduceCtorEq]; done) | omega) only [WS, St.guard, St.put, evalO, reduceCtorEq, reduceIte, Nat.reduceAdd, Nat.reduceEqDiff, hn, fin_tmp, leave_v]
    simp
  rw [WP_p (x := .bool (decide (x ∈ xs))) (by exact hc ((v []).into)) (by exact trivial)]
  simp (disch := first | (simp only [DS, reduceCtorEq]; done) | omega) only [WS, St.guard, St.put, evalO, reduceCtorEq, reduceIte, Nat.reduceAdd, Nat.reduceEqDiff, fin_tmp, leave_v]
  simp
def namesOK (xs : List Txt) : Bool := decide (xs.length ≤ 20) && (rise xs && xs.all nameOK)
theorem nright_spec (H : ScopeLib prog) {G a} {xs : List Txt} (v : ∀ L, TView sEnc ⟨G, L⟩ a xs) (hl : xs.length ≤ maxLen) :
    Ev prog (.call "(haberdash/scope.names).right" [a] G) (.ret (.v (.bool (namesOK xs))) G) := by
  refine call_of_fin H.nright ?_
  have h1 : ∀ {G} (x : Txt), Ev prog (.call "(haberdash/scope.names).right$1" [.v (str x)] G) (.ret (.v (.bool (!(nameOK x)))) G) := fun {G} x => by
    refine call_of_fin H.nright1 ?_
    simp only [f__scope_names__right_1_B, enter, List.length_cons, List.length_nil, List.replicate, Nat.reduceAdd, Nat.reduceSub, List.cons_append, List.nil_append]
    simp (disch := first | (simp only [DS, reduceCtorEq]; done) | omega) only [WS, St.guard, St.put, evalO, reduceCtorEq, reduceIte, Nat.reduceAdd, Nat.reduceEqDiff]
    rw [WP_p (x := .bool (nameOK x)) (by exact goodsName_spec H.name) (by exact trivial)]
    simp (disch := first | (simp only [DS, reduceCtorEq]; done) | omega) only [WS, St.guard, St.put, evalO, reduceCtorEq, reduceIte, Nat.reduceAdd, Nat.reduceEqDiff, fin_tmp, leave_v]
    simp
  have hc : ∀ {G a} , (∀ L, TView sEnc ⟨G, L⟩ a xs) → Ev prog (.call "slices.ContainsFunc[haberdash/scope.names,string]" [a, .fn "(haberdash/scope.names).right$1" [] []] G) (.ret (.v (.bool (!(xs.all nameOK)))) G) := fun {G a} v => by
    refine call_of_fin H.contF ?_
    simp only [f_slices_ContainsFunc_scope_names_string__B, enter, List.length_cons, List.length_nil, List.replicate, Nat.reduceAdd, Nat.reduceSub, List.cons_append, List.nil_append]
    simp (disch := first | (simp only [DS, reduceCtorEq]; done) | omega) only [WS, St.guard, St.put, evalO, reduceCtorEq, reduceIte, Nat.reduceAdd, Nat.reduceEqDiff]
    obtain ⟨n, he, hn⟩ := IndexFunc_spec (prog := prog) H.idxF (fv := .fn "(haberdash/scope.names).right$1" [] []) (fun x => !(nameOK x)) ((v []).into) hl (fun i x hx => by
      refine .opCallV (r := .v (.bool (!(nameOK x)))) (G2 := (⟨(⟨G, []⟩ : Hp).into, []⟩ : Hp).into) rfl ?_ (back_pure rfl)
      exact h1 x)
    rw [WP_p (x := .int .i64 n) (by exact he) (by exact trivial)]
    have e : (xs.any fun x => !(nameOK x)) = !(xs.all nameOK) := by rw [List.not_all_eq_any_not]
    simp (disch := first | (simp only [DS, reduceCtorEq]; done) | omega) only [WS, St.guard, St.put, evalO, reduceCtorEq, reduceIte, Nat.reduceAdd, Nat.reduceEqDiff, hn, e, fin_tmp, leave_v]
    simp
  simp only [f__scope_names__right_B, enter, List.length_cons, List.length_nil, List.replicate, Nat.reduceAdd, Nat.reduceSub, List.cons_append, List.nil_append]
  simp (disch := first | (simp only [DS, reduceCtorEq]; done) | omega) only [WS, St.guard, St.put, evalO, reduceCtorEq, reduceIte, Nat.reduceAdd, Nat.reduceEqDiff, (v _).lenSlice]
  by_cases h20 : (xs.length : Int) ≤ 20
  · have e20 : decide (xs.length ≤ 20) = true := decide_eq_true (by omega)
    simp (disch := first | (simp only [DS, reduceCtorEq]; done) | omega) only [WS, St.guard, St.put, evalO, reduceCtorEq, reduceIte, Nat.reduceAdd, Nat.reduceEqDiff, h20, decide_true]
    rw [WP_p (x := .bool (rise xs)) (by exact Rise_spec H.riseF ((v []).into) hl) (by exact trivial)]
    cases hr : rise xs
    · simp (disch := first | (simp only [DS, reduceCtorEq]; done) | omega) only [WS, St.guard, St.put, evalO, reduceCtorEq, reduceIte, Nat.reduceAdd, Nat.reduceEqDiff, fin_tmp, leave_v, namesOK, e20, hr]
      simp
    · simp (disch := first | (simp only [DS, reduceCtorEq]; done) | omega) only [WS, St.guard, St.put, evalO, reduceCtorEq, reduceIte, Nat.reduceAdd, Nat.reduceEqDiff]
      rw [WP_p (x := .bool (!(xs.all nameOK))) (by exact hc ((v []).into)) (by exact trivial)]
      simp (disch := first | (simp only [DS, reduceCtorEq]; done) | omega) only [WS, St.guard, St.put, evalO, reduceCtorEq, reduceIte, Nat.reduceAdd, Nat.reduceEqDiff, fin_tmp, leave_v, namesOK, e20, hr, Bool.not_not]
      simp
  · have e20 : decide (xs.length ≤ 20) = false := decide_eq_false (by omega)
    simp (disch := first | (simp only [DS, reduceCtorEq]; done) | omega) only [WS, St.guard, St.put, evalO, reduceCtorEq, reduceIte, Nat.reduceAdd, Nat.reduceEqDiff, h20, decide_false, fin_tmp, leave_v, namesOK, e20]
    simp
end Go.AM
