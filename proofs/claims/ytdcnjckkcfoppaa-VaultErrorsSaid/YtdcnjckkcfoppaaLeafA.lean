import Derived.Test.YtdcnjckkcfoppaaAMA
import Derived.Test.YtdcnjckkcfoppaaCrc
import Derived.Test.YtdcnjckkcfoppaaAMD
set_option linter.unusedVariables false
set_option linter.unusedSimpArgs false
namespace Go.AM
def f_help_Own_byte__L0 : ICode :=
 (.seq
 (.seq
 (.ops [ iP 22 .id [.t 7], iP 23 .id [.t 6], iP 24 .lenSlice [.t 23], iP 25 (.bin .lss) [.t 22, .t 24]])
 (.cond (.t 25)
 .skip
 (.exit 0)))
 (.seq
 (.block 1
 (.ops [ iP 28 .id [.t 6], iP 29 .id [.t 7], iP 30 .id [.t 1], iP 31 (.indexAddr 1) [.t 28, .t 29], iN (.store 1 false) [.t 31, .t 30]]))
 (.ops [ iP 26 .id [.t 7], iP 27 (.bin .add) [.t 26, kI 1], iP 7 .id [.t 27]])))
def f_help_Own_byte__B : ICode :=
 (.seq
 (.ops [ iP 4 .id [.c (.slice none 0 0)]])
 (.seq
 (.ops [ iP 8 .id [.t 0], iP 9 .lenSlice [.t 8], iP 10 (.bin .add) [.t 9, kI 3], iP 11 (.makeSlice 0 1 1 [(.int .u8 0)]) [kI 0, .t 10], iP 5 .id [.t 11]])
 (.seq
 (.ops [ iP 12 .id [.t 5], iP 13 .id [.t 0], iP 14 (.append 1 false 1 1) [.t 12, .t 13], iP 5 .id [.t 14]])
 (.seq
 (.ops [ iP 15 .id [.t 5], iP 16 .id [.t 0], iP 17 .lenSlice [.t 16], iP 18 (.bin .add) [.t 17, kI 3], iP 19 (.slice 1 false true false) [.t 15, .t 18], iP 6 .id [.t 19]])
 (.seq
 (.seq
 (.ops [ iP 20 .id [.t 0], iP 21 .lenSlice [.t 20], iP 7 .id [.t 21]])
 (.block 0
 (.loop [0, 2, 3, 4, 8, 9, 10, 11, 12, 13, 14, 15, 16, 17, 18, 19, 20, 21, 22, 23, 24, 25, 26, 27, 28, 29, 30, 31, 32] [] f_help_Own_byte__L0)))
 (.seq
 (.ops [ iP 32 .id [.t 5], iP 4 .id [.t 32]])
 .ret))))))
def f_help_Own_byte_ : IFn := ⟨33, 2, [.tmp 4], f_help_Own_byte__B⟩
def f_leaf_Lay_B : ICode :=
 (.seq
 (.ops [ iP 1 (.box 0) [.t 0], iP 2 (.alloc 1 zeros64 []) [], iP 3 .id [kI 0]])
 (.seq
 (.seq
 (.ops [ iP 5 (.load 5 true) [.t 1], iP 6 (.call "haberdash/leaf.right" []) [.t 5], iP 7 (.un .not) [.t 6]])
 (.cond (.t 7)
 (.seq
 (.ops [ iP 8 (.build zeros64 []) [], iN (.store 64 false) [.t 2, .t 8], iP 3 .id [kI 2]])
 .ret)
 .skip))
 (.seq
 (.ops [ iP 4 (.alloc 2 zeros64 []) []])
 (.seq
 (.ops [ iP 9 (.fieldAddr 0) [.t 1], iP 10 (.load 1 false) [.t 9], iP 11 (.call "haberdash/leaf.put" []) [.t 4, kI 0, .t 10]])
 (.seq
 (.ops [ iP 12 (.fieldAddr 1) [.t 1], iP 13 (.load 1 false) [.t 12], iP 14 (.call "haberdash/leaf.put" []) [.t 4, kI 4, .t 13]])
 (.seq
 (.draw [ iP 15 (.load 5 true) [.t 1], iP 16 (.call "haberdash/leaf.flags" []) [.t 15], iP 17 (.fieldAddr 4) [.t 1],
 ⟨some 18, .load 1 false, [.t 17], none, [2], [], false⟩, iP 19 .lenSlice [.t 18], iP 20 (.convInt .u8) [.t 19], iP 21 (.indexArr 64 1) [.t 4, kI 8],
 ⟨none, .store 1 false, [.t 21, .t 16], none, [], [2], false⟩, iP 22 (.indexArr 64 1) [.t 4, kI 9],
 ⟨none, .store 1 false, [.t 22, .t 20], none, [], [2], false⟩])
 (.seq
 (.draw [ iP 23 (.sliceArr 64 1 true false false) [.t 4, kI 10], iP 24 (.fieldAddr 4) [.t 1], iP 25 (.load 1 false) [.t 24],
 ⟨some 26, .copy 1, [.t 23, .t 25], none, [], [2], false⟩])
 (.seq
 (.ops [ iP 27 (.sliceArr 64 1 false true false) [.t 4, kI 56], iP 28 (.call "haberdash/crc.Sum" []) [.t 27], iP 29 (.call "haberdash/leaf.put" []) [.t 4, kI 56, .t 28]])
 (.seq
 (.ops [ iP 30 (.fieldAddr 0) [.t 1], iP 31 (.load 1 false) [.t 30], iP 32 (.call "haberdash/leaf.put" []) [.t 4, kI 60, .t 31]])
 (.seq
 (.ops [ iP 33 (.load 64 true) [.t 4], iN (.store 64 false) [.t 2, .t 33], iP 3 .id [kI 0]])
 .ret))))))))))
def f_leaf_Lay : IFn := ⟨34, 3, [.cell 2 64 true, .tmp 3], f_leaf_Lay_B⟩
def f_ref04_Lay_L0 : ICode :=
 (.seq
 (.seq
 (.ops [ iP 35 .id [.t 5], iP 36 (.fieldAddr 4) [.t 1], iP 37 (.load 1 false) [.t 36], iP 38 .lenSlice [.t 37], iP 39 (.bin .lss) [.t 35, .t 38]])
 (.cond (.t 39)
 .skip
 (.exit 0)))
 (.seq
 (.block 1
 (.ops [ iP 42 .id [.t 5], iP 43 (.bin .add) [kI 10, .t 42], iP 44 (.fieldAddr 4) [.t 1], iP 45 (.load 1 false) [.t 44], iP 46 .id [.t 5], iP 47 (.indexAddr 1) [.t 45, .t 46], iP 48 (.load 1 false) [.t 47], iP 49 (.indexArr 64 1) [.t 4, .t 43], iN (.store 1 false) [.t 49, .t 48]]))
 (.ops [ iP 40 .id [.t 5], iP 41 (.bin .add) [.t 40, kI 1], iP 5 .id [.t 41]])))
def f_ref04_Lay_H0 (t1 t2 t4 t5 : AV) : List AV := [.dead, t1, t2, .dead, t4, t5, .dead, .dead, .dead, .dead, .dead, .dead, .dead, .dead, .dead, .dead, .dead, .dead, .dead, .dead, .dead, .dead, .dead, .dead, .dead, .dead, .dead, .dead, .dead, .dead, .dead, .dead, .dead, .dead, .dead, .dead, .dead, .dead, .dead, .dead, .dead, .dead, .dead, .dead, .dead, .dead, .dead, .dead, .dead, .dead, .dead, .dead, .dead, .dead, .dead, .dead, .dead, .dead, .dead]
def f_ref04_Lay_B : ICode :=
 (.seq
 (.ops [ iP 1 (.box 0) [.t 0], iP 2 (.alloc 1 zeros64 []) [], iP 3 .id [kI 0]])
 (.seq
 (.ops [ iP 4 (.alloc 2 zeros64 []) []])
 (.seq
 (.seq
 (.ops [ iP 6 (.load 5 true) [.t 1], iP 7 (.call "haberdash/haberdashref04.RightLeaf" []) [.t 6], iP 8 (.un .not) [.t 7]])
 (.cond (.t 8)
 (.seq
 (.ops [ iP 9 (.load 64 true) [.t 4], iN (.store 64 false) [.t 2, .t 9], iP 3 .id [kI 2]])
 .ret)
 .skip))
 (.seq
 (.draw [ iP 10 (.sliceArr 64 1 false false false) [.t 4], iP 11 (.fieldAddr 0) [.t 1], iP 12 (.load 1 false) [.t 11],
 ⟨some 13, .call "haberdash/haberdashref04.lay" [], [.t 10, kI 0, .t 12], none, [], [2], false⟩])
 (.seq
 (.draw [ iP 14 (.sliceArr 64 1 false false false) [.t 4], iP 15 (.fieldAddr 1) [.t 1], iP 16 (.load 1 false) [.t 15],
 ⟨some 17, .call "haberdash/haberdashref04.lay" [], [.t 14, kI 4, .t 16], none, [], [2], false⟩])
 (.seq
 (.seq
 (.ops [ iP 18 (.fieldAddr 2) [.t 1], iP 19 (.load 1 false) [.t 18]])
 (.cond (.t 19)
 (.ops [ iP 20 (.indexArr 64 1) [.t 4, kI 8], iP 21 (.load 1 false) [.t 20], iP 22 (.bin .add) [.t 21, .c (.int .u8 1)], iP 23 (.indexArr 64 1) [.t 4, kI 8], iN (.store 1 false) [.t 23, .t 22]])
 .skip))
 (.seq
 (.seq
 (.ops [ iP 24 (.fieldAddr 3) [.t 1], iP 25 (.load 1 false) [.t 24]])
 (.cond (.t 25)
 (.ops [ iP 26 (.indexArr 64 1) [.t 4, kI 8], iP 27 (.load 1 false) [.t 26], iP 28 (.bin .add) [.t 27, .c (.int .u8 2)], iP 29 (.indexArr 64 1) [.t 4, kI 8], iN (.store 1 false) [.t 29, .t 28]])
 .skip))
 (.seq
 (.ops [ iP 30 (.fieldAddr 4) [.t 1], iP 31 (.load 1 false) [.t 30], iP 32 .lenSlice [.t 31], iP 33 (.convInt .u8) [.t 32], iP 34 (.indexArr 64 1) [.t 4, kI 9], iN (.store 1 false) [.t 34, .t 33]])
 (.seq
 (.seq
 (.ops [ iP 5 .id [kI 0]])
 (.block 0
 (.loop [0, 3, 6, 7, 8, 9, 10, 11, 12, 13, 14, 15, 16, 17, 18, 19, 20, 21, 22, 23, 24, 25, 26, 27, 28, 29, 30, 31, 32, 33, 34, 35, 36, 37, 38, 39, 40, 41, 42, 43, 44, 45, 46, 47, 48, 49, 50, 51, 52, 53, 54, 55, 56, 57, 58] [] f_ref04_Lay_L0)))
 (.seq
 (.draw [ iP 50 (.sliceArr 64 1 false false false) [.t 4], iP 51 (.sliceArr 64 1 false true false) [.t 4, kI 56], iP 52 (.call "haberdash/haberdashref04.Sum" []) [.t 51],
 ⟨some 53, .call "haberdash/haberdashref04.lay" [], [.t 50, kI 56, .t 52], none, [], [2], false⟩])
 (.seq
 (.draw [ iP 54 (.sliceArr 64 1 false false false) [.t 4], iP 55 (.fieldAddr 0) [.t 1], iP 56 (.load 1 false) [.t 55],
 ⟨some 57, .call "haberdash/haberdashref04.lay" [], [.t 54, kI 60, .t 56], none, [], [2], false⟩])
 (.seq
 (.ops [ iP 58 (.load 64 true) [.t 4], iN (.store 64 false) [.t 2, .t 58], iP 3 .id [kI 0]])
 .ret))))))))))))
def f_ref04_Lay : IFn := ⟨59, 3, [.cell 2 64 true, .tmp 3], f_ref04_Lay_B⟩
def f_help_Kept_byte__L0 : ICode :=
 (.seq
 (.seq
 (.ops [ iP 28 .id [.t 8], iP 29 .id [.t 7], iP 30 .lenSlice [.t 29], iP 31 (.bin .lss) [.t 28, .t 30]])
 (.cond (.t 31)
 .skip
 (.exit 0)))
 (.seq
 (.block 1
 (.seq
 (.ops [ iP 34 .id [.t 7], iP 35 .id [.t 8], iP 36 (.indexAddr 1) [.t 34, .t 35], iP 37 (.load 1 false) [.t 36], iP 38 .id [.t 2], iP 39 (.bin .neq) [.t 37, .t 38]])
 (.cond (.t 39)
 (.seq
 (.ops [ iP 6 .id [.c (.bool false)]])
 .ret)
 .skip)))
 (.ops [ iP 32 .id [.t 8], iP 33 (.bin .add) [.t 32, kI 1], iP 8 .id [.t 33]])))
def f_help_Kept_byte__B : ICode :=
 (.seq
 (.ops [ iP 6 .id [.c (.bool false)]])
 (.seq
 (.seq
 (.ops [ iP 9 .id [.t 0], iP 10 .id [.t 1], iP 11 (.call "haberdash/haberdashhelp.Plain[byte]" []) [.t 9, .t 10], iP 12 (.un .not) [.t 11], iP 13 .id [.t 12], iG 13 false 14 .id [.t 0], iG 13 false 15 .cap [.t 14], iG 13 false 16 .id [.t 1], iG 13 false 17 .lenSlice [.t 16], iG 13 false 18 (.bin .add) [.t 17, kI 3], iG 13 false 19 (.bin .lss) [.t 15, .t 18], iP 20 .pick [.t 13, .c (.bool true), .t 19]])
 (.cond (.t 20)
 (.seq
 (.ops [ iP 6 .id [.c (.bool false)]])
 .ret)
 .skip))
 (.seq
 (.ops [ iP 21 .id [.t 0], iP 22 .id [.t 1], iP 23 .lenSlice [.t 22], iP 24 (.bin .add) [.t 23, kI 3], iP 25 (.slice 1 false true false) [.t 21, .t 24], iP 7 .id [.t 25]])
 (.seq
 (.seq
 (.ops [ iP 26 .id [.t 1], iP 27 .lenSlice [.t 26], iP 8 .id [.t 27]])
 (.block 0
 (.loop [0, 1, 3, 4, 5, 6, 9, 10, 11, 12, 13, 14, 15, 16, 17, 18, 19, 20, 21, 22, 23, 24, 25, 26, 27, 28, 29, 30, 31, 32, 33, 34, 35, 36, 37, 38, 39] [] f_help_Kept_byte__L0)))
 (.seq
 (.ops [ iP 6 .id [.c (.bool true)]])
 .ret)))))
def f_help_Kept_byte_ : IFn := ⟨40, 0, [.tmp 6], f_help_Kept_byte__B⟩
def f_leaf_Take_B : ICode :=
 (.seq
 (.ops [ iP 1 (.box 0) [.t 0], iP 2 (.alloc 2 [(.int .u32 0), (.int .u32 0), (.bool false), (.bool false), (.slice none 0 0)] []) [], iP 3 .id [.c (.bool false)]])
 (.seq
 (.draw [
 ⟨some 7, .load 64 true, [.t 1], none, [3], [], false⟩,
 ⟨some 8, .call "haberdash/leaf.get" [], [.t 7, kI 0], none, [3], [], false⟩,
 ⟨some 9, .load 64 true, [.t 1], none, [3], [], false⟩,
 ⟨some 10, .call "haberdash/leaf.get" [], [.t 9, kI 4], none, [3], [], false⟩, iP 11 (.indexArr 64 1) [.t 1, kI 8],
 ⟨some 12, .load 1 false, [.t 11], none, [3], [], false⟩, iP 13 (.bin .and) [.t 12, .c (.int .u8 1)], iP 14 (.bin .eql) [.t 13, .c (.int .u8 1)], iP 15 (.indexArr 64 1) [.t 1, kI 8],
 ⟨some 16, .load 1 false, [.t 15], none, [3], [], false⟩, iP 17 (.bin .and) [.t 16, .c (.int .u8 2)], iP 18 (.bin .eql) [.t 17, .c (.int .u8 2)], iP 19 (.build [(.int .u32 0), (.int .u32 0), (.bool false), (.bool false), (.slice none 0 0)] [(0, 1), (1, 1), (2, 1), (3, 1)]) [.t 8, .t 10, .t 14, .t 18], iP 4 (.alloc 3 [(.int .u32 0), (.int .u32 0), (.bool false), (.bool false), (.slice none 0 0)] []) [],
 ⟨none, .store 5 false, [.t 4, .t 19], none, [], [3], false⟩])
 (.seq
 (.ops [ iP 20 (.indexArr 64 1) [.t 1, kI 9], iP 21 (.load 1 false) [.t 20], iP 22 (.convInt .i64) [.t 21], iP 23 .min [.t 22, kI 46], iP 24 (.bin .add) [kI 10, .t 23], iP 25 (.sliceArr 64 1 true true false) [.t 1, kI 10, .t 24], iP 26 (.call "bytes.Clone" [1]) [.t 25], iP 27 (.fieldAddr 4) [.t 4], iN (.store 1 false) [.t 27, .t 26]])
 (.seq
 (.seq
 (.ops [ iP 29 (.load 5 true) [.t 4], iP 30 (.call "haberdash/leaf.Lay" []) [.t 29], iP 28 .id [.t 30], iP 31 (.extract 0) [.t 28], iP 32 (.extract 1) [.t 28], iP 5 (.alloc 4 zeros64 []) [], iN (.store 64 false) [.t 5, .t 31], iP 6 .id [.t 32]])
 (.seq
 (.ops [ iP 33 .id [.t 6], iP 34 (.bin .neq) [.t 33, kI 0], iP 35 .id [.t 34], iG 35 false 36 (.load 64 true) [.t 5], iG 35 false 37 (.load 64 true) [.t 1], iG 35 false 38 (.eq true ints64) [.t 36, .t 37], iP 39 .pick [.t 35, .c (.bool true), .t 38]])
 (.cond (.t 39)
 (.seq
 (.ops [ iP 40 (.build [(.int .u32 0), (.int .u32 0), (.bool false), (.bool false), (.slice none 0 0)] []) [], iN (.store 5 false) [.t 2, .t 40], iP 3 .id [.c (.bool false)]])
 .ret)
 .skip)))
 (.seq
 (.ops [ iP 41 (.load 5 true) [.t 4], iN (.store 5 false) [.t 2, .t 41], iP 3 .id [.c (.bool true)]])
 .ret)))))
def f_leaf_Take : IFn := ⟨42, 5, [.cell 2 5 true, .tmp 3], f_leaf_Take_B⟩
def f_ref04_Take_B : ICode :=
 (.seq
 (.ops [ iP 1 (.box 0) [.t 0], iP 2 (.alloc 2 [(.int .u32 0), (.int .u32 0), (.bool false), (.bool false), (.slice none 0 0)] []) [], iP 3 .id [.c (.bool false)]])
 (.seq
 (.ops [ iP 8 (.indexArr 64 1) [.t 1, kI 9], iP 9 (.load 1 false) [.t 8], iP 10 (.convInt .i64) [.t 9], iP 4 .id [.t 10]])
 (.seq
 (.seq
 (.ops [ iP 11 .id [.t 4], iP 12 (.bin .gtr) [.t 11, kI 46]])
 (.cond (.t 12)
 (.seq
 (.ops [ iP 13 (.build [(.int .u32 0), (.int .u32 0), (.bool false), (.bool false), (.slice none 0 0)] []) [], iN (.store 5 false) [.t 2, .t 13], iP 3 .id [.c (.bool false)]])
 .ret)
 .skip))
 (.seq
 (.draw [ iP 14 (.sliceArr 64 1 false false false) [.t 1],
 ⟨some 15, .call "haberdash/haberdashref04.four" [], [.t 14, kI 0], none, [3], [], false⟩, iP 16 (.sliceArr 64 1 false false false) [.t 1],
 ⟨some 17, .call "haberdash/haberdashref04.four" [], [.t 16, kI 4], none, [3], [], false⟩, iP 18 (.indexArr 64 1) [.t 1, kI 8],
 ⟨some 19, .load 1 false, [.t 18], none, [1, 3], [], false⟩, iP 20 (.bin .and) [.t 19, .c (.int .u8 1)], iP 21 (.bin .eql) [.t 20, .c (.int .u8 1)], iP 22 (.indexArr 64 1) [.t 1, kI 8],
 ⟨some 23, .load 1 false, [.t 22], none, [1, 3], [], false⟩, iP 24 (.bin .and) [.t 23, .c (.int .u8 2)], iP 25 (.bin .eql) [.t 24, .c (.int .u8 2)], iP 26 .id [.t 4], iP 27 (.bin .add) [kI 10, .t 26], iP 28 (.sliceArr 64 1 true true false) [.t 1, kI 10, .t 27],
 ⟨some 29, .append 1 false 1 1, [.c (.slice none 0 0), .t 28], none, [3], [], false⟩, iP 30 (.build [(.int .u32 0), (.int .u32 0), (.bool false), (.bool false), (.slice none 0 0)] [(0, 1), (1, 1), (2, 1), (3, 1), (4, 1)]) [.t 15, .t 17, .t 21, .t 25, .t 29],
 ⟨some 5, .alloc 3 [(.int .u32 0), (.int .u32 0), (.bool false), (.bool false), (.slice none 0 0)] [], [], none, [1], [], false⟩,
 ⟨none, .store 5 false, [.t 5, .t 30], none, [], [3], false⟩])
 (.seq
 (.ops [ iP 32 (.load 5 true) [.t 5], iP 33 (.call "haberdash/haberdashref04.Lay" []) [.t 32], iP 31 .id [.t 33], iP 34 (.extract 0) [.t 31], iP 35 (.extract 1) [.t 31], iP 6 (.alloc 4 zeros64 []) [], iN (.store 64 false) [.t 6, .t 34], iP 7 .id [.t 35]])
 (.seq
 (.seq
 (.ops [ iP 36 .id [.t 7], iP 37 (.bin .neq) [.t 36, kI 0], iP 38 .id [.t 37], iG 38 false 39 (.load 64 true) [.t 6], iG 38 false 40 (.load 64 true) [.t 1], iG 38 false 41 (.eq true ints64) [.t 39, .t 40], iP 42 .pick [.t 38, .c (.bool true), .t 41]])
 (.cond (.t 42)
 (.seq
 (.ops [ iP 43 (.build [(.int .u32 0), (.int .u32 0), (.bool false), (.bool false), (.slice none 0 0)] []) [], iN (.store 5 false) [.t 2, .t 43], iP 3 .id [.c (.bool false)]])
 .ret)
 .skip))
 (.seq
 (.ops [ iP 44 (.load 5 true) [.t 5], iN (.store 5 false) [.t 2, .t 44], iP 3 .id [.c (.bool true)]])
 .ret)))))))
def f_ref04_Take : IFn := ⟨45, 5, [.cell 2 5 true, .tmp 3], f_ref04_Take_B⟩
def f_leaf_Mark_B : ICode :=
 (.seq
 (.ops [ iP 1 (.box 0) [.t 0], iP 2 .id [.c (.int .u32 0)]])
 (.seq
 (.draw [ iP 3 (.load 64 true) [.t 1], iP 4 (.call "haberdash/leaf.get" []) [.t 3, kI 0], iP 5 (.load 64 true) [.t 1], iP 6 (.call "haberdash/leaf.get" []) [.t 5, kI 60], iP 7 .max [.t 4, .t 6], iP 2 .id [.t 7]])
 .ret))
def f_leaf_Mark : IFn := ⟨8, 1, [.tmp 2], f_leaf_Mark_B⟩
def f_ref04_Mark_B : ICode :=
 (.seq
 (.ops [ iP 1 (.box 0) [.t 0], iP 2 .id [.c (.int .u32 0)]])
 (.seq
 (.draw [ iP 3 (.sliceArr 64 1 false false false) [.t 1], iP 4 (.call "haberdash/haberdashref04.four" []) [.t 3, kI 0], iP 5 (.sliceArr 64 1 false false false) [.t 1], iP 6 (.call "haberdash/haberdashref04.four" []) [.t 5, kI 60], iP 7 .max [.t 4, .t 6], iP 2 .id [.t 7]])
 .ret))
def f_ref04_Mark : IFn := ⟨8, 1, [.tmp 2], f_ref04_Mark_B⟩
def f_help_Bytes_B : ICode :=
 (.seq
 (.ops [ iP 4 .id [.c (.bool false)]])
 (.seq
 (.ops [ iP 5 .id [.t 0], iP 6 .bytesStr [.t 5], iP 7 .id [.t 1], iP 8 .bytesStr [.t 7], iP 9 (.bin .eql) [.t 6, .t 8], iP 4 .id [.t 9]])
 .ret))
def f_help_Bytes : IFn := ⟨10, 0, [.tmp 4], f_help_Bytes_B⟩
def f_leaf_right_B : ICode :=
 (.seq
 (.ops [ iP 1 (.box 0) [.t 0], iP 2 .id [.c (.bool false)]])
 (.seq
 (.ops [ iP 3 (.fieldAddr 0) [.t 1], iP 4 (.load 1 false) [.t 3], iP 5 (.bin .neq) [.t 4, .c (.int .u32 0)], iP 6 .id [.t 5], iG 6 true 7 (.fieldAddr 4) [.t 1], iG 6 true 8 (.load 1 false) [.t 7], iG 6 true 9 .lenSlice [.t 8], iG 6 true 10 (.bin .geq) [.t 9, kI 1], iP 11 .pick [.t 6, .t 10, .c (.bool false)], iP 12 .id [.t 11], iG 12 true 13 (.fieldAddr 4) [.t 1], iG 12 true 14 (.load 1 false) [.t 13], iG 12 true 15 .lenSlice [.t 14], iG 12 true 16 (.bin .leq) [.t 15, kI 46], iP 17 .pick [.t 12, .t 16, .c (.bool false)], iP 18 .id [.t 17], iG 18 true 19 (.fieldAddr 3) [.t 1], iG 18 true 20 (.load 1 false) [.t 19], iG 18 true 21 .id [.t 20], iG 21 false 22 (.fieldAddr 4) [.t 1], iG 21 false 23 (.load 1 false) [.t 22], iG 21 false 24 .lenSlice [.t 23], iG 21 false 25 (.bin .eql) [.t 24, kI 46], iG 18 true 26 .pick [.t 21, .c (.bool true), .t 25], iP 27 .pick [.t 18, .t 26, .c (.bool false)], iP 2 .id [.t 27]])
 .ret))
def f_leaf_right : IFn := ⟨28, 1, [.tmp 2], f_leaf_right_B⟩
def f_leaf_put_L0 : ICode :=
 (.seq
 (.ops [ iP 8 (.bin .lss) [.t 7, kI 4]])
 (.seq
 (.cond (.t 8)
 .skip
 (.exit 0))
 (.seq
 (.block 1
 (.seq
 (.ops [ iP 9 .id [.t 7], iP 6 .id [.t 9]])
 (.draw [ iP 10 .id [.t 0], iP 11 .id [.t 1], iP 12 .id [.t 6], iP 13 (.bin .add) [.t 11, .t 12], iP 14 .id [.t 2], iP 15 .id [.t 6], iP 16 (.bin .mul) [kI 8, .t 15], iP 17 (.bin .sub) [kI 24, .t 16], iP 18 (.bin .shr) [.t 14, .t 17], iP 19 (.convInt .u8) [.t 18], iP 20 .nilCheck [.t 10], iP 21 (.indexArr 64 1) [.t 20, .t 13],
 ⟨none, .store 1 false, [.t 21, .t 19], none, [], [], true⟩])))
 (.ops [ iP 22 (.bin .add) [.t 7, kI 1], iP 7 .id [.t 22]]))))
def f_leaf_put_H0 (t0 t1 t2 t7 : AV) : List AV := [t0, t1, t2, .dead, .dead, .dead, .dead, t7, .dead, .dead, .dead, .dead, .dead, .dead, .dead, .dead, .dead, .dead, .dead, .dead, .dead, .dead, .dead]
def f_leaf_put_B : ICode :=
 (.seq
 (.ops [ iP 7 .id [kI 0]])
 (.block 0
 (.loop [3, 4, 5, 6, 8, 9, 10, 11, 12, 13, 14, 15, 16, 17, 18, 19, 20, 21, 22] [] f_leaf_put_L0)))
def f_leaf_put : IFn := ⟨23, 0, [], f_leaf_put_B⟩
def f_leaf_flags_B : ICode :=
 (.seq
 (.ops [ iP 1 (.box 0) [.t 0], iP 2 .id [.c (.int .u8 0)]])
 (.seq
 (.ops [ iP 3 .id [.c (.int .u8 0)]])
 (.seq
 (.seq
 (.ops [ iP 4 (.fieldAddr 2) [.t 1], iP 5 (.load 1 false) [.t 4]])
 (.cond (.t 5)
 (.ops [ iP 6 .id [.t 3], iP 7 (.bin .or) [.t 6, .c (.int .u8 1)], iP 3 .id [.t 7]])
 .skip))
 (.seq
 (.seq
 (.ops [ iP 8 (.fieldAddr 3) [.t 1], iP 9 (.load 1 false) [.t 8]])
 (.cond (.t 9)
 (.ops [ iP 10 .id [.t 3], iP 11 (.bin .or) [.t 10, .c (.int .u8 2)], iP 3 .id [.t 11]])
 .skip))
 (.seq
 (.ops [ iP 12 .id [.t 3], iP 2 .id [.t 12]])
 .ret)))))
def f_leaf_flags : IFn := ⟨13, 1, [.tmp 2], f_leaf_flags_B⟩
def f_ref04_RightLeaf_B : ICode :=
 (.seq
 (.ops [ iP 1 (.box 0) [.t 0], iP 2 .id [.c (.bool false)]])
 (.seq
 (.ops [ iP 3 (.fieldAddr 0) [.t 1], iP 4 (.load 1 false) [.t 3], iP 5 (.bin .neq) [.t 4, .c (.int .u32 0)], iP 6 .id [.t 5], iG 6 true 7 (.fieldAddr 4) [.t 1], iG 6 true 8 (.load 1 false) [.t 7], iG 6 true 9 .lenSlice [.t 8], iG 6 true 10 (.bin .geq) [.t 9, kI 1], iP 11 .pick [.t 6, .t 10, .c (.bool false)], iP 12 .id [.t 11], iG 12 true 13 (.fieldAddr 4) [.t 1], iG 12 true 14 (.load 1 false) [.t 13], iG 12 true 15 .lenSlice [.t 14], iG 12 true 16 (.bin .leq) [.t 15, kI 46], iP 17 .pick [.t 12, .t 16, .c (.bool false)], iP 18 .id [.t 17], iG 18 true 19 (.fieldAddr 3) [.t 1], iG 18 true 20 (.load 1 false) [.t 19], iG 18 true 21 .id [.t 20], iG 21 false 22 (.fieldAddr 4) [.t 1], iG 21 false 23 (.load 1 false) [.t 22], iG 21 false 24 .lenSlice [.t 23], iG 21 false 25 (.bin .eql) [.t 24, kI 46], iG 18 true 26 .pick [.t 21, .c (.bool true), .t 25], iP 27 .pick [.t 18, .t 26, .c (.bool false)], iP 2 .id [.t 27]])
 .ret))
def f_ref04_RightLeaf : IFn := ⟨28, 1, [.tmp 2], f_ref04_RightLeaf_B⟩
def f_ref04_lay_L0 : ICode :=
 (.seq
 (.seq
 (.ops [ iP 7 .id [.t 6], iP 8 (.bin .lss) [.t 7, kI 4]])
 (.cond (.t 8)
 .skip
 (.exit 0)))
 (.seq
 (.block 1
 (.ops [ iP 11 .id [.t 0], iP 12 .id [.t 1], iP 13 .id [.t 6], iP 14 (.bin .add) [.t 12, .t 13], iP 15 .id [.t 2], iP 16 .id [.t 6], iP 17 (.bin .mul) [kI 8, .t 16], iP 18 (.bin .sub) [kI 24, .t 17], iP 19 (.convInt .u64) [.t 18], iP 20 (.bin .shr) [.t 15, .t 19], iP 21 (.convInt .u8) [.t 20], iP 22 (.indexAddr 1) [.t 11, .t 14], iN (.store 1 false) [.t 22, .t 21]]))
 (.ops [ iP 9 .id [.t 6], iP 10 (.bin .add) [.t 9, kI 1], iP 6 .id [.t 10]])))
def f_ref04_lay_H0 (t0 t1 t2 t6 : AV) : List AV := [t0, t1, t2, .dead, .dead, .dead, t6, .dead, .dead, .dead, .dead, .dead, .dead, .dead, .dead, .dead, .dead, .dead, .dead, .dead, .dead, .dead, .dead]
def f_ref04_lay_B : ICode :=
 (.seq
 (.ops [ iP 6 .id [kI 0]])
 (.block 0
 (.loop [3, 4, 5, 7, 8, 9, 10, 11, 12, 13, 14, 15, 16, 17, 18, 19, 20, 21, 22] [] f_ref04_lay_L0)))
def f_ref04_lay : IFn := ⟨23, 0, [], f_ref04_lay_B⟩
def f_help_Plain_byte__B : ICode :=
 (.seq
 (.ops [ iP 4 .id [.c (.bool false)]])
 (.seq
 (.ops [ iP 5 .id [.t 0], iP 6 .id [.t 1], iP 7 (.call "haberdash/haberdashhelp.Same[byte]" []) [.t 5, .t 6, .f "haberdash/haberdashhelp.Plain[byte]$1"], iP 4 .id [.t 7]])
 .ret))
def f_help_Plain_byte_ : IFn := ⟨8, 0, [.tmp 4], f_help_Plain_byte__B⟩
def f_leaf_get_L0 : ICode :=
 (.seq
 (.ops [ iP 8 (.bin .lss) [.t 7, kI 4]])
 (.seq
 (.cond (.t 8)
 .skip
 (.exit 0))
 (.seq
 (.block 1
 (.seq
 (.ops [ iP 9 .id [.t 7], iP 6 .id [.t 9]])
 (.ops [ iP 10 .id [.t 5], iP 11 (.bin .shl) [.t 10, .c (.int .u64 8)], iP 12 .id [.t 1], iP 13 .id [.t 6], iP 14 (.bin .add) [.t 12, .t 13], iP 15 (.indexArr 64 1) [.t 2, .t 14], iP 16 (.load 1 false) [.t 15], iP 17 (.convInt .u32) [.t 16], iP 18 (.bin .or) [.t 11, .t 17], iP 5 .id [.t 18]])))
 (.ops [ iP 19 (.bin .add) [.t 7, kI 1], iP 7 .id [.t 19]]))))
def f_leaf_get_H0 (t1 t2 t5 t7 : AV) : List AV := [.dead, t1, t2, .dead, .dead, t5, .dead, t7, .dead, .dead, .dead, .dead, .dead, .dead, .dead, .dead, .dead, .dead, .dead, .dead, .dead]
def f_leaf_get_B : ICode :=
 (.seq
 (.ops [ iP 2 (.box 0) [.t 0], iP 4 .id [.c (.int .u32 0)]])
 (.seq
 (.ops [ iP 5 .id [.c (.int .u32 0)]])
 (.seq
 (.seq
 (.ops [ iP 7 .id [kI 0]])
 (.block 0
 (.loop [0, 3, 4, 6, 8, 9, 10, 11, 12, 13, 14, 15, 16, 17, 18, 19, 20] [] f_leaf_get_L0)))
 (.seq
 (.ops [ iP 20 .id [.t 5], iP 4 .id [.t 20]])
 .ret))))
def f_leaf_get : IFn := ⟨21, 1, [.tmp 4], f_leaf_get_B⟩
def f_bytes_Clone_B : ICode :=
 (.seq
 (.ops [ iP 2 .id [.c (.slice none 0 0)]])
 (.seq
 (.seq
 (.ops [ iP 3 .id [.t 0], iP 4 (.eqNil false .slice) [.t 3, .c (.slice none 0 0)]])
 (.cond (.t 4)
 (.seq
 (.ops [ iP 2 .id [.c (.slice none 0 0)]])
 .ret)
 .skip))
 (.seq
 (.ops [ iP 5 (.buildSlice 0 false 1 0 [(.int .u8 0)] []) [], iP 6 .id [.t 0], iP 7 (.append 1 false 1 1) [.t 5, .t 6], iP 2 .id [.t 7]])
 .ret)))
def f_bytes_Clone : IFn := ⟨8, 2, [.tmp 2], f_bytes_Clone_B⟩
def f_ref04_four_L0 : ICode :=
 (.seq
 (.seq
 (.ops [ iP 7 .id [.t 6], iP 8 (.bin .lss) [.t 7, kI 4]])
 (.cond (.t 8)
 .skip
 (.exit 0)))
 (.seq
 (.block 1
 (.ops [ iP 11 .id [.t 5], iP 12 (.bin .shl) [.t 11, .c (.int .u64 8)], iP 13 .id [.t 0], iP 14 .id [.t 1], iP 15 .id [.t 6], iP 16 (.bin .add) [.t 14, .t 15], iP 17 (.indexAddr 1) [.t 13, .t 16], iP 18 (.load 1 false) [.t 17], iP 19 (.convInt .u32) [.t 18], iP 20 (.bin .or) [.t 12, .t 19], iP 5 .id [.t 20]]))
 (.ops [ iP 9 .id [.t 6], iP 10 (.bin .add) [.t 9, kI 1], iP 6 .id [.t 10]])))
def f_ref04_four_H0 (t0 t1 t5 t6 : AV) : List AV := [t0, t1, .dead, .dead, .dead, t5, t6, .dead, .dead, .dead, .dead, .dead, .dead, .dead, .dead, .dead, .dead, .dead, .dead, .dead, .dead, .dead]
def f_ref04_four_B : ICode :=
 (.seq
 (.ops [ iP 4 .id [.c (.int .u32 0)]])
 (.seq
 (.ops [ iP 5 .id [.c (.int .u32 0)]])
 (.seq
 (.seq
 (.ops [ iP 6 .id [kI 0]])
 (.block 0
 (.loop [2, 3, 4, 7, 8, 9, 10, 11, 12, 13, 14, 15, 16, 17, 18, 19, 20, 21] [] f_ref04_four_L0)))
 (.seq
 (.ops [ iP 21 .id [.t 5], iP 4 .id [.t 21]])
 .ret))))
def f_ref04_four : IFn := ⟨22, 0, [.tmp 4], f_ref04_four_B⟩
def f_help_Plain_byte__1_B : ICode :=
 (.seq
 (.ops [ iP 4 .id [.c (.bool false)]])
 (.seq
 (.ops [ iP 5 .id [.t 0], iP 6 .id [.t 1], iP 7 (.bin .eql) [.t 5, .t 6], iP 4 .id [.t 7]])
 .ret))
def f_help_Plain_byte__1 : IFn := ⟨8, 0, [.tmp 4], f_help_Plain_byte__1_B⟩
def f_help_Same_byte__L0 : ICode :=
 (.seq
 (.seq
 (.ops [ iP 13 .id [.t 7], iP 14 .id [.t 0], iP 15 .lenSlice [.t 14], iP 16 (.bin .lss) [.t 13, .t 15]])
 (.cond (.t 16)
 .skip
 (.exit 0)))
 (.seq
 (.block 1
 (.seq
 (.draw [ iP 19 .id [.t 2], iP 20 .id [.t 0], iP 21 .id [.t 7], iP 22 (.indexAddr 1) [.t 20, .t 21], iP 23 (.load 1 false) [.t 22], iP 24 .id [.t 1], iP 25 .id [.t 7], iP 26 (.indexAddr 1) [.t 24, .t 25], iP 27 (.load 1 false) [.t 26], iP 28 (.callV []) [.t 19, .t 23, .t 27], iP 29 (.un .not) [.t 28]])
 (.cond (.t 29)
 (.seq
 (.ops [ iP 6 .id [.c (.bool false)]])
 .ret)
 .skip)))
 (.ops [ iP 17 .id [.t 7], iP 18 (.bin .add) [.t 17, kI 1], iP 7 .id [.t 18]])))
def f_help_Same_byte__B : ICode :=
 (.seq
 (.ops [ iP 6 .id [.c (.bool false)]])
 (.seq
 (.seq
 (.ops [ iP 8 .id [.t 0], iP 9 .lenSlice [.t 8], iP 10 .id [.t 1], iP 11 .lenSlice [.t 10], iP 12 (.bin .neq) [.t 9, .t 11]])
 (.cond (.t 12)
 (.seq
 (.ops [ iP 6 .id [.c (.bool false)]])
 .ret)
 .skip))
 (.seq
 (.seq
 (.ops [ iP 7 .id [kI 0]])
 (.block 0
 (.loop [3, 4, 5, 6, 8, 9, 10, 11, 12, 13, 14, 15, 16, 17, 18, 19, 20, 21, 22, 23, 24, 25, 26, 27, 28, 29] [] f_help_Same_byte__L0)))
 (.seq
 (.ops [ iP 6 .id [.c (.bool true)]])
 .ret))))
def f_help_Same_byte_ : IFn := ⟨30, 0, [.tmp 6], f_help_Same_byte__B⟩
end Go.AM
namespace Go.AM
variable {prog : String → Option IFn}
theorem vBin_shl_u32 {x : BitVec 32} {n : Nat} {k : IntKind} (hn : n ≤ 32) : vBin .shl (u32 x) (.int k (n : Int)) = some (u32 (x <<< n)) := by
  simp only [u32, vBin]
  rw [if_neg (by omega)]
  congr 2
  rw [Int.toNat_natCast, BitVec.toNat_shiftLeft, Nat.shiftLeft_eq, show min n IntKind.u32.bits = n from Nat.min_eq_left hn, IntKind.wrap_u32]
  have : ((x.toNat : Int) * 2 ^ n) = ((x.toNat * 2 ^ n : Nat) : Int) := by simp
  rw [this]; omega
theorem vBin_shl_u32_8 {x : BitVec 32} {k : IntKind} : vBin .shl (u32 x) (.int k 8) = some (u32 (x <<< 8)) := vBin_shl_u32 (n := 8) (by omega)
theorem vBin_or_u32 {x y : BitVec 32} : vBin .or (u32 x) (u32 y) = some (u32 (x ||| y)) := by
  show some (Value.int .u32 (IntKind.u32.wrap ((BitVec.ofInt 32 (x.toNat : Int) ||| BitVec.ofInt 32 (y.toNat : Int)).toNat : Int))) = _
  rw [ofInt_toNat32, ofInt_toNat32, wrap_u32_toNat]; rfl
theorem conv_u32_u8 {s : BitVec 32} : Value.int .u8 (IntKind.u8.wrap (s.toNat : Int)) = u8 (UInt8.ofNat s.toNat) := by
  rw [u8, UInt8.toNat_ofNat', IntKind.wrap_u8]; congr 1
theorem conv_u32_u8' {s : BitVec 32} {h : Hp} : prim h (.convInt .u8) [.v (u32 s)] = some (.v (u8 (UInt8.ofNat s.toNat)), h) := by
  rw [u32, px_convInt, conv_u32_u8]
theorem conv_u8_u32 {b : UInt8} {h : Hp} : prim h (.convInt .u32) [.v (u8 b)] = some (.v (u32 (BitVec.ofNat 32 b.toNat)), h) := by
  rw [u8, px_convInt, u8_u32]
theorem vBin_neq_u32 {x y : BitVec 32} : vBin .neq (u32 x) (u32 y) = some (.bool (x != y)) := by
  simp only [u32, vBin, ne_eq, not_true_eq_false, if_false, Option.some.injEq, Value.bool.injEq]
  rw [Bool.eq_iff_iff]
  simp only [bne_iff_ne, ne_eq]
  constructor
  · intro h e; exact h (by rw [e])
  · intro h e; exact h (BitVec.eq_of_toNat_eq (by omega))
def putN (bs : List UInt8) (at' : Nat) (v : BitVec 32) : Nat → List UInt8
  | 0 => bs
  | i + 1 => (putN bs at' v i).set (at' + i) (UInt8.ofNat (v >>> (24 - 8 * i)).toNat)
def put4 (bs : List UInt8) (at' : Nat) (v : BitVec 32) : List UInt8 := putN bs at' v 4
def getN (bs : List UInt8) (at' : Nat) : Nat → BitVec 32
  | 0 => 0#32
  | i + 1 => (getN bs at' i <<< 8) ||| BitVec.ofNat 32 (bs.getD (at' + i) 0).toNat
def get4 (bs : List UInt8) (at' : Nat) : BitVec 32 := getN bs at' 4
theorem putN_len {bs at' v} : ∀ i, (putN bs at' v i).length = bs.length
  | 0 => rfl
  | i + 1 => by rw [putN, List.length_set, putN_len i]
theorem put4_len {bs at' v} : (put4 bs at' v).length = bs.length := putN_len 4
theorem cast_add (a b : Nat) : (a : Int) + (b : Int) = ((a + b : Nat) : Int) := rfl
theorem cast_shift {i : Nat} (h : i < 4) : (24 : Int) - 8 * (i : Int) = ((24 - 8 * i : Nat) : Int) := by omega
theorem put_spec (hf : prog "haberdash/leaf.put" = some f_leaf_put) {G p} {bs : List UInt8} {o v : Bool} (hG : G[p]? = some (some (dBlk (bs.map byteAV) o v))) (hl : bs.length = 64) (at' : Nat) (ha : at' + 4 ≤ 64) (x : BitVec 32) :
    Ev prog (.call "haberdash/leaf.put" [.ptr (.o p) 64 0, .v (.int .i64 (at' : Nat)), .v (u32 x)] G) (.ret (.tup []) (G.set p (some (dBlk ((put4 bs at' x).map byteAV) o v)))) := by
  refine call_of_fin hf ?_
  simp only [f_leaf_put_B, enter, List.length_cons, List.length_nil, List.replicate, Nat.reduceAdd, Nat.reduceSub, List.cons_append, List.nil_append]
  simp (disch := first | (simp only [DS, reduceCtorEq]; done) | omega) only [WS, St.guard, St.put, evalO, reduceCtorEq, reduceIte, Nat.reduceAdd, Nat.reduceEqDiff]
  refine WC_count (fun i => ⟨f_leaf_put_H0 (.ptr (.o p) 64 0) (.v (.int .i64 (at' : Nat))) (.v (u32 x)) (.v (.int .i64 (i : Nat))), ⟨G.set p (some (dBlk ((putN bs at' x i).map byteAV) o v)), []⟩⟩) 4 ?_ (fun i hi => ?_) ?_
  · simp only [clear_nil, List.foldl_cons, List.foldl_nil, Option.some.injEq, LS, reduceCtorEq, reduceIte, Nat.reduceAdd, putN, set_same hG]; rfl
  · have hlt' : (i : Int) < 4 := by omega
    have hlt := lt_of_get hG
    simp (disch := first | (simp only [DS, reduceCtorEq]; done) | omega) only [f_leaf_put_L0, f_leaf_put_H0, WS, St.guard, St.put, evalO, reduceCtorEq, reduceIte, Nat.reduceAdd, Nat.reduceEqDiff, hlt', decide_true, vBin_add_i64, vBin_mul_i64, vBin_sub_i64, cast_add, cast_shift hi, indexArr_at, conv_u32_u8']
    refine WDP_loud (store_byte_o (bs := putN bs at' x i) (o := o) (v := v) (p := p) (List.getElem?_set_self hlt) (by rw [putN_len, hl]) (by omega)) rfl ?_
    simp (disch := first | (simp only [DS, reduceCtorEq]; done) | omega) only [WS, St.guard, St.put, evalO, reduceCtorEq, reduceIte, Nat.reduceAdd, Nat.reduceEqDiff, vBin_add_i64, clear_nil, List.foldl_cons, List.foldl_nil, Option.some.injEq, List.set_set]
    rfl
  · simp (disch := first | (simp only [DS, reduceCtorEq]; done) | omega) only [f_leaf_put_L0, f_leaf_put_H0, WS, St.guard, St.put, evalO, reduceCtorEq, reduceIte, Nat.reduceAdd, Nat.reduceEqDiff, decide_false]
    exact ⟨by simp, leave_lf (h := ⟨_, []⟩) (r := .tup []) rfl⟩
theorem reflay_spec (hf : prog "haberdash/haberdashref04.lay" = some f_ref04_lay) {G p} {bs : List UInt8} {o v : Bool} {cap} (hG : G[p]? = some (some (dBlk (bs.map byteAV) o v))) (hl : bs.length = 64) (at' : Nat) (ha : at' + 4 ≤ 64) (x : BitVec 32) :
    Ev prog (.call "haberdash/haberdashref04.lay" [.own (.o p) 64 0 64 1 cap, .v (.int .i64 (at' : Nat)), .v (u32 x)] G) (.ret (.tup []) (G.set p (some (dBlk ((put4 bs at' x).map byteAV) o v)))) := by
  refine call_of_fin hf ?_
  simp only [f_ref04_lay_B, enter, List.length_cons, List.length_nil, List.replicate, Nat.reduceAdd, Nat.reduceSub, List.cons_append, List.nil_append]
  simp (disch := first | (simp only [DS, reduceCtorEq]; done) | omega) only [WS, St.guard, St.put, evalO, reduceCtorEq, reduceIte, Nat.reduceAdd, Nat.reduceEqDiff]
  refine WC_count (fun i => ⟨f_ref04_lay_H0 (.own (.o p) 64 0 64 1 cap) (.v (.int .i64 (at' : Nat))) (.v (u32 x)) (.v (.int .i64 (i : Nat))), ⟨G.set p (some (dBlk ((putN bs at' x i).map byteAV) o v)), []⟩⟩) 4 ?_ (fun i hi => ?_) ?_
  · simp only [clear_nil, List.foldl_cons, List.foldl_nil, Option.some.injEq, LS, reduceCtorEq, reduceIte, Nat.reduceAdd, putN, set_same hG]; rfl
  · have hlt' : (i : Int) < 4 := by omega
    have hlt := lt_of_get hG
    have hix : at' + i < 64 := by omega
    simp (disch := first | (simp only [DS, reduceCtorEq]; done) | omega) only [f_ref04_lay_L0, f_ref04_lay_H0, WS, St.guard, St.put, evalO, reduceCtorEq, reduceIte, Nat.reduceAdd, Nat.reduceEqDiff, hlt', decide_true, vBin_add_i64, vBin_mul_i64, vBin_sub_i64, cast_add, cast_shift hi, wrap_u64_of, px_indexAddr_own, natOf_nat, Option.bind_some, hix, and_self, conv_u32_u8', Nat.mul_one, Nat.zero_add]
    rw [store_byte_o (bs := putN bs at' x i) (o := o) (v := v) (p := p) (List.getElem?_set_self hlt) (by rw [putN_len, hl]) (by omega)]
    simp (disch := first | (simp only [DS, reduceCtorEq]; done) | omega) only [WS, St.guard, St.put, evalO, reduceCtorEq, reduceIte, Nat.reduceAdd, Nat.reduceEqDiff, vBin_add_i64, clear_nil, List.foldl_cons, List.foldl_nil, Option.some.injEq, List.set_set]
    rfl
  · simp (disch := first | (simp only [DS, reduceCtorEq]; done) | omega) only [f_ref04_lay_L0, f_ref04_lay_H0, WS, St.guard, St.put, evalO, reduceCtorEq, reduceIte, Nat.reduceAdd, Nat.reduceEqDiff, decide_false]
    exact ⟨by simp, leave_lf (h := ⟨_, []⟩) (r := .tup []) rfl⟩
theorem get_spec (hf : prog "haberdash/leaf.get" = some f_leaf_get) {G} {bs : List UInt8} (hl : bs.length = 64) (at' : Nat) (ha : at' + 4 ≤ 64) :
    Ev prog (.call "haberdash/leaf.get" [.agg (bs.map byteAV), .v (.int .i64 (at' : Nat))] G) (.ret (.v (u32 (get4 bs at'))) G) := by
  refine call_of_fin hf ?_
  simp only [f_leaf_get_B, enter, List.length_cons, List.length_nil, List.replicate, Nat.reduceAdd, Nat.reduceSub, List.cons_append, List.nil_append]
  simp (disch := first | (simp only [DS, reduceCtorEq]; done) | omega) only [WS, St.guard, St.put, evalO, reduceCtorEq, reduceIte, Nat.reduceAdd, Nat.reduceEqDiff]
  rw [box_bytes rfl]
  simp (disch := first | (simp only [DS, reduceCtorEq]; done) | omega) only [WS, St.guard, St.put, evalO, reduceCtorEq, reduceIte, Nat.reduceAdd, Nat.reduceEqDiff, hl, c0]
  refine WC_count (fun i => ⟨f_leaf_get_H0 (.v (.int .i64 (at' : Nat))) (.ptr (.l 0) 64 0) (.v (u32 (getN bs at' i))) (.v (.int .i64 (i : Nat))), ⟨G, [some (dBlk (bs.map byteAV) false false)]⟩⟩) 4 ?_ (fun i hi => ?_) ?_
  · simp only [clear_nil, List.foldl_cons, List.foldl_nil, Option.some.injEq, LS, reduceCtorEq, reduceIte, Nat.reduceAdd, getN]; rfl
  · have hlt' : (i : Int) < 4 := by omega
    simp (disch := first | (simp only [DS, reduceCtorEq]; done) | omega) only [f_leaf_get_L0, f_leaf_get_H0, WS, St.guard, St.put, evalO, reduceCtorEq, reduceIte, Nat.reduceAdd, Nat.reduceEqDiff, hlt', decide_true, vBin_add_i64, cast_add, indexArr_at, px_load_l, loadB_byte hl, byteAV_u8, conv_u8_u32, vBin_shl_u32_8, vBin_or_u32, List.getElem?_cons_zero, Option.join_some, clear_nil, List.foldl_cons, List.foldl_nil, Option.some.injEq]
    rfl
  · simp (disch := first | (simp only [DS, reduceCtorEq]; done) | omega) only [f_leaf_get_L0, f_leaf_get_H0, WS, St.guard, St.put, evalO, reduceCtorEq, reduceIte, Nat.reduceAdd, Nat.reduceEqDiff, decide_false, fin_tmp, leave_v]
    simp [get4]
theorem four_spec (hf : prog "haberdash/haberdashref04.four" = some f_ref04_four) {G a} {bs : List UInt8} (w : ∀ L, View ⟨G, L⟩ a 1 64 (bs.map byteAV)) (hl : bs.length = 64) (at' : Nat) (ha : at' + 4 ≤ 64) :
    Ev prog (.call "haberdash/haberdashref04.four" [a, .v (.int .i64 (at' : Nat))] G) (.ret (.v (u32 (get4 bs at'))) G) := by
  refine call_of_fin hf ?_
  simp only [f_ref04_four_B, enter, List.length_cons, List.length_nil, List.replicate, Nat.reduceAdd, Nat.reduceSub, List.cons_append, List.nil_append]
  simp (disch := first | (simp only [DS, reduceCtorEq]; done) | omega) only [WS, St.guard, St.put, evalO, reduceCtorEq, reduceIte, Nat.reduceAdd, Nat.reduceEqDiff, c0]
  refine WC_count (fun i => ⟨f_ref04_four_H0 a (.v (.int .i64 (at' : Nat))) (.v (u32 (getN bs at' i))) (.v (.int .i64 (i : Nat))), ⟨G, []⟩⟩) 4 ?_ (fun i hi => ?_) ?_
  · simp only [clear_nil, List.foldl_cons, List.foldl_nil, Option.some.injEq, LS, reduceCtorEq, reduceIte, Nat.reduceAdd, getN]; rfl
  · have hlt' : (i : Int) < 4 := by omega
    have hx : (bs.map byteAV)[at' + i]? = some (byteAV (bs.getD (at' + i) 0)) := by
      rw [List.getElem?_map, List.getD_eq_getElem?_getD, List.getElem?_eq_getElem (by omega)]; rfl
    simp (disch := first | (simp only [DS, reduceCtorEq]; done) | omega) only [f_ref04_four_L0, f_ref04_four_H0, WS, St.guard, St.put, evalO, reduceCtorEq, reduceIte, Nat.reduceAdd, Nat.reduceEqDiff, hlt', decide_true, vBin_add_i64, cast_add, (w _).index (show at' + i < 64 by omega), (w _).load1 hx, byteAV_u8, conv_u8_u32, vBin_shl_u32_8, vBin_or_u32, clear_nil, List.foldl_cons, List.foldl_nil, Option.some.injEq]
    rfl
  · simp (disch := first | (simp only [DS, reduceCtorEq]; done) | omega) only [f_ref04_four_L0, f_ref04_four_H0, WS, St.guard, St.put, evalO, reduceCtorEq, reduceIte, Nat.reduceAdd, Nat.reduceEqDiff, decide_false, fin_tmp, leave_v]
    simp [get4]
end Go.AM
namespace Go.AM
variable {prog : String → Option IFn}
structure LeafD where
  e : BitVec 32
  n : BitVec 32
  f : Bool
  l : Bool
  d : List UInt8
def LeafD.cells (x : LeafD) (a : AV) : List AV := [.v (u32 x.e), .v (u32 x.n), .v (.bool x.f), .v (.bool x.l), a]
def LeafD.right (x : LeafD) : Bool := x.e != 0#32 && (decide ((x.d.length : Int) ≥ 1) && (decide ((x.d.length : Int) ≤ 46) && (x.l || ((x.d.length : Int) == 46))))
theorem leaf_labs {x : LeafD} {a : AV} {g k : Nat} (h : Outer g a) : (AV.labs.labss (x.cells a)).all (refLt g k) = true := by
  have := h.lt (k := k)
  simpa [LeafD.cells, AV.labs.labss, AV.labs] using this
theorem right_any {nm} (hf : prog nm = some f_leaf_right) {G a} {x : LeafD} (w : ∀ L, View ⟨G, L⟩ a 1 x.d.length (x.d.map byteAV)) :
    Ev prog (.call nm [.agg (x.cells a)] G) (.ret (.v (.bool x.right)) G) := by
  refine call_of_fin hf ?_
  obtain ⟨e, n, f, l, d⟩ := x
  simp only [f_leaf_right_B, LeafD.cells, LeafD.right, enter, List.length_cons, List.length_nil, List.replicate, Nat.reduceAdd, Nat.reduceSub, List.cons_append, List.nil_append] at w ⊢
  simp (disch := first | (simp only [DS, reduceCtorEq]; done) | omega) only [WS, St.guard, St.put, evalO, reduceCtorEq, reduceIte, Nat.reduceAdd, Nat.reduceEqDiff]
  rw [box_s rfl]
  simp (disch := first | (simp only [DS, reduceCtorEq]; done) | omega) only [WS, St.guard, St.put, evalO, reduceCtorEq, reduceIte, Nat.reduceAdd, Nat.reduceEqDiff, px_load_l, loadB_s, List.getElem?_cons_zero, List.getElem?_cons_succ, Option.join_some, List.drop_zero, List.drop_succ_cons, List.take_succ_cons, List.take_zero, whole, List.length_cons, List.length_nil, Nat.reduceAdd, Nat.reduceLeDiff, Nat.zero_add, and_self, and_true, c0, vBin_neq_u32]
  cases h1 : (e != 0#32) <;> simp (disch := first | (simp only [DS, reduceCtorEq]; done) | omega) only [WS, St.guard, St.put, evalO, reduceCtorEq, reduceIte, Nat.reduceAdd, Nat.reduceEqDiff, px_load_l, loadB_s, List.getElem?_cons_zero, List.getElem?_cons_succ, Option.join_some, List.drop_zero, List.drop_succ_cons, List.take_succ_cons, List.take_zero, whole, List.length_cons, List.length_nil, Nat.reduceAdd, Nat.reduceLeDiff, Nat.zero_add, and_self, and_true, (w _).lenSlice, fin_tmp, leave_v]
  · simp
  cases h2 : decide ((d.length : Int) ≥ 1) <;> simp (disch := first | (simp only [DS, reduceCtorEq]; done) | omega) only [WS, St.guard, St.put, evalO, reduceCtorEq, reduceIte, Nat.reduceAdd, Nat.reduceEqDiff, px_load_l, loadB_s, List.getElem?_cons_zero, List.getElem?_cons_succ, Option.join_some, List.drop_zero, List.drop_succ_cons, List.take_succ_cons, List.take_zero, whole, List.length_cons, List.length_nil, Nat.reduceAdd, Nat.reduceLeDiff, Nat.zero_add, and_self, and_true, (w _).lenSlice, fin_tmp, leave_v]
  · simp
  cases h3 : decide ((d.length : Int) ≤ 46) <;> simp (disch := first | (simp only [DS, reduceCtorEq]; done) | omega) only [WS, St.guard, St.put, evalO, reduceCtorEq, reduceIte, Nat.reduceAdd, Nat.reduceEqDiff, px_load_l, loadB_s, List.getElem?_cons_zero, List.getElem?_cons_succ, Option.join_some, List.drop_zero, List.drop_succ_cons, List.take_succ_cons, List.take_zero, whole, List.length_cons, List.length_nil, Nat.reduceAdd, Nat.reduceLeDiff, Nat.zero_add, and_self, and_true, (w _).lenSlice, fin_tmp, leave_v]
  · simp
  cases l <;> simp (disch := first | (simp only [DS, reduceCtorEq]; done) | omega) only [WS, St.guard, St.put, evalO, reduceCtorEq, reduceIte, Nat.reduceAdd, Nat.reduceEqDiff, px_load_l, loadB_s, List.getElem?_cons_zero, List.getElem?_cons_succ, Option.join_some, List.drop_zero, List.drop_succ_cons, List.take_succ_cons, List.take_zero, whole, List.length_cons, List.length_nil, Nat.reduceAdd, Nat.reduceLeDiff, Nat.zero_add, and_self, and_true, (w _).lenSlice, fin_tmp, leave_v]
  all_goals simp
def LeafD.flags (x : LeafD) : UInt8 := if x.l then (if x.f then 3 else 2) else (if x.f then 1 else 0)
theorem k0 : Value.int .u8 0 = u8 0 := rfl
theorem k1 : Value.int .u8 1 = u8 1 := rfl
theorem k2 : Value.int .u8 2 = u8 2 := rfl
theorem flags_spec (hf : prog "haberdash/leaf.flags" = some f_leaf_flags) {G a} {x : LeafD} :
    Ev prog (.call "haberdash/leaf.flags" [.agg (x.cells a)] G) (.ret (.v (u8 x.flags)) G) := by
  refine call_of_fin hf ?_
  obtain ⟨e, n, f, l, d⟩ := x
  simp only [f_leaf_flags_B, LeafD.cells, enter, List.length_cons, List.length_nil, List.replicate, Nat.reduceAdd, Nat.reduceSub, List.cons_append, List.nil_append]
  simp (disch := first | (simp only [DS, reduceCtorEq]; done) | omega) only [WS, St.guard, St.put, evalO, reduceCtorEq, reduceIte, Nat.reduceAdd, Nat.reduceEqDiff]
  rw [box_s rfl]
  cases f <;> cases l <;> simp (disch := first | (simp only [DS, reduceCtorEq]; done) | omega) only [WS, St.guard, St.put, evalO, reduceCtorEq, reduceIte, Nat.reduceAdd, Nat.reduceEqDiff, px_load_l, loadB_s, List.getElem?_cons_zero, List.getElem?_cons_succ, Option.join_some, List.drop_zero, List.drop_succ_cons, List.take_succ_cons, List.take_zero, whole, List.length_cons, List.length_nil, Nat.reduceAdd, Nat.reduceLeDiff, Nat.zero_add, and_self, and_true, k0, k1, k2, fin_tmp, leave_v] <;> simp <;> rfl
def LeafD.body (x : LeafD) : List UInt8 := blit ((((put4 (put4 zs64 0 x.e) 4 x.n).set 8 x.flags).set 9 (UInt8.ofNat x.d.length))) 10 x.d
def LeafD.bytes (x : LeafD) : List UInt8 := put4 (put4 x.body 56 (crcMore 0#32 (x.body.take 56))) 60 x.e
theorem body_len {x : LeafD} (h : x.d.length ≤ 46) : x.body.length = 64 := by
  unfold LeafD.body
  rw [blit_len] <;> simp [put4_len, zs64_len]
  omega
theorem bytes_len {x : LeafD} (h : x.d.length ≤ 46) : x.bytes.length = 64 := by
  unfold LeafD.bytes
  rw [put4_len, put4_len, body_len h]
theorem sl10 {h ℓ} : prim h (.sliceArr 64 1 true false false) [.ptr ℓ 64 0, .v (.int .i64 10)] = some (.own ℓ 64 10 54 1 (some 54), h) := sliceArr_lo (i := 10) (by omega) (by omega)
theorem sl56 {h ℓ} : prim h (.sliceArr 64 1 false true false) [.ptr ℓ 64 0, .v (.int .i64 56)] = some (.own ℓ 64 0 56 1 (some 64), h) := sliceArr_hi (j := 56) (by omega) (by omega)
theorem slAll {h ℓ} : prim h (.sliceArr 64 1 false false false) [.ptr ℓ 64 0] = some (.own ℓ 64 0 64 1 (some 64), h) := sliceArr_all (by omega)
structure CrcLib (prog : String → Option IFn) : Prop where
  more : prog "haberdash/crc.More" = some f_crc_More
  sum : prog "haberdash/crc.Sum" = some f_crc_Sum
  rmore : prog "haberdash/haberdashref04.More" = some f_ref04_More
  rsum : prog "haberdash/haberdashref04.Sum" = some f_ref04_Sum
structure LeafLib (prog : String → Option IFn) : Prop extends CrcLib prog where
  put : prog "haberdash/leaf.put" = some f_leaf_put
  get : prog "haberdash/leaf.get" = some f_leaf_get
  right : prog "haberdash/leaf.right" = some f_leaf_right
  flags : prog "haberdash/leaf.flags" = some f_leaf_flags
  lay : prog "haberdash/leaf.Lay" = some f_leaf_Lay
  rlay4 : prog "haberdash/haberdashref04.lay" = some f_ref04_lay
  rfour : prog "haberdash/haberdashref04.four" = some f_ref04_four
  rright : prog "haberdash/haberdashref04.RightLeaf" = some f_ref04_RightLeaf
  rlay : prog "haberdash/haberdashref04.Lay" = some f_ref04_Lay
theorem right_len {x : LeafD} (h : x.right = true) : 1 ≤ x.d.length ∧ x.d.length ≤ 46 := by
  simp only [LeafD.right, Bool.and_eq_true, decide_eq_true_eq] at h; omega
def LeafD.laid (x : LeafD) : AV := if x.right then .tup [.agg (x.bytes.map byteAV), .v (.int .i64 0)] else .tup [.agg (zs64.map byteAV), .v (.int .i64 2)]
theorem laid_lf {x : LeafD} : x.laid.lf = true := by
  unfold LeafD.laid; split <;> simp [AV.lf, AV.lf.lfs, bytes_lfs]
theorem Lay_spec (H : LeafLib prog) {G a} {x : LeafD} (w : ∀ L, View ⟨G, L⟩ a 1 x.d.length (x.d.map byteAV)) :
    Ev prog (.call "haberdash/leaf.Lay" [.agg (x.cells a)] G) (.ret x.laid G) := by
  refine call_of_fin H.lay ?_
  have ho := (w []).out
  have hr := fun (h : Hp) (hh : h.G = G) => right_any (prog := prog) H.right (G := h.into) (a := a.ren (up h.G.length)) (x := x) (by subst hh; exact (w h.L).into bytes_lfs)
  have hfl := fun (h : Hp) => flags_spec (prog := prog) H.flags (G := h.into) (a := a.ren (up h.G.length)) (x := x)
  have hlaid : x.laid = if x.right then .tup [.agg (x.bytes.map byteAV), .v (.int .i64 0)] else .tup [.agg (zs64.map byteAV), .v (.int .i64 2)] := rfl
  have hlen := right_len (x := x)
  have hbd : x.body = blit ((((put4 (put4 zs64 0 x.e) 4 x.n).set 8 x.flags).set 9 (UInt8.ofNat x.d.length))) 10 x.d := rfl
  have hby : x.bytes = put4 (put4 x.body 56 (crcMore 0#32 (x.body.take 56))) 60 x.e := rfl
  have hbl := body_len (x := x)
  have hg1 : ∀ B d, Good ⟨G, [some (sBlk (x.cells a) d), some (dBlk (zs64.map byteAV) false false), B]⟩ ↔ goodL G.length 2 [B] := fun B d => ⟨fun h => h.2.2, fun h => ⟨sBlk_good (leaf_labs ho), dBlk_good, h⟩⟩
  simp only [f_leaf_Lay_B, enter, List.length_cons, List.length_nil, List.replicate, Nat.reduceAdd, Nat.reduceSub, List.cons_append, List.nil_append]
  simp (disch := first | (simp only [DS, reduceCtorEq]; done) | omega) only [WS, St.guard, St.put, evalO, reduceCtorEq, reduceIte, Nat.reduceAdd, Nat.reduceEqDiff]
  rw [LeafD.cells, box_s rfl]
  simp (disch := first | (simp only [DS, reduceCtorEq]; done) | omega) only [WS, St.guard, St.put, evalO, reduceCtorEq, reduceIte, Nat.reduceAdd, Nat.reduceEqDiff]
  rw [alloc_zeros rfl]
  simp (disch := first | (simp only [DS, reduceCtorEq]; done) | omega) only [WS, St.guard, St.put, evalO, reduceCtorEq, reduceIte, Nat.reduceAdd, Nat.reduceEqDiff, px_load_l, loadB_s, List.getElem?_cons_zero, List.getElem?_cons_succ, Option.join_some, List.drop_zero, List.drop_succ_cons, List.take_succ_cons, List.take_zero, whole, List.length_cons, List.length_nil, Nat.reduceAdd, Nat.reduceLeDiff, Nat.zero_add, and_self, and_true]
  rw [WP_p (x := .bool x.right) (hr _ rfl) ((hg1 none _).2 trivial)]
  cases hR : x.right
  · simp (disch := first | (simp only [DS, reduceCtorEq]; done) | omega) only [WS, St.guard, St.put, evalO, reduceCtorEq, reduceIte, Nat.reduceAdd, Nat.reduceEqDiff]
    rw [build_zeros]
    simp (disch := first | (simp only [DS, reduceCtorEq]; done) | omega) only [WS, St.guard, St.put, evalO, reduceCtorEq, reduceIte, Nat.reduceAdd, Nat.reduceEqDiff]
    rw [store_all (j := 1) rfl (by simp [zs64_len]) (by simp [zs64_len]) bytes_lfs]
    simp (disch := first | (simp only [DS, reduceCtorEq]; done) | omega) only [WS, St.guard, St.put, evalO, reduceCtorEq, reduceIte, Nat.reduceAdd, Nat.reduceEqDiff]
    simp only [fin, resVals, resVal, px_load_l, List.getElem?_cons_zero, List.getElem?_cons_succ, Option.join_some, loadB_all (show (zs64.map byteAV).length = 64 by simp [zs64_len]), LS, reduceCtorEq, reduceIte, Nat.reduceAdd, packA, List.getD_cons_zero, List.getD_cons_succ]
    rw [hlaid, hR, leave_lf (by simp [AV.lf, AV.lf.lfs, bytes_lfs])]
    simp
  · have hl46 := (hlen hR).2
    have hbl := hbl hl46
    rw [hR] at hlaid
    obtain ⟨b1, hb1⟩ : ∃ b, b = put4 zs64 0 x.e := ⟨_, rfl⟩
    obtain ⟨b2, hb2⟩ : ∃ b, b = put4 b1 4 x.n := ⟨_, rfl⟩
    obtain ⟨b3, hb3⟩ : ∃ b, b = (b2.set 8 x.flags).set 9 (UInt8.ofNat x.d.length) := ⟨_, rfl⟩
    obtain ⟨b4, hb4⟩ : ∃ b, b = put4 x.body 56 (crcMore 0#32 (x.body.take 56)) := ⟨_, rfl⟩
    rw [← hb1, ← hb2, ← hb3] at hbd
    rw [← hb4] at hby
    have l1 : b1.length = 64 := by rw [hb1, put4_len, zs64_len]
    have l2 : b2.length = 64 := by rw [hb2, put4_len, l1]
    have l3 : b3.length = 64 := by rw [hb3]; simp [l2]
    have l4 : b4.length = 64 := by rw [hb4, put4_len, hbl]
    have lby : x.bytes.length = 64 := bytes_len hl46
    have hg2 : ∀ (d : Bool) (b : List UInt8), Good ⟨G, [some (sBlk (x.cells a) d), some (dBlk (zs64.map byteAV) false false), some (dBlk (b.map byteAV) false false)]⟩ := fun d b => ⟨sBlk_good (leaf_labs ho), dBlk_good, dBlk_good, trivial⟩
    simp (disch := first | (simp only [DS, reduceCtorEq]; done) | omega) only [WS, St.guard, St.put, evalO, reduceCtorEq, reduceIte, Nat.reduceAdd, Nat.reduceEqDiff]
    rw [alloc_zeros rfl]
    simp (disch := first | (simp only [DS, reduceCtorEq]; done) | omega) only [WS, St.guard, St.put, evalO, reduceCtorEq, reduceIte, Nat.reduceAdd, Nat.reduceEqDiff, px_load_l, loadB_s, List.getElem?_cons_zero, List.getElem?_cons_succ, Option.join_some, List.drop_zero, List.drop_succ_cons, List.take_succ_cons, List.take_zero, whole, List.length_cons, List.length_nil, Nat.reduceAdd, Nat.reduceLeDiff, Nat.zero_add, and_self, and_true]
    rw [WP_set (j := 2) (b := dBlk (b1.map byteAV) false false) (by rw [hb1]; exact put_spec H.put (into_data rfl rfl) zs64_len 0 (by omega) x.e) rfl rfl (hg2 _ _)]
    simp (disch := first | (simp only [DS, reduceCtorEq]; done) | omega) only [WS, St.guard, St.put, evalO, reduceCtorEq, reduceIte, Nat.reduceAdd, Nat.reduceEqDiff, px_load_l, loadB_s, List.getElem?_cons_zero, List.getElem?_cons_succ, Option.join_some, List.drop_zero, List.drop_succ_cons, List.take_succ_cons, List.take_zero, whole, List.length_cons, List.length_nil, Nat.reduceAdd, Nat.reduceLeDiff, Nat.zero_add, and_self, and_true]
    rw [WP_set (j := 2) (b := dBlk (b2.map byteAV) false false) (by rw [hb2]; exact put_spec H.put (into_data rfl rfl) l1 4 (by omega) x.n) rfl rfl (hg2 _ _)]
    simp (disch := first | (simp only [DS, reduceCtorEq]; done) | omega) only [WS, St.guard, St.put, evalO, reduceCtorEq, reduceIte, Nat.reduceAdd, Nat.reduceEqDiff, px_load_l, loadB_s, List.getElem?_cons_zero, List.getElem?_cons_succ, Option.join_some, List.drop_zero, List.drop_succ_cons, List.take_succ_cons, List.take_zero, whole, List.length_cons, List.length_nil, Nat.reduceAdd, Nat.reduceLeDiff, Nat.zero_add, and_self, and_true]
    refine WDP_r (r := .v (u8 x.flags)) (fun X _ => hfl _) rfl (hg2 _ _) ?_
    simp (disch := first | (simp only [DS, reduceCtorEq]; done) | omega) only [WS, St.guard, St.put, evalO, reduceCtorEq, reduceIte, Nat.reduceAdd, Nat.reduceEqDiff]
    rw [WDP_loadU (by simp) (by exact hg2 _ _)]
    simp (disch := first | (simp only [DS, reduceCtorEq]; done) | omega) only [WS, St.guard, St.put, evalO, reduceCtorEq, reduceIte, Nat.reduceAdd, Nat.reduceEqDiff, px_load_l, loadB_s, List.getElem?_cons_zero, List.getElem?_cons_succ, Option.join_some, List.drop_zero, List.drop_succ_cons, List.take_succ_cons, List.take_zero, whole, List.length_cons, List.length_nil, Nat.reduceAdd, Nat.reduceLeDiff, Nat.zero_add, and_self, and_true, (w _).lenSlice, px_indexArr, natOf_int, Int.reduceLE, Int.reduceToNat, Option.bind_some, Nat.reduceLT, Nat.reduceMul, Nat.reduceAdd, Nat.zero_add, Nat.mul_one, Nat.reduceLeDiff, and_self, and_true]
    refine WDP_turn (store_byte (j := 2) rfl l2 (by omega)) (by exact rfl) (by exact rfl) (by exact rfl) ?_
    simp (disch := first | (simp only [DS, reduceCtorEq]; done) | omega) only [WS, St.guard, St.put, evalO, reduceCtorEq, reduceIte, Nat.reduceAdd, Nat.reduceEqDiff, px_indexArr, natOf_int, Int.reduceLE, Int.reduceToNat, Option.bind_some, Nat.reduceLT, Nat.reduceMul, Nat.reduceAdd, Nat.zero_add, Nat.mul_one, Nat.reduceLeDiff, and_self, and_true]
    refine WDP_turn (store_byte (j := 2) rfl (by rw [List.length_set, l2]) (by omega)) (by exact rfl) (by exact rfl) (by exact rfl) ?_
    rw [← hb3]
    simp (disch := first | (simp only [DS, reduceCtorEq]; done) | omega) only [WS, St.guard, St.put, evalO, reduceCtorEq, reduceIte, Nat.reduceAdd, Nat.reduceEqDiff, px_load_l, loadB_s, List.getElem?_cons_zero, List.getElem?_cons_succ, Option.join_some, List.drop_zero, List.drop_succ_cons, List.take_succ_cons, List.take_zero, whole, List.length_cons, List.length_nil, Nat.reduceAdd, Nat.reduceLeDiff, Nat.zero_add, and_self, and_true, sl10]
    refine WDP_turn (copy_own (j := 2) rfl l3 (by omega) (w _) (by omega)) (by exact rfl) (by exact rfl) (by exact rfl) ?_
    rw [← hbd]
    simp (disch := first | (simp only [DS, reduceCtorEq]; done) | omega) only [WS, St.guard, St.put, evalO, reduceCtorEq, reduceIte, Nat.reduceAdd, Nat.reduceEqDiff, px_load_l, loadB_s, List.getElem?_cons_zero, List.getElem?_cons_succ, Option.join_some, List.drop_zero, List.drop_succ_cons, List.take_succ_cons, List.take_zero, whole, List.length_cons, List.length_nil, Nat.reduceAdd, Nat.reduceLeDiff, Nat.zero_add, and_self, and_true, sl56]
    have pv : View ⟨G, [some (sBlk (x.cells a) (AV.lf.lfs (x.cells a))), some (dBlk (zs64.map byteAV) false false), some (dBlk (x.body.map byteAV) false false)]⟩ (.own (.l 2) 64 0 56 1 (some 64)) 1 ((x.body.drop 0).take 56).length (((x.body.drop 0).take 56).map byteAV) := by
      have := piece_view (G := G) (L := [some (sBlk (x.cells a) (AV.lf.lfs (x.cells a))), some (dBlk (zs64.map byteAV) false false), some (dBlk (x.body.map byteAV) false false)]) (ℓ := .l 2) (off := 0) (len := 56) (cap := some 64) rfl hbl (by omega) (by simp)
      rwa [show ((x.body.drop 0).take 56).length = 56 by simp [hbl]]
    rw [WP_p (x := u32 (crcMore 0#32 (x.body.take 56))) (Sum_spec H.more H.sum (pv.into bytes_lfs) (by simp [hbl])) (hg2 _ _)]
    simp (disch := first | (simp only [DS, reduceCtorEq]; done) | omega) only [WS, St.guard, St.put, evalO, reduceCtorEq, reduceIte, Nat.reduceAdd, Nat.reduceEqDiff]
    rw [WP_set (j := 2) (b := dBlk (b4.map byteAV) false false) (by rw [hb4]; exact put_spec H.put (into_data rfl rfl) hbl 56 (by omega) _) rfl rfl (hg2 _ _)]
    simp (disch := first | (simp only [DS, reduceCtorEq]; done) | omega) only [WS, St.guard, St.put, evalO, reduceCtorEq, reduceIte, Nat.reduceAdd, Nat.reduceEqDiff, px_load_l, loadB_s, List.getElem?_cons_zero, List.getElem?_cons_succ, Option.join_some, List.drop_zero, List.drop_succ_cons, List.take_succ_cons, List.take_zero, whole, List.length_cons, List.length_nil, Nat.reduceAdd, Nat.reduceLeDiff, Nat.zero_add, and_self, and_true]
    rw [WP_set (j := 2) (b := dBlk (x.bytes.map byteAV) false false) (by rw [hby]; exact put_spec H.put (into_data rfl rfl) l4 60 (by omega) x.e) rfl rfl (hg2 _ _)]
    have lbm : (x.bytes.map byteAV).length = 64 := by simp [lby]
    simp (disch := first | (simp only [DS, reduceCtorEq]; done) | omega) only [WS, St.guard, St.put, evalO, reduceCtorEq, reduceIte, Nat.reduceAdd, Nat.reduceEqDiff, px_load_l, List.getElem?_cons_zero, List.getElem?_cons_succ, Option.join_some, loadB_all lbm]
    rw [store_all (j := 1) rfl (by simp [zs64_len]) lbm bytes_lfs]
    simp (disch := first | (simp only [DS, reduceCtorEq]; done) | omega) only [WS, St.guard, St.put, evalO, reduceCtorEq, reduceIte, Nat.reduceAdd, Nat.reduceEqDiff]
    simp only [fin, resVals, resVal, px_load_l, List.getElem?_cons_zero, List.getElem?_cons_succ, Option.join_some, loadB_all lbm, LS, reduceCtorEq, reduceIte, Nat.reduceAdd, packA]
    rw [hlaid, leave_lf (by simp [AV.lf, AV.lf.lfs, bytes_lfs])]
    simp
end Go.AM
