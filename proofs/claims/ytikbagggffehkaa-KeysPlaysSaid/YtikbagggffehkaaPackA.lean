import Derived.Test.YtikbagggffehkaaAMA
import Derived.Test.YtikbagggffehkaaCrc
import Derived.Test.YtikbagggffehkaaLeafA
import Derived.Test.YtikbagggffehkaaHelp
import Derived.Test.YtikbagggffehkaaScopeA
import Derived.Test.YtikbagggffehkaaSortA
import Derived.Test.YtikbagggffehkaaGoodsA
import Derived.Test.YtikbagggffehkaaLeafC
import Derived.Test.YtikbagggffehkaaLawGoods
set_option linter.unusedVariables false
set_option linter.unusedSimpArgs false
namespace Go.AM
def f___pack_Writer__Num_L0 : ICode :=
 (.seq
 (.seq
 (.ops [ iP 8 .id [.t 1], iP 9 (.bin .geq) [.t 8, kI 128]])
 (.cond (.t 9)
 .skip
 (.exit 0)))
 (.seq
 (.block 1
 (.ops [ iP 12 .id [.t 0], iP 13 .id [.t 0], iP 14 .nilCheck [.t 13], iP 15 (.fieldAddr 0) [.t 14], iP 16 (.load 1 false) [.t 15], iP 17 .id [.t 1], iP 18 (.bin .and) [.t 17, kI 127], iP 19 (.convInt .u8) [.t 18], iP 20 (.bin .or) [.t 19, .c (.int .u8 128)], iP 21 (.buildSlice 0 false 1 1 [(.int .u8 0)] [(0, 1)]) [.t 20], iP 22 (.append 1 false 1 1) [.t 16, .t 21], iP 23 .nilCheck [.t 12], iP 24 (.fieldAddr 0) [.t 23], iN (.store 1 false) [.t 24, .t 22]]))
 (.ops [ iP 10 .id [.t 1], iP 11 (.bin .shr) [.t 10, .c (.int .u64 7)], iP 1 .id [.t 11]])))
def f___pack_Writer__Num_B : ICode :=
 (.seq
 (.seq
 (.ops [ iP 4 .id [.t 0], iP 5 (.eqNil false .ptr) [.t 4, .c (.pointer none)]])
 (.cond (.t 5)
 .ret
 .skip))
 (.seq
 (.ops [ iP 6 .id [.t 1], iP 7 .max [.t 6, kI 0], iP 1 .id [.t 7]])
 (.seq
 (.block 0
 (.loop [2, 3, 4, 5, 6, 7, 8, 9, 10, 11, 12, 13, 14, 15, 16, 17, 18, 19, 20, 21, 22, 23, 24, 25, 26, 27, 28, 29, 30, 31, 32, 33, 34, 35] [0, 1] f___pack_Writer__Num_L0))
 (.ops [ iP 25 .id [.t 0], iP 26 .id [.t 0], iP 27 .nilCheck [.t 26], iP 28 (.fieldAddr 0) [.t 27], iP 29 (.load 1 false) [.t 28], iP 30 .id [.t 1], iP 31 (.convInt .u8) [.t 30], iP 32 (.buildSlice 2 false 1 1 [(.int .u8 0)] [(0, 1)]) [.t 31], iP 33 (.append 3 false 1 1) [.t 29, .t 32], iP 34 .nilCheck [.t 25], iP 35 (.fieldAddr 0) [.t 34], iN (.store 1 false) [.t 35, .t 33]]))))
def f___pack_Writer__Num : IFn := ⟨36, 4, [], f___pack_Writer__Num_B⟩
def f___pack_Writer__Text_B : ICode :=
 (.seq
 (.seq
 (.ops [ iP 4 .id [.t 0], iP 5 (.eqNil false .ptr) [.t 4, .c (.pointer none)]])
 (.cond (.t 5)
 .ret
 .skip))
 (.seq
 (.ops [ iP 6 .id [.t 0], iP 7 .id [.t 1], iP 8 .lenStr [.t 7], iP 9 (.call "(*haberdash/pack.Writer).Num" []) [.t 6, .t 8]])
 (.ops [ iP 10 .id [.t 0], iP 11 .id [.t 0], iP 12 .nilCheck [.t 11], iP 13 (.fieldAddr 0) [.t 12], iP 14 (.load 1 false) [.t 13], iP 15 .id [.t 1], iP 16 (.append 0 false 1 1) [.t 14, .t 15], iP 17 .nilCheck [.t 10], iP 18 (.fieldAddr 0) [.t 17], iN (.store 1 false) [.t 18, .t 16]])))
def f___pack_Writer__Text : IFn := ⟨19, 1, [], f___pack_Writer__Text_B⟩
def f___pack_Writer__Flag_B : ICode :=
 (.seq
 (.ops [ iP 4 .id [.t 1]])
 (.cond (.t 4)
 (.ops [ iP 5 .id [.t 0], iP 6 (.call "(*haberdash/pack.Writer).Num" []) [.t 5, kI 1]])
 (.ops [ iP 7 .id [.t 0], iP 8 (.call "(*haberdash/pack.Writer).Num" []) [.t 7, kI 0]])))
def f___pack_Writer__Flag : IFn := ⟨9, 0, [], f___pack_Writer__Flag_B⟩
def f___pack_Writer__Bytes_B : ICode :=
 (.seq
 (.ops [ iP 2 .id [.c (.slice none 0 0)]])
 (.seq
 (.seq
 (.ops [ iP 3 .id [.t 0], iP 4 (.eqNil false .ptr) [.t 3, .c (.pointer none)]])
 (.cond (.t 4)
 (.seq
 (.ops [ iP 2 .id [.c (.slice none 0 0)]])
 .ret)
 .skip))
 (.seq
 (.ops [ iP 5 .id [.t 0], iP 6 .nilCheck [.t 5], iP 7 (.fieldAddr 0) [.t 6], iP 8 (.load 1 false) [.t 7], iP 9 (.call "slices.Clone[[]byte,byte]" [0]) [.t 8], iP 2 .id [.t 9]])
 .ret)))
def f___pack_Writer__Bytes : IFn := ⟨10, 1, [.tmp 2], f___pack_Writer__Bytes_B⟩
def f_pack_Read_B : ICode :=
 (.seq
 (.ops [ iP 2 .id [.c (.pointer none)]])
 (.seq
 (.ops [ iP 3 .id [.t 0], iP 4 (.call "slices.Clone[[]byte,byte]" [0]) [.t 3], iP 5 (.build [(.slice none 0 0), (.int .i64 0)] [(0, 1)]) [.t 4], iP 6 (.box 1) [.t 5], iP 2 .id [.t 6]])
 .ret))
def f_pack_Read : IFn := ⟨7, 2, [.tmp 2], f_pack_Read_B⟩
def f___pack_Reader__Num_L0 : ICode :=
 (.seq
 (.ops [ iP 49 (.bin .lss) [.t 48, .t 47]])
 (.seq
 (.cond (.t 49)
 .skip
 (.exit 1))
 (.seq
 (.block 2
 (.seq
 (.ops [ iP 50 .id [.t 48], iP 51 (.indexAddr 1) [.t 46, .t 48], iP 52 (.load 1 false) [.t 51], iP 9 .id [.t 50], iP 10 .id [.t 52]])
 (.ops [ iP 53 .id [.t 8], iP 54 .id [.t 10], iP 55 (.bin .and) [.t 54, .c (.int .u8 127)], iP 56 (.convInt .i64) [.t 55], iP 57 .id [.t 9], iP 58 (.bin .mul) [kI 7, .t 57], iP 59 (.bin .shl) [.t 56, .t 58], iP 60 (.bin .or) [.t 53, .t 59], iP 8 .id [.t 60]])))
 (.ops [ iP 61 (.bin .add) [.t 48, kI 1], iP 48 .id [.t 61]]))))
def f___pack_Reader__Num_B : ICode :=
 (.seq
 (.ops [ iP 6 .id [kI 0]])
 (.seq
 (.seq
 (.ops [ iP 11 .id [.t 0], iP 12 (.call "(*haberdash/pack.Reader).Err" []) [.t 11], iP 13 (.bin .neq) [.t 12, kI 0]])
 (.cond (.t 13)
 (.seq
 (.ops [ iP 6 .id [kI 0]])
 .ret)
 .skip))
 (.seq
 (.ops [ iP 14 .id [.t 0], iP 15 (.call "(*haberdash/pack.Reader).length" []) [.t 14], iP 7 .id [.t 15]])
 (.seq
 (.block 0
 (.seq
 (.ops [ iP 17 .id [.t 7], iP 18 (.bin .lss) [.t 17, kI 0], iP 16 .id [.t 18]])
 (.cond (.t 16)
 (.seq
 (.ops [ iP 19 .id [.t 0], iP 20 (.call "(*haberdash/pack.Reader).fail" []) [.t 19, kI 3], iP 6 .id [.t 20]])
 .ret)
 (.seq
 (.ops [ iP 22 .id [.t 7], iP 23 (.bin .eql) [.t 22, kI 0], iP 24 .id [.t 23], iG 24 false 25 .id [.t 7], iG 24 false 26 (.bin .gtr) [.t 25, kI 1], iG 24 false 27 .id [.t 26], iG 27 true 28 .id [.t 0], iG 27 true 29 .nilCheck [.t 28], iG 27 true 30 (.fieldAddr 0) [.t 29], iG 27 true 31 (.load 1 false) [.t 30], iG 27 true 32 .id [.t 7], iG 27 true 33 (.bin .sub) [.t 32, kI 1], iG 27 true 34 (.indexAddr 1) [.t 31, .t 33], iG 27 true 35 (.load 1 false) [.t 34], iG 27 true 36 (.bin .eql) [.t 35, .c (.int .u8 0)], iG 24 false 37 .pick [.t 27, .t 36, .c (.bool false)], iP 38 .pick [.t 24, .c (.bool true), .t 37], iP 21 .id [.t 38]])
 (.cond (.t 21)
 (.seq
 (.ops [ iP 39 .id [.t 0], iP 40 (.call "(*haberdash/pack.Reader).fail" []) [.t 39, kI 4], iP 6 .id [.t 40]])
 .ret)
 .skip)))))
 (.seq
 (.ops [ iP 8 .id [kI 0]])
 (.seq
 (.seq
 (.ops [ iP 41 .id [.t 0], iP 42 .nilCheck [.t 41], iP 43 (.fieldAddr 0) [.t 42], iP 44 (.load 1 false) [.t 43], iP 45 .id [.t 7], iP 46 (.slice 1 false true false) [.t 44, .t 45], iP 47 .lenSlice [.t 46], iP 48 .id [kI 0]])
 (.block 1
 (.loop [3, 4, 5, 6, 9, 10, 11, 12, 13, 14, 15, 16, 17, 18, 19, 20, 21, 22, 23, 24, 25, 26, 27, 28, 29, 30, 31, 32, 33, 34, 35, 36, 37, 38, 39, 40, 41, 42, 43, 44, 45, 49, 50, 51, 52, 53, 54, 55, 56, 57, 58, 59, 60, 61, 62, 63, 64, 65, 66, 67, 68, 69, 70, 71, 72, 73, 74, 75, 76, 77, 78, 79, 80, 81] [] f___pack_Reader__Num_L0)))
 (.seq
 (.seq
 (.ops [ iP 62 .id [.t 8], iP 63 .id [.t 1], iP 64 (.bin .lss) [.t 62, .t 63], iP 65 .id [.t 64], iG 65 false 66 .id [.t 8], iG 65 false 67 .id [.t 2], iG 65 false 68 (.bin .gtr) [.t 66, .t 67], iP 69 .pick [.t 65, .c (.bool true), .t 68]])
 (.cond (.t 69)
 (.seq
 (.ops [ iP 70 .id [.t 0], iP 71 (.call "(*haberdash/pack.Reader).fail" []) [.t 70, kI 4], iP 6 .id [.t 71]])
 .ret)
 .skip))
 (.seq
 (.ops [ iP 72 .id [.t 0], iP 73 .id [.t 0], iP 74 .nilCheck [.t 73], iP 75 (.fieldAddr 0) [.t 74], iP 76 (.load 1 false) [.t 75], iP 77 .id [.t 7], iP 78 (.slice 1 true false false) [.t 76, .t 77], iP 79 .nilCheck [.t 72], iP 80 (.fieldAddr 0) [.t 79], iN (.store 1 false) [.t 80, .t 78]])
 (.seq
 (.ops [ iP 81 .id [.t 8], iP 6 .id [.t 81]])
 .ret)))))))))
def f___pack_Reader__Num : IFn := ⟨82, 0, [.tmp 6], f___pack_Reader__Num_B⟩
def f___pack_Reader__Text_B : ICode :=
 (.seq
 (.ops [ iP 4 .id [.c (.string ⟨#[]⟩)]])
 (.seq
 (.ops [ iP 5 .id [.t 0], iP 6 .id [.t 1], iP 7 .id [.t 0], iP 8 (.makeFunc "(*haberdash/pack.Reader).Num" 1) [.t 7], iP 9 (.call "(*haberdash/pack.Reader).text" []) [.t 5, .t 6, .t 8], iP 4 .id [.t 9]])
 .ret))
def f___pack_Reader__Text : IFn := ⟨10, 0, [.tmp 4], f___pack_Reader__Text_B⟩
def f___pack_Reader__Flag_B : ICode :=
 (.seq
 (.ops [ iP 2 .id [.c (.bool false)]])
 (.seq
 (.ops [ iP 3 .id [.t 0], iP 4 (.call "(*haberdash/pack.Reader).Num" []) [.t 3, kI 0, kI 1], iP 5 (.bin .eql) [.t 4, kI 1], iP 2 .id [.t 5]])
 .ret))
def f___pack_Reader__Flag : IFn := ⟨6, 0, [.tmp 2], f___pack_Reader__Flag_B⟩
def f___pack_Reader__Err_B : ICode :=
 (.seq
 (.ops [ iP 2 .id [kI 0]])
 (.seq
 (.seq
 (.ops [ iP 3 .id [.t 0], iP 4 (.eqNil false .ptr) [.t 3, .c (.pointer none)]])
 (.cond (.t 4)
 (.seq
 (.ops [ iP 2 .id [kI 1]])
 .ret)
 .skip))
 (.seq
 (.ops [ iP 5 .id [.t 0], iP 6 .nilCheck [.t 5], iP 7 (.fieldAddr 1) [.t 6], iP 8 (.load 1 false) [.t 7], iP 2 .id [.t 8]])
 .ret)))
def f___pack_Reader__Err : IFn := ⟨9, 0, [.tmp 2], f___pack_Reader__Err_B⟩
def f___pack_Reader__End_B : ICode :=
 (.seq
 (.ops [ iP 2 .id [kI 0]])
 (.seq
 (.seq
 (.ops [ iP 4 .id [.t 0], iP 5 (.call "(*haberdash/pack.Reader).Err" []) [.t 4], iP 3 .id [.t 5]])
 (.seq
 (.ops [ iP 6 .id [.t 3], iP 7 (.bin .neq) [.t 6, kI 0]])
 (.cond (.t 7)
 (.seq
 (.ops [ iP 8 .id [.t 3], iP 2 .id [.t 8]])
 .ret)
 .skip)))
 (.seq
 (.seq
 (.ops [ iP 9 .id [.t 0], iP 10 .nilCheck [.t 9], iP 11 (.fieldAddr 0) [.t 10], iP 12 (.load 1 false) [.t 11], iP 13 .lenSlice [.t 12], iP 14 (.bin .gtr) [.t 13, kI 0]])
 (.cond (.t 14)
 (.seq
 (.ops [ iP 2 .id [kI 4]])
 .ret)
 .skip))
 (.seq
 (.ops [ iP 2 .id [kI 0]])
 .ret))))
def f___pack_Reader__End : IFn := ⟨15, 0, [.tmp 2], f___pack_Reader__End_B⟩
def f_ref04_Num_L0 : ICode :=
 (.seq
 (.seq
 (.ops [ iP 6 .id [.t 0], iP 7 (.bin .geq) [.t 6, kI 128]])
 (.cond (.t 7)
 .skip
 (.exit 0)))
 (.block 1
 (.seq
 (.ops [ iP 8 .id [.t 3], iP 9 .id [.t 0], iP 10 (.bin .rem) [.t 9, kI 128], iP 11 (.convInt .u8) [.t 10], iP 12 (.bin .add) [.t 11, .c (.int .u8 128)], iP 13 (.buildSlice 1 false 1 1 [(.int .u8 0)] [(0, 1)]) [.t 12], iP 14 (.append 2 false 1 1) [.t 8, .t 13], iP 3 .id [.t 14]])
 (.ops [ iP 15 .id [.t 0], iP 16 (.bin .quo) [.t 15, kI 128], iP 0 .id [.t 16]]))))
def f_ref04_Num_B : ICode :=
 (.seq
 (.ops [ iP 2 .id [.c (.slice none 0 0)]])
 (.seq
 (.ops [ iP 4 .id [.t 0], iP 5 .max [.t 4, kI 0], iP 0 .id [.t 5]])
 (.seq
 (.ops [ iP 3 (.nilv 0 1) [.c (.slice none 0 0)]])
 (.seq
 (.block 0
 (.loop [1, 2, 4, 5, 6, 7, 8, 9, 10, 11, 12, 13, 14, 15, 16, 17, 18, 19, 20, 21] [1, 2] f_ref04_Num_L0))
 (.seq
 (.ops [ iP 17 .id [.t 3], iP 18 .id [.t 0], iP 19 (.convInt .u8) [.t 18], iP 20 (.buildSlice 3 false 1 1 [(.int .u8 0)] [(0, 1)]) [.t 19], iP 21 (.append 4 false 1 1) [.t 17, .t 20], iP 2 .id [.t 21]])
 .ret)))))
def f_ref04_Num : IFn := ⟨22, 5, [.tmp 2], f_ref04_Num_B⟩
def f_ref04_Text_B : ICode :=
 (.seq
 (.ops [ iP 2 .id [.c (.slice none 0 0)]])
 (.seq
 (.ops [ iP 3 .id [.t 0], iP 4 .lenStr [.t 3], iP 5 (.call "haberdash/haberdashref04.Num" [0]) [.t 4], iP 6 .id [.t 0], iP 7 (.append 1 false 1 1) [.t 5, .t 6], iP 2 .id [.t 7]])
 .ret))
def f_ref04_Text : IFn := ⟨8, 2, [.tmp 2], f_ref04_Text_B⟩
def f_slices_Clone___byte_byte__B : ICode :=
 (.seq
 (.ops [ iP 2 .id [.c (.slice none 0 0)]])
 (.seq
 (.seq
 (.ops [ iP 3 .id [.t 0], iP 4 (.eqNil false .slice) [.t 3, .c (.slice none 0 0)]])
 (.cond (.t 4)
 (.seq
 (.ops [ iP 2 .id [.c (.slice none 0 0)]])
 .ret)
 .skip))
 (.seq
 (.ops [ iP 5 (.buildSlice 0 false 1 0 [(.int .u8 0)] []) [], iP 6 .id [.t 0], iP 7 (.append 1 false 1 1) [.t 5, .t 6], iP 2 .id [.t 7]])
 .ret)))
def f_slices_Clone___byte_byte_ : IFn := ⟨8, 2, [.tmp 2], f_slices_Clone___byte_byte__B⟩
def f_ref04_Flag_B : ICode :=
 (.seq
 (.ops [ iP 2 .id [.c (.slice none 0 0)]])
 (.seq
 (.seq
 (.ops [ iP 3 .id [.t 0]])
 (.cond (.t 3)
 (.seq
 (.ops [ iP 4 (.call "haberdash/haberdashref04.Num" [0]) [kI 1], iP 2 .id [.t 4]])
 .ret)
 .skip))
 (.seq
 (.ops [ iP 5 (.call "haberdash/haberdashref04.Num" [1]) [kI 0], iP 2 .id [.t 5]])
 .ret)))
def f_ref04_Flag : IFn := ⟨6, 2, [.tmp 2], f_ref04_Flag_B⟩
def f___pack_Reader__length_L0 : ICode :=
 (.seq
 (.ops [ iP 11 (.bin .lss) [.t 10, .t 9]])
 (.seq
 (.cond (.t 11)
 .skip
 (.exit 0))
 (.seq
 (.block 1
 (.seq
 (.ops [ iP 12 .id [.t 10], iP 13 (.indexAddr 1) [.t 8, .t 10], iP 14 (.load 1 false) [.t 13], iP 3 .id [.t 12], iP 4 .id [.t 14]])
 (.seq
 (.seq
 (.ops [ iP 15 .id [.t 4], iP 16 (.bin .lss) [.t 15, .c (.int .u8 128)]])
 (.cond (.t 16)
 (.seq
 (.ops [ iP 17 .id [.t 3], iP 18 (.bin .add) [.t 17, kI 1], iP 2 .id [.t 18]])
 .ret)
 .skip))
 (.seq
 (.ops [ iP 19 .id [.t 3], iP 20 (.bin .eql) [.t 19, kI 8]])
 (.cond (.t 20)
 (.seq
 (.ops [ iP 2 .id [kI 0]])
 .ret)
 .skip)))))
 (.ops [ iP 21 (.bin .add) [.t 10, kI 1], iP 10 .id [.t 21]]))))
def f___pack_Reader__length_B : ICode :=
 (.seq
 (.ops [ iP 2 .id [kI 0]])
 (.seq
 (.seq
 (.ops [ iP 5 .id [.t 0], iP 6 .nilCheck [.t 5], iP 7 (.fieldAddr 0) [.t 6], iP 8 (.load 1 false) [.t 7], iP 9 .lenSlice [.t 8], iP 10 .id [kI 0]])
 (.block 0
 (.loop [0, 1, 2, 3, 4, 5, 6, 7, 11, 12, 13, 14, 15, 16, 17, 18, 19, 20, 21] [] f___pack_Reader__length_L0)))
 (.seq
 (.ops [ iP 2 .id [kI (-1)]])
 .ret)))
def f___pack_Reader__length : IFn := ⟨22, 0, [.tmp 2], f___pack_Reader__length_B⟩
def f___pack_Reader__fail_B : ICode :=
 (.seq
 (.ops [ iP 4 .id [kI 0]])
 (.seq
 (.ops [ iP 5 .id [.t 0], iP 6 .id [.t 1], iP 7 .nilCheck [.t 5], iP 8 (.fieldAddr 1) [.t 7], iN (.store 1 false) [.t 8, .t 6]])
 (.seq
 (.ops [ iP 4 .id [kI 0]])
 .ret)))
def f___pack_Reader__fail : IFn := ⟨9, 0, [.tmp 4], f___pack_Reader__fail_B⟩
def f___pack_Reader__text_B : ICode :=
 (.seq
 (.ops [ iP 6 .id [.c (.string ⟨#[]⟩)]])
 (.seq
 (.ops [ iP 9 .id [.t 2], iP 10 .id [.t 1], iP 11 (.callV []) [.t 9, kI 0, .t 10], iP 7 .id [.t 11]])
 (.seq
 (.seq
 (.ops [ iP 12 .id [.t 0], iP 13 (.call "(*haberdash/pack.Reader).Err" []) [.t 12], iP 14 (.bin .neq) [.t 13, kI 0]])
 (.cond (.t 14)
 (.seq
 (.ops [ iP 6 .id [.c (.string ⟨#[]⟩)]])
 .ret)
 .skip))
 (.seq
 (.seq
 (.ops [ iP 15 .id [.t 7], iP 16 .id [.t 0], iP 17 .nilCheck [.t 16], iP 18 (.fieldAddr 0) [.t 17], iP 19 (.load 1 false) [.t 18], iP 20 .lenSlice [.t 19], iP 21 (.bin .gtr) [.t 15, .t 20]])
 (.cond (.t 21)
 (.seq
 (.ops [ iP 22 .id [.t 0], iP 23 (.call "(*haberdash/pack.Reader).fail" []) [.t 22, kI 3]])
 (.seq
 (.ops [ iP 6 .id [.c (.string ⟨#[]⟩)]])
 .ret))
 .skip))
 (.seq
 (.ops [ iP 24 .id [.t 0], iP 25 .nilCheck [.t 24], iP 26 (.fieldAddr 0) [.t 25], iP 27 (.load 1 false) [.t 26], iP 28 .id [.t 7], iP 29 (.slice 1 false true false) [.t 27, .t 28], iP 30 .bytesStr [.t 29], iP 8 .id [.t 30]])
 (.seq
 (.ops [ iP 31 .id [.t 0], iP 32 .id [.t 0], iP 33 .nilCheck [.t 32], iP 34 (.fieldAddr 0) [.t 33], iP 35 (.load 1 false) [.t 34], iP 36 .id [.t 7], iP 37 (.slice 1 true false false) [.t 35, .t 36], iP 38 .nilCheck [.t 31], iP 39 (.fieldAddr 0) [.t 38], iN (.store 1 false) [.t 39, .t 37]])
 (.seq
 (.ops [ iP 40 .id [.t 8], iP 6 .id [.t 40]])
 .ret)))))))
def f___pack_Reader__text : IFn := ⟨41, 0, [.tmp 6], f___pack_Reader__text_B⟩
end Go.AM
namespace Go.AM
variable {prog : String → Option IFn}
structure PackLib (prog : String → Option IFn) : Prop where
  rnum : prog "haberdash/haberdashref04.Num" = some f_ref04_Num
  rtext : prog "haberdash/haberdashref04.Text" = some f_ref04_Text
  rflag : prog "haberdash/haberdashref04.Flag" = some f_ref04_Flag
  wnum : prog "(*haberdash/pack.Writer).Num" = some f___pack_Writer__Num
  wtext : prog "(*haberdash/pack.Writer).Text" = some f___pack_Writer__Text
  wflag : prog "(*haberdash/pack.Writer).Flag" = some f___pack_Writer__Flag
  wbytes : prog "(*haberdash/pack.Writer).Bytes" = some f___pack_Writer__Bytes
  clone : prog "slices.Clone[[]byte,byte]" = some f_slices_Clone___byte_byte_
  read : prog "haberdash/pack.Read" = some f_pack_Read
  rdnum : prog "(*haberdash/pack.Reader).Num" = some f___pack_Reader__Num
  rdtext : prog "(*haberdash/pack.Reader).Text" = some f___pack_Reader__Text
  rdflag : prog "(*haberdash/pack.Reader).Flag" = some f___pack_Reader__Flag
  rderr : prog "(*haberdash/pack.Reader).Err" = some f___pack_Reader__Err
  rdend : prog "(*haberdash/pack.Reader).End" = some f___pack_Reader__End
  rdlen : prog "(*haberdash/pack.Reader).length" = some f___pack_Reader__length
  rdfail : prog "(*haberdash/pack.Reader).fail" = some f___pack_Reader__fail
  rdtxt : prog "(*haberdash/pack.Reader).text" = some f___pack_Reader__text
variable {G : List (Option Blk)} {p q : Nat} {bs : Txt}
end Go.AM
namespace Go.AM
variable {prog : String → Option IFn}
theorem CloneC {nm} (hf : prog nm = some f_bytes_Clone) {G a} {bs : Txt} (w : ∀ L, View ⟨G, L⟩ a 1 bs.length (bs.map byteAV)) (hn : ∀ L, (⟨G, L⟩ : Hp).isNil .slice a = some false) (h0 : 0 < bs.length) (hr : bs.length ≤ room) :
    Ev prog (.call nm [a] G) (.ret (.own (.o G.length) bs.length 0 bs.length 1 none) (G ++ [some (dBlk (bs.map byteAV) true false)])) := by
  refine call_of_fin hf ?_
  simp only [f_bytes_Clone_B, enter, List.length_cons, List.length_nil, List.replicate, Nat.reduceAdd, Nat.reduceSub, List.cons_append, List.nil_append]
  simp (disch := first | (simp only [DS, reduceCtorEq]; done) | omega) only [WS, St.guard, St.put, evalO, reduceCtorEq, reduceIte, Nat.reduceAdd, Nat.reduceEqDiff, isNilV, hn]
  rw [build0 rfl]
  simp (disch := first | (simp only [DS, reduceCtorEq]; done) | omega) only [WS, St.guard, St.put, evalO, reduceCtorEq, reduceIte, Nat.reduceAdd, Nat.reduceEqDiff]
  rw [append_cap0 (j := 0) (site := 1) rfl rfl (w _) bytes_lfs h0 (by omega)]
  simp (disch := first | (simp only [DS, reduceCtorEq]; done) | omega) only [WS, St.guard, St.put, evalO, reduceCtorEq, reduceIte, Nat.reduceAdd, Nat.reduceEqDiff, fin_tmp]
  exact ⟨by simp, leave_own1 (j := 1) rfl rfl⟩
theorem CloneNil {nm} (hf : prog nm = some f_bytes_Clone) {G a} (hn : ∀ L, (⟨G, L⟩ : Hp).isNil .slice a = some true) :
    Ev prog (.call nm [a] G) (.ret (.v (.slice none 0 0)) G) := by
  refine call_of_fin hf ?_
  simp only [f_bytes_Clone_B, enter, List.length_cons, List.length_nil, List.replicate, Nat.reduceAdd, Nat.reduceSub, List.cons_append, List.nil_append]
  simp (disch := first | (simp only [DS, reduceCtorEq]; done) | omega) only [WS, St.guard, St.put, evalO, reduceCtorEq, reduceIte, Nat.reduceAdd, Nat.reduceEqDiff, isNilV, hn, fin_tmp, leave_v]
  simp
end Go.AM
