import Derived.Test.YtdcnjckkcfoppaaAMA
import Derived.Test.YtdcnjckkcfoppaaCrc
import Derived.Test.YtdcnjckkcfoppaaLeafA
import Derived.Test.YtdcnjckkcfoppaaHelp
import Derived.Test.YtdcnjckkcfoppaaScopeA
import Derived.Test.YtdcnjckkcfoppaaSortA
import Derived.Test.YtdcnjckkcfoppaaPackA
import Derived.Test.YtdcnjckkcfoppaaLawGoodsB
import Derived.Test.YtdcnjckkcfoppaaPackC
set_option linter.unusedVariables false
set_option linter.unusedSimpArgs false
namespace Go.AM
def f_law06_awake_B : ICode :=
 (.seq
 (.ops [ iP 0 .id [.c (.bool false)]])
 (.seq
 (.ops [ iP 7 (.call "haberdash/disk.New" [0, 1, 2, 3]) [kI 2], iP 6 .id [.t 7], iP 8 (.extract 0) [.t 6], iP 9 (.extract 1) [.t 6], iP 1 .id [.t 8], iP 2 .id [.t 9]])
 (.seq
 (.ops [ iP 10 .id [.t 1], iP 11 (.call "haberdash/haberdashlaw06.full" []) [.c (.int .u8 1)], iP 12 (.call "(*haberdash/disk.Disk).Write" []) [.t 10, kI 0, .t 11], iP 3 .id [.t 12]])
 (.seq
 (.ops [ iP 13 .id [.t 1], iP 14 (.buildSlice 4 false 1 1 [(.int .i64 0)] [(0, 1)]) [kI 3], iP 15 (.call "(*haberdash/disk.Disk).Crash" []) [.t 13, .t 14]])
 (.seq
 (.ops [ iP 16 .id [.t 1], iP 17 (.call "(*haberdash/disk.Disk).Start" []) [.t 16]])
 (.seq
 (.ops [ iP 19 .id [.t 1], iP 20 (.call "(*haberdash/disk.Disk).Read" []) [.t 19, kI 0], iP 18 .id [.t 20], iP 21 (.extract 0) [.t 18], iP 22 (.extract 1) [.t 18], iP 4 (.alloc 5 zeros64 []) [], iN (.store 64 false) [.t 4, .t 21], iP 5 .id [.t 22]])
 (.seq
 (.ops [ iP 23 .id [.t 2], iP 24 (.bin .eql) [.t 23, kI 0], iP 25 .id [.t 24], iG 25 true 26 .id [.t 3], iG 25 true 27 (.bin .eql) [.t 26, kI 0], iP 28 .pick [.t 25, .t 27, .c (.bool false)], iP 29 .id [.t 28], iG 29 true 30 .id [.t 5], iG 29 true 31 (.bin .eql) [.t 30, kI 0], iP 32 .pick [.t 29, .t 31, .c (.bool false)], iP 33 .id [.t 32], iG 33 true 34 (.indexArr 64 1) [.t 4, kI 2], iG 33 true 35 (.load 1 false) [.t 34], iG 33 true 36 (.bin .eql) [.t 35, .c (.int .u8 1)], iP 37 .pick [.t 33, .t 36, .c (.bool false)], iP 38 .id [.t 37], iG 38 true 39 (.indexArr 64 1) [.t 4, kI 3], iG 38 true 40 (.load 1 false) [.t 39], iG 38 true 41 (.bin .eql) [.t 40, .c (.int .u8 0)], iP 42 .pick [.t 38, .t 41, .c (.bool false)], iP 0 .id [.t 42]])
 .ret)))))))
def f_law06_awake : IFn := ⟨43, 6, [.tmp 0], f_law06_awake_B⟩
def f_disk_New_B : ICode :=
 (.seq
 (.ops [ iP 2 .id [.c (.pointer none)], iP 3 .id [kI 0]])
 (.seq
 (.seq
 (.ops [ iP 4 .id [.t 0], iP 5 (.bin .lss) [.t 4, kI 1], iP 6 .id [.t 5], iG 6 false 7 .id [.t 0], iG 6 false 8 (.bin .gtr) [.t 7, kI 20000], iP 9 .pick [.t 6, .c (.bool true), .t 8]])
 (.cond (.t 9)
 (.seq
 (.ops [ iP 2 .id [.c (.pointer none)], iP 3 .id [kI 2]])
 .ret)
 .skip))
 (.seq
 (.draw [ iP 10 .id [.t 0],
 ⟨some 11, .makeSlice 0 64 64 zeros64, [.t 10, .t 10], none, [1, 2], [], false⟩, iP 12 .id [.t 0],
 ⟨some 13, .makeSlice 1 64 64 zeros64, [.t 12, .t 12], none, [0, 2], [], false⟩, iP 14 .id [.t 0],
 ⟨some 15, .makeSlice 2 1 1 [(.bool false)], [.t 14, .t 14], none, [0, 1], [], false⟩, iP 16 (.build [(.slice none 0 0), (.slice none 0 0), (.slice none 0 0), (.bool false), (.int .i64 0)] [(0, 1), (1, 1), (2, 1)]) [.t 11, .t 13, .t 15], iP 17 (.box 3) [.t 16], iP 2 .id [.t 17], iP 3 .id [kI 0]])
 .ret)))
def f_disk_New : IFn := ⟨18, 4, [.tmp 2, .tmp 3], f_disk_New_B⟩
def f_law06_full_L0 : ICode :=
 (.seq
 (.ops [ iP 6 (.bin .lss) [.t 5, kI 64]])
 (.seq
 (.cond (.t 6)
 .skip
 (.exit 0))
 (.seq
 (.block 1
 (.seq
 (.ops [ iP 7 .id [.t 5], iP 4 .id [.t 7]])
 (.ops [ iP 8 .id [.t 4], iP 9 .id [.t 0], iP 10 (.indexArr 64 1) [.t 3, .t 8], iN (.store 1 false) [.t 10, .t 9]])))
 (.ops [ iP 11 (.bin .add) [.t 5, kI 1], iP 5 .id [.t 11]]))))
def f_law06_full_B : ICode :=
 (.seq
 (.ops [ iP 2 (.alloc 0 zeros64 []) []])
 (.seq
 (.ops [ iP 3 (.alloc 1 zeros64 []) []])
 (.seq
 (.seq
 (.ops [ iP 5 .id [kI 0]])
 (.block 0
 (.loop [1, 4, 6, 7, 8, 9, 10, 11, 12] [] f_law06_full_L0)))
 (.seq
 (.ops [ iP 12 (.load 64 true) [.t 3], iN (.store 64 false) [.t 2, .t 12]])
 .ret))))
def f_law06_full : IFn := ⟨13, 2, [.cell 2 64 true], f_law06_full_B⟩
def f___disk_Disk__Write_B : ICode :=
 (.seq
 (.ops [ iP 5 (.box 0) [.t 2], iP 6 .id [kI 0]])
 (.seq
 (.seq
 (.ops [ iP 8 .id [.t 0], iP 9 .id [.t 1], iP 10 (.call "(*haberdash/disk.Disk).may" []) [.t 8, .t 9], iP 7 .id [.t 10]])
 (.seq
 (.ops [ iP 11 .id [.t 7], iP 12 (.bin .neq) [.t 11, kI 0]])
 (.cond (.t 12)
 (.seq
 (.ops [ iP 13 .id [.t 7], iP 6 .id [.t 13]])
 .ret)
 .skip)))
 (.seq
 (.draw [ iP 14 .id [.t 0], iP 15 .nilCheck [.t 14], iP 16 (.fieldAddr 1) [.t 15], iP 17 (.load 1 false) [.t 16], iP 18 .id [.t 1], iP 19 .id [.t 0], iP 20 .nilCheck [.t 19], iP 21 (.fieldAddr 2) [.t 20], iP 22 (.load 1 false) [.t 21], iP 23 .id [.t 1], iP 24 (.load 64 true) [.t 5], iP 25 (.indexAddr 64) [.t 17, .t 18],
 ⟨none, .store 64 false, [.t 25, .t 24], none, [], [], true⟩, iP 26 (.indexAddr 1) [.t 22, .t 23],
 ⟨none, .store 1 false, [.t 26, .c (.bool true)], none, [], [], true⟩])
 (.seq
 (.seq
 (.ops [ iP 27 .id [.t 0], iP 28 (.call "(*haberdash/disk.Disk).hit" []) [.t 27]])
 (.cond (.t 28)
 (.seq
 (.ops [ iP 6 .id [kI 9]])
 .ret)
 .skip))
 (.seq
 (.ops [ iP 6 .id [kI 0]])
 .ret)))))
def f___disk_Disk__Write : IFn := ⟨29, 1, [.tmp 6], f___disk_Disk__Write_B⟩
def f___disk_Disk__Sync_L0 : ICode :=
 (.seq
 (.ops [ iP 18 (.bin .lss) [.t 17, .t 16]])
 (.seq
 (.cond (.t 18)
 .skip
 (.exit 0))
 (.seq
 (.block 1
 (.seq
 (.ops [ iP 19 .id [.t 17], iP 4 .id [.t 19]])
 (.draw [ iP 20 .id [.t 0], iP 21 .nilCheck [.t 20], iP 22 (.fieldAddr 0) [.t 21], iP 23 (.load 1 false) [.t 22], iP 24 .id [.t 4], iP 25 .id [.t 0], iP 26 .nilCheck [.t 25], iP 27 (.fieldAddr 2) [.t 26], iP 28 (.load 1 false) [.t 27], iP 29 .id [.t 4], iP 30 .id [.t 0], iP 31 .nilCheck [.t 30], iP 32 (.fieldAddr 1) [.t 31], iP 33 (.load 1 false) [.t 32], iP 34 .id [.t 4], iP 35 (.indexAddr 64) [.t 33, .t 34], iP 36 (.load 64 true) [.t 35], iP 37 (.indexAddr 64) [.t 23, .t 24],
 ⟨none, .store 64 false, [.t 37, .t 36], none, [], [], true⟩, iP 38 (.indexAddr 1) [.t 28, .t 29],
 ⟨none, .store 1 false, [.t 38, .c (.bool false)], none, [], [], true⟩])))
 (.ops [ iP 39 (.bin .add) [.t 17, kI 1], iP 17 .id [.t 39]]))))
def f___disk_Disk__Sync_H0 (t0 t16 t17 : AV) : List AV := [t0, .dead, .dead, .dead, .dead, .dead, .dead, .dead, .dead, .dead, .dead, .dead, .dead, .dead, .dead, .dead, t16, t17, .dead, .dead, .dead, .dead, .dead, .dead, .dead, .dead, .dead, .dead, .dead, .dead, .dead, .dead, .dead, .dead, .dead, .dead, .dead, .dead, .dead, .dead]
def f___disk_Disk__Sync_B : ICode :=
 (.seq
 (.ops [ iP 2 .id [kI 0]])
 (.seq
 (.seq
 (.ops [ iP 5 .id [.t 0], iP 6 (.call "(*haberdash/disk.Disk).may" []) [.t 5, kI 0], iP 3 .id [.t 6]])
 (.seq
 (.ops [ iP 7 .id [.t 3], iP 8 (.bin .neq) [.t 7, kI 0]])
 (.cond (.t 8)
 (.seq
 (.ops [ iP 9 .id [.t 3], iP 2 .id [.t 9]])
 .ret)
 .skip)))
 (.seq
 (.seq
 (.ops [ iP 10 .id [.t 0], iP 11 (.call "(*haberdash/disk.Disk).hit" []) [.t 10]])
 (.cond (.t 11)
 (.seq
 (.ops [ iP 2 .id [kI 9]])
 .ret)
 .skip))
 (.seq
 (.seq
 (.ops [ iP 12 .id [.t 0], iP 13 .nilCheck [.t 12], iP 14 (.fieldAddr 1) [.t 13], iP 15 (.load 1 false) [.t 14], iP 16 .lenSlice [.t 15], iP 17 .id [kI 0]])
 (.block 0
 (.loop [1, 2, 3, 4, 5, 6, 7, 8, 9, 10, 11, 12, 13, 14, 15, 18, 19, 20, 21, 22, 23, 24, 25, 26, 27, 28, 29, 30, 31, 32, 33, 34, 35, 36, 37, 38, 39] [] f___disk_Disk__Sync_L0)))
 (.seq
 (.ops [ iP 2 .id [kI 0]])
 .ret)))))
def f___disk_Disk__Sync : IFn := ⟨40, 0, [.tmp 2], f___disk_Disk__Sync_B⟩
def f___disk_Disk__Crash_B : ICode :=
 (.seq
 (.ops [ iP 3 (.box 0) [.t 1]])
 (.seq
 (.seq
 (.ops [ iP 4 .id [.t 0], iP 5 (.eqNil false .ptr) [.t 4, .c (.pointer none)]])
 (.cond (.t 5)
 .ret
 .skip))
 (.seq
 (.ops [ iP 6 .id [.t 0], iP 7 (.makeFunc "(*haberdash/disk.Disk).Crash$1" 0) [.t 3], iP 8 (.call "(*haberdash/disk.Disk).settle" []) [.t 6, .t 7]])
 (.ops [ iP 9 .id [.t 0], iP 10 .nilCheck [.t 9], iP 11 (.fieldAddr 3) [.t 10], iN (.store 1 false) [.t 11, .c (.bool true)]]))))
def f___disk_Disk__Crash : IFn := ⟨12, 1, [], f___disk_Disk__Crash_B⟩
def f___disk_Disk__Start_B : ICode :=
 (.seq
 (.ops [ iP 2 .id [.t 0], iP 3 (.eqNil true .ptr) [.t 2, .c (.pointer none)], iP 4 .id [.t 3], iG 4 true 5 .id [.t 0], iG 4 true 6 .nilCheck [.t 5], iG 4 true 7 (.fieldAddr 3) [.t 6], iG 4 true 8 (.load 1 false) [.t 7], iP 9 .pick [.t 4, .t 8, .c (.bool false)]])
 (.cond (.t 9)
 (.seq
 (.ops [ iP 10 .id [.t 0], iP 11 (.call "(*haberdash/disk.Disk).settle" []) [.t 10, .f "(*haberdash/disk.Disk).Start$1"]])
 (.ops [ iP 12 .id [.t 0], iP 13 .nilCheck [.t 12], iP 14 (.fieldAddr 3) [.t 13], iN (.store 1 false) [.t 14, .c (.bool false)]]))
 .skip))
def f___disk_Disk__Start : IFn := ⟨15, 0, [], f___disk_Disk__Start_B⟩
def f___disk_Disk__Read_B : ICode :=
 (.seq
 (.ops [ iP 4 (.alloc 0 zeros64 []) [], iP 5 .id [kI 0]])
 (.seq
 (.seq
 (.ops [ iP 7 .id [.t 0], iP 8 .id [.t 1], iP 9 (.call "(*haberdash/disk.Disk).may" []) [.t 7, .t 8], iP 6 .id [.t 9]])
 (.seq
 (.ops [ iP 10 .id [.t 6], iP 11 (.bin .neq) [.t 10, kI 0]])
 (.cond (.t 11)
 (.seq
 (.ops [ iP 12 (.build zeros64 []) [], iP 13 .id [.t 6], iN (.store 64 false) [.t 4, .t 12], iP 5 .id [.t 13]])
 .ret)
 .skip)))
 (.seq
 (.ops [ iP 14 .id [.t 0], iP 15 .nilCheck [.t 14], iP 16 (.fieldAddr 1) [.t 15], iP 17 (.load 1 false) [.t 16], iP 18 .id [.t 1], iP 19 (.indexAddr 64) [.t 17, .t 18], iP 20 (.load 64 true) [.t 19], iN (.store 64 false) [.t 4, .t 20], iP 5 .id [kI 0]])
 .ret)))
def f___disk_Disk__Read : IFn := ⟨21, 1, [.cell 4 64 true, .tmp 5], f___disk_Disk__Read_B⟩
def f___disk_Disk__Arm_B : ICode :=
 (.seq
 (.ops [ iP 4 .id [.t 0], iP 5 (.eqNil true .ptr) [.t 4, .c (.pointer none)]])
 (.cond (.t 5)
 (.ops [ iP 6 .id [.t 0], iP 7 .id [.t 1], iP 8 .max [.t 7, kI 0], iP 9 .nilCheck [.t 6], iP 10 (.fieldAddr 4) [.t 9], iN (.store 1 false) [.t 10, .t 8]])
 .skip))
def f___disk_Disk__Arm : IFn := ⟨11, 0, [], f___disk_Disk__Arm_B⟩
def f___disk_Disk__Down_B : ICode :=
 (.seq
 (.ops [ iP 2 .id [.c (.bool false)]])
 (.seq
 (.ops [ iP 3 .id [.t 0], iP 4 (.eqNil true .ptr) [.t 3, .c (.pointer none)], iP 5 .id [.t 4], iG 5 true 6 .id [.t 0], iG 5 true 7 .nilCheck [.t 6], iG 5 true 8 (.fieldAddr 3) [.t 7], iG 5 true 9 (.load 1 false) [.t 8], iP 10 .pick [.t 5, .t 9, .c (.bool false)], iP 2 .id [.t 10]])
 .ret))
def f___disk_Disk__Down : IFn := ⟨11, 0, [.tmp 2], f___disk_Disk__Down_B⟩
def f___disk_Disk__Len_B : ICode :=
 (.seq
 (.ops [ iP 2 .id [kI 0]])
 (.seq
 (.seq
 (.ops [ iP 3 .id [.t 0], iP 4 (.eqNil false .ptr) [.t 3, .c (.pointer none)]])
 (.cond (.t 4)
 (.seq
 (.ops [ iP 2 .id [kI 0]])
 .ret)
 .skip))
 (.seq
 (.ops [ iP 5 .id [.t 0], iP 6 .nilCheck [.t 5], iP 7 (.fieldAddr 1) [.t 6], iP 8 (.load 1 false) [.t 7], iP 9 .lenSlice [.t 8], iP 2 .id [.t 9]])
 .ret)))
def f___disk_Disk__Len : IFn := ⟨10, 0, [.tmp 2], f___disk_Disk__Len_B⟩
def f___disk_Disk__Fork_B : ICode :=
 (.seq
 (.ops [ iP 2 .id [.c (.pointer none)]])
 (.seq
 (.seq
 (.ops [ iP 4 .id [.t 0], iP 5 (.eqNil false .ptr) [.t 4, .c (.pointer none)]])
 (.cond (.t 5)
 (.seq
 (.ops [ iP 2 .id [.c (.pointer none)]])
 .ret)
 .skip))
 (.seq
 (.ops [ iP 6 .id [.t 0], iP 7 .nilCheck [.t 6], iP 8 (.load 5 true) [.t 7], iP 3 (.alloc 3 [(.slice none 0 0), (.slice none 0 0), (.slice none 0 0), (.bool false), (.int .i64 0)] []) [], iN (.store 5 false) [.t 3, .t 8]])
 (.seq
 (.draw [ iP 9 .id [.t 0], iP 10 .nilCheck [.t 9], iP 11 (.fieldAddr 0) [.t 10], iP 12 (.load 1 false) [.t 11], iP 13 (.call "slices.Clone[[][64]byte,[64]byte]" [0]) [.t 12], iP 14 .id [.t 0], iP 15 .nilCheck [.t 14], iP 16 (.fieldAddr 1) [.t 15],
 ⟨some 17, .load 1 false, [.t 16], none, [0], [], false⟩, iP 18 (.call "slices.Clone[[][64]byte,[64]byte]" [1]) [.t 17], iP 19 .id [.t 0], iP 20 .nilCheck [.t 19], iP 21 (.fieldAddr 2) [.t 20],
 ⟨some 22, .load 1 false, [.t 21], none, [0, 1], [], false⟩, iP 23 (.call "slices.Clone[[]bool,bool]" [2]) [.t 22], iP 24 (.fieldAddr 0) [.t 3],
 ⟨none, .store 1 false, [.t 24, .t 13], none, [], [3], false⟩, iP 25 (.fieldAddr 1) [.t 3],
 ⟨none, .store 1 false, [.t 25, .t 18], none, [], [3], false⟩, iP 26 (.fieldAddr 2) [.t 3],
 ⟨none, .store 1 false, [.t 26, .t 23], none, [], [3], false⟩])
 (.seq
 (.ops [ iP 2 .id [.t 3]])
 .ret)))))
def f___disk_Disk__Fork : IFn := ⟨27, 4, [.tmp 2], f___disk_Disk__Fork_B⟩
def f_ref06_New_B : ICode :=
 (.seq
 (.ops [ iP 2 .id [.c (.pointer none)]])
 (.seq
 (.draw [ iP 3 .id [.t 0],
 ⟨some 4, .makeSlice 0 64 64 zeros64, [.t 3, .t 3], none, [1, 2], [], false⟩, iP 5 .id [.t 0],
 ⟨some 6, .makeSlice 1 64 64 zeros64, [.t 5, .t 5], none, [0, 2], [], false⟩, iP 7 .id [.t 0],
 ⟨some 8, .makeSlice 2 1 1 [(.bool false)], [.t 7, .t 7], none, [0, 1], [], false⟩, iP 9 (.build [(.slice none 0 0), (.slice none 0 0), (.slice none 0 0), (.bool false), (.int .i64 0)] [(0, 1), (1, 1), (2, 1)]) [.t 4, .t 6, .t 8], iP 10 (.box 3) [.t 9], iP 2 .id [.t 10]])
 .ret))
def f_ref06_New : IFn := ⟨11, 4, [.tmp 2], f_ref06_New_B⟩
def f_law06_step_B : ICode :=
 (.seq
 (.ops [ iP 5 (.box 0) [.t 2], iP 6 .id [.c (.bool false)]])
 (.seq
 (.seq
 (.ops [ iP 8 (.fieldAddr 0) [.t 5], iP 9 (.load 1 false) [.t 8], iP 10 (.convInt .u64) [.t 9], iP 11 (.bin .rem) [.t 10, .c (.int .u64 6)]])
 (.block 0
 (.seq
 (.seq
 (.ops [ iP 17 (.bin .eql) [.t 11, .c (.int .u64 0)], iP 16 .id [.t 17]])
 (.cond (.t 16)
 .skip
 (.ops [ iP 18 (.bin .eql) [.t 11, .c (.int .u64 1)], iP 16 .id [.t 18]])))
 (.cond (.t 16)
 (.seq
 (.ops [ iP 19 (.fieldAddr 2) [.t 5], iP 20 (.load 1 false) [.t 19], iP 21 (.call "haberdash/haberdashlaw06.full" []) [.t 20], iP 7 (.alloc 1 zeros64 []) [], iN (.store 64 false) [.t 7, .t 21]])
 (.seq
 (.ops [ iP 22 (.fieldAddr 1) [.t 5], iP 23 (.load 1 false) [.t 22], iP 24 (.convInt .u8) [.t 23], iP 25 (.indexArr 64 1) [.t 7, kI 63], iN (.store 1 false) [.t 25, .t 24]])
 (.seq
 (.draw [ iP 26 .id [.t 0], iP 27 (.fieldAddr 1) [.t 5], iP 28 (.loadAt 0 1 false) [.t 27], iP 29 (.loadAt 1 64 true) [.t 7],
 ⟨some 30, .call "(*haberdash/disk.Disk).Write" [], [.t 26, .t 28, .t 29], none, [0, 1], [], true⟩, iP 31 .id [.t 1], iP 32 (.fieldAddr 1) [.t 5], iP 33 (.loadAt 0 1 false) [.t 32], iP 34 (.loadAt 1 64 true) [.t 7],
 ⟨some 35, .call "(*haberdash/haberdashref06.Disk).Write" [], [.t 31, .t 33, .t 34], none, [], [], true⟩, iP 36 (.bin .eql) [.t 30, .t 35], iP 6 .id [.t 36]])
 .ret)))
 (.seq
 (.ops [ iP 38 (.bin .eql) [.t 11, .c (.int .u64 2)], iP 37 .id [.t 38]])
 (.cond (.t 37)
 (.seq
 (.ops [ iP 39 .id [.t 0], iP 40 (.call "(*haberdash/disk.Disk).Sync" []) [.t 39], iP 41 .id [.t 1], iP 42 (.call "(*haberdash/haberdashref06.Disk).Sync" []) [.t 41], iP 43 (.bin .eql) [.t 40, .t 42], iP 6 .id [.t 43]])
 .ret)
 (.seq
 (.ops [ iP 45 (.bin .eql) [.t 11, .c (.int .u64 3)], iP 44 .id [.t 45]])
 (.cond (.t 44)
 (.seq
 (.ops [ iP 46 .id [.t 0], iP 47 (.fieldAddr 1) [.t 5], iP 48 (.load 1 false) [.t 47], iP 49 (.call "(*haberdash/disk.Disk).Arm" []) [.t 46, .t 48]])
 (.ops [ iP 50 .id [.t 1], iP 51 (.fieldAddr 1) [.t 5], iP 52 (.load 1 false) [.t 51], iP 53 (.call "(*haberdash/haberdashref06.Disk).Arm" []) [.t 50, .t 52]]))
 (.seq
 (.ops [ iP 55 (.bin .eql) [.t 11, .c (.int .u64 4)], iP 54 .id [.t 55]])
 (.cond (.t 54)
 (.seq
 (.ops [ iP 56 .id [.t 0], iP 57 (.fieldAddr 3) [.t 5], iP 58 (.load 1 false) [.t 57], iP 59 (.call "(*haberdash/disk.Disk).Crash" []) [.t 56, .t 58]])
 (.ops [ iP 60 .id [.t 1], iP 61 (.fieldAddr 3) [.t 5], iP 62 (.load 1 false) [.t 61], iP 63 (.call "(*haberdash/haberdashref06.Disk).Crash" []) [.t 60, .t 62]]))
 (.seq
 (.ops [ iP 12 .id [.t 0], iP 13 (.call "(*haberdash/disk.Disk).Start" []) [.t 12]])
 (.ops [ iP 14 .id [.t 1], iP 15 (.call "(*haberdash/haberdashref06.Disk).Start" []) [.t 14]]))))))))))))
 (.seq
 (.ops [ iP 6 .id [.c (.bool true)]])
 .ret)))
def f_law06_step : IFn := ⟨64, 2, [.tmp 6], f_law06_step_B⟩
def f___ref06_Disk__Copy_B : ICode :=
 (.seq
 (.ops [ iP 2 .id [.c (.pointer none)]])
 (.seq
 (.draw [ iP 3 .id [.t 0], iP 4 .nilCheck [.t 3], iP 5 (.fieldAddr 0) [.t 4], iP 6 (.load 1 false) [.t 5], iP 7 (.append 0 false 64 64) [.c (.slice none 0 0), .t 6], iP 8 .id [.t 0], iP 9 .nilCheck [.t 8], iP 10 (.fieldAddr 1) [.t 9],
 ⟨some 11, .load 1 false, [.t 10], none, [0], [], false⟩, iP 12 (.append 1 false 64 64) [.c (.slice none 0 0), .t 11], iP 13 .id [.t 0], iP 14 .nilCheck [.t 13], iP 15 (.fieldAddr 2) [.t 14],
 ⟨some 16, .load 1 false, [.t 15], none, [0, 1], [], false⟩, iP 17 (.append 2 false 1 1) [.c (.slice none 0 0), .t 16], iP 18 .id [.t 0], iP 19 .nilCheck [.t 18], iP 20 (.fieldAddr 3) [.t 19],
 ⟨some 21, .load 1 false, [.t 20], none, [0, 1, 2], [], false⟩, iP 22 .id [.t 0], iP 23 .nilCheck [.t 22], iP 24 (.fieldAddr 4) [.t 23],
 ⟨some 25, .load 1 false, [.t 24], none, [0, 1, 2], [], false⟩, iP 26 (.build [(.slice none 0 0), (.slice none 0 0), (.slice none 0 0), (.bool false), (.int .i64 0)] [(0, 1), (1, 1), (2, 1), (3, 1), (4, 1)]) [.t 7, .t 12, .t 17, .t 21, .t 25], iP 27 (.box 3) [.t 26], iP 2 .id [.t 27]])
 .ret))
def f___ref06_Disk__Copy : IFn := ⟨28, 4, [.tmp 2], f___ref06_Disk__Copy_B⟩
def f_law06_same_L0 : ICode :=
 (.seq
 (.seq
 (.ops [ iP 27 .id [.t 5], iP 28 .id [.t 1], iP 29 .nilCheck [.t 28], iP 30 (.fieldAddr 0) [.t 29], iP 31 (.load 1 false) [.t 30], iP 32 .lenSlice [.t 31], iP 33 (.bin .leq) [.t 27, .t 32]])
 (.cond (.t 33)
 .skip
 (.exit 0)))
 (.seq
 (.block 1
 (.seq
 (.ops [ iP 37 .id [.t 0], iP 38 .id [.t 5], iP 39 (.call "(*haberdash/disk.Disk).Read" []) [.t 37, .t 38], iP 36 .id [.t 39], iP 40 (.extract 0) [.t 36], iP 41 (.extract 1) [.t 36], iP 6 (.alloc 0 zeros64 []) [], iN (.store 64 false) [.t 6, .t 40], iP 7 .id [.t 41]])
 (.seq
 (.ops [ iP 43 .id [.t 1], iP 44 .id [.t 5], iP 45 (.call "(*haberdash/haberdashref06.Disk).Read" []) [.t 43, .t 44], iP 42 .id [.t 45], iP 46 (.extract 0) [.t 42], iP 47 (.extract 1) [.t 42], iP 8 (.alloc 1 zeros64 []) [], iN (.store 64 false) [.t 8, .t 46], iP 9 .id [.t 47]])
 (.seq
 (.ops [ iP 48 (.load 64 true) [.t 6], iP 49 (.load 64 true) [.t 8], iP 50 (.eq true ints64) [.t 48, .t 49], iP 51 .id [.t 50], iG 51 false 52 .id [.t 7], iG 51 false 53 .id [.t 9], iG 51 false 54 (.bin .neq) [.t 52, .t 53], iP 55 .pick [.t 51, .c (.bool true), .t 54]])
 (.cond (.t 55)
 (.seq
 (.ops [ iP 4 .id [.c (.bool false)]])
 .ret)
 .skip)))))
 (.ops [ iP 34 .id [.t 5], iP 35 (.bin .add) [.t 34, kI 1], iP 5 .id [.t 35]])))
def f_law06_same_B : ICode :=
 (.seq
 (.ops [ iP 4 .id [.c (.bool false)]])
 (.seq
 (.seq
 (.draw [ iP 10 .id [.t 0], iP 11 (.call "(*haberdash/disk.Disk).Len" []) [.t 10], iP 12 .id [.t 1], iP 13 .nilCheck [.t 12], iP 14 (.fieldAddr 0) [.t 13], iP 15 (.load 1 false) [.t 14], iP 16 .lenSlice [.t 15], iP 17 (.bin .neq) [.t 11, .t 16], iP 18 .id [.t 17], iG 18 false 19 .id [.t 0], iG 18 false 20 (.call "(*haberdash/disk.Disk).Down" []) [.t 19], iG 18 false 21 .id [.t 1], iG 18 false 22 .nilCheck [.t 21], iG 18 false 23 (.fieldAddr 3) [.t 22], iG 18 false 24 (.load 1 false) [.t 23], iG 18 false 25 (.eqBool true) [.t 20, .t 24], iP 26 .pick [.t 18, .c (.bool true), .t 25]])
 (.cond (.t 26)
 (.seq
 (.ops [ iP 4 .id [.c (.bool false)]])
 .ret)
 .skip))
 (.seq
 (.seq
 (.ops [ iP 5 .id [kI (-1)]])
 (.block 0
 (.loop [2, 3, 4, 6, 7, 8, 9, 10, 11, 12, 13, 14, 15, 16, 17, 18, 19, 20, 21, 22, 23, 24, 25, 26, 27, 28, 29, 30, 31, 32, 33, 34, 35, 36, 37, 38, 39, 40, 41, 42, 43, 44, 45, 46, 47, 48, 49, 50, 51, 52, 53, 54, 55] [0, 1] f_law06_same_L0)))
 (.seq
 (.ops [ iP 4 .id [.c (.bool true)]])
 .ret))))
def f_law06_same : IFn := ⟨56, 2, [.tmp 4], f_law06_same_B⟩
def f___disk_Disk__may_B : ICode :=
 (.seq
 (.ops [ iP 4 .id [kI 0]])
 (.seq
 (.block 0
 (.seq
 (.ops [ iP 6 .id [.t 0], iP 7 (.eqNil false .ptr) [.t 6, .c (.pointer none)], iP 5 .id [.t 7]])
 (.cond (.t 5)
 (.seq
 (.ops [ iP 4 .id [kI 1]])
 .ret)
 (.seq
 (.ops [ iP 9 .id [.t 0], iP 10 .nilCheck [.t 9], iP 11 (.fieldAddr 3) [.t 10], iP 12 (.load 1 false) [.t 11], iP 8 .id [.t 12]])
 (.cond (.t 8)
 (.seq
 (.ops [ iP 4 .id [kI 9]])
 .ret)
 (.seq
 (.ops [ iP 14 .id [.t 1], iP 15 (.bin .lss) [.t 14, kI 0], iP 16 .id [.t 15], iG 16 false 17 .id [.t 1], iG 16 false 18 .id [.t 0], iG 16 false 19 .nilCheck [.t 18], iG 16 false 20 (.fieldAddr 1) [.t 19], iG 16 false 21 (.load 1 false) [.t 20], iG 16 false 22 .lenSlice [.t 21], iG 16 false 23 (.bin .geq) [.t 17, .t 22], iP 24 .pick [.t 16, .c (.bool true), .t 23], iP 13 .id [.t 24]])
 (.cond (.t 13)
 (.seq
 (.ops [ iP 4 .id [kI 2]])
 .ret)
 .skip)))))))
 (.seq
 (.ops [ iP 4 .id [kI 0]])
 .ret)))
def f___disk_Disk__may : IFn := ⟨25, 0, [.tmp 4], f___disk_Disk__may_B⟩
def f___disk_Disk__hit_B : ICode :=
 (.seq
 (.ops [ iP 2 .id [.c (.bool false)]])
 (.seq
 (.seq
 (.ops [ iP 3 .id [.t 0], iP 4 .nilCheck [.t 3], iP 5 (.fieldAddr 4) [.t 4], iP 6 (.load 1 false) [.t 5], iP 7 (.bin .eql) [.t 6, kI 0]])
 (.cond (.t 7)
 (.seq
 (.ops [ iP 2 .id [.c (.bool false)]])
 .ret)
 .skip))
 (.seq
 (.ops [ iP 8 .id [.t 0], iP 9 .nilCheck [.t 8], iP 10 (.fieldAddr 4) [.t 9], iP 11 (.load 1 false) [.t 10], iP 12 (.bin .sub) [.t 11, kI 1], iP 13 .nilCheck [.t 8], iP 14 (.fieldAddr 4) [.t 13], iN (.store 1 false) [.t 14, .t 12]])
 (.seq
 (.ops [ iP 15 .id [.t 0], iP 16 .id [.t 0], iP 17 .nilCheck [.t 16], iP 18 (.fieldAddr 4) [.t 17], iP 19 (.load 1 false) [.t 18], iP 20 (.bin .eql) [.t 19, kI 0], iP 21 .nilCheck [.t 15], iP 22 (.fieldAddr 3) [.t 21], iN (.store 1 false) [.t 22, .t 20]])
 (.seq
 (.ops [ iP 23 .id [.t 0], iP 24 .nilCheck [.t 23], iP 25 (.fieldAddr 3) [.t 24], iP 26 (.load 1 false) [.t 25], iP 2 .id [.t 26]])
 .ret)))))
def f___disk_Disk__hit : IFn := ⟨27, 0, [.tmp 2], f___disk_Disk__hit_B⟩
def f___disk_Disk__Crash_1_B : ICode :=
 (.seq
 (.ops [ iP 3 .id [kI 0]])
 (.seq
 (.seq
 (.ops [ iP 4 (.load 1 false) [.t 1], iP 5 .lenSlice [.t 4], iP 6 (.bin .eql) [.t 5, kI 0]])
 (.cond (.t 6)
 (.seq
 (.ops [ iP 3 .id [kI 0]])
 .ret)
 .skip))
 (.seq
 (.draw [ iP 7 (.load 1 false) [.t 1], iP 8 .id [.t 0], iP 9 (.load 1 false) [.t 1], iP 10 .lenSlice [.t 9], iP 11 (.bin .rem) [.t 8, .t 10], iP 12 (.indexAddr 1) [.t 7, .t 11], iP 13 (.load 1 false) [.t 12], iP 3 .id [.t 13]])
 .ret)))
def f___disk_Disk__Crash_1 : IFn := ⟨14, 0, [.tmp 3], f___disk_Disk__Crash_1_B⟩
def f___disk_Disk__settle_L0 : ICode :=
 (.seq
 (.ops [ iP 13 (.bin .lss) [.t 12, .t 11]])
 (.seq
 (.cond (.t 13)
 .skip
 (.exit 0))
 (.seq
 (.block 1
 (.seq
 (.ops [ iP 14 .id [.t 12], iP 5 .id [.t 14]])
 (.seq
 (.seq
 (.ops [ iP 15 .id [.t 0], iP 16 .nilCheck [.t 15], iP 17 (.fieldAddr 2) [.t 16], iP 18 (.load 1 false) [.t 17], iP 19 .id [.t 5], iP 20 (.indexAddr 1) [.t 18, .t 19], iP 21 (.load 1 false) [.t 20], iP 22 (.un .not) [.t 21]])
 (.cond (.t 22)
 (.exit 1)
 .skip))
 (.seq
 (.ops [ iP 23 .id [.t 1], iP 24 .id [.t 4], iP 25 (.callV []) [.t 23, .t 24], iP 26 .max [.t 25, kI 0], iP 27 .min [.t 26, kI 64], iP 6 .id [.t 27]])
 (.seq
 (.draw [ iP 28 .id [.t 0], iP 29 .nilCheck [.t 28], iP 30 (.fieldAddr 0) [.t 29], iP 31 (.load 1 false) [.t 30], iP 32 .id [.t 5], iP 33 (.indexAddr 64) [.t 31, .t 32], iP 34 .id [.t 6], iP 35 (.sliceArr 64 1 false true false) [.t 33, .t 34], iP 36 .id [.t 0], iP 37 .nilCheck [.t 36], iP 38 (.fieldAddr 1) [.t 37], iP 39 (.load 1 false) [.t 38], iP 40 .id [.t 5], iP 41 (.indexAddr 64) [.t 39, .t 40], iP 42 .id [.t 6], iP 43 (.sliceArr 64 1 false true false) [.t 41, .t 42],
 ⟨some 44, .copy 1, [.t 35, .t 43], none, [], [], true⟩])
 (.seq
 (.draw [ iP 45 .id [.t 0], iP 46 .nilCheck [.t 45], iP 47 (.fieldAddr 1) [.t 46], iP 48 (.load 1 false) [.t 47], iP 49 .id [.t 5], iP 50 .id [.t 0], iP 51 .nilCheck [.t 50], iP 52 (.fieldAddr 2) [.t 51], iP 53 (.load 1 false) [.t 52], iP 54 .id [.t 5], iP 55 .id [.t 0], iP 56 .nilCheck [.t 55], iP 57 (.fieldAddr 0) [.t 56], iP 58 (.load 1 false) [.t 57], iP 59 .id [.t 5], iP 60 (.indexAddr 64) [.t 58, .t 59], iP 61 (.load 64 true) [.t 60], iP 62 (.indexAddr 64) [.t 48, .t 49],
 ⟨none, .store 64 false, [.t 62, .t 61], none, [], [], true⟩, iP 63 (.indexAddr 1) [.t 53, .t 54],
 ⟨none, .store 1 false, [.t 63, .c (.bool false)], none, [], [], true⟩])
 (.ops [ iP 64 .id [.t 4], iP 65 (.bin .add) [.t 64, kI 1], iP 4 .id [.t 65]])))))))
 (.ops [ iP 66 (.bin .add) [.t 12, kI 1], iP 12 .id [.t 66]]))))
def f___disk_Disk__settle_H0 (t0 t1 t4 t11 t12 : AV) : List AV := [t0, t1, .dead, .dead, t4, .dead, .dead, .dead, .dead, .dead, .dead, t11, t12, .dead, .dead, .dead, .dead, .dead, .dead, .dead, .dead, .dead, .dead, .dead, .dead, .dead, .dead, .dead, .dead, .dead, .dead, .dead, .dead, .dead, .dead, .dead, .dead, .dead, .dead, .dead, .dead, .dead, .dead, .dead, .dead, .dead, .dead, .dead, .dead, .dead, .dead, .dead, .dead, .dead, .dead, .dead, .dead, .dead, .dead, .dead, .dead, .dead, .dead, .dead, .dead, .dead, .dead, .dead, .dead, .dead]
def f___disk_Disk__settle_B : ICode :=
 (.seq
 (.ops [ iP 4 .id [kI 0]])
 (.seq
 (.seq
 (.ops [ iP 7 .id [.t 0], iP 8 .nilCheck [.t 7], iP 9 (.fieldAddr 1) [.t 8], iP 10 (.load 1 false) [.t 9], iP 11 .lenSlice [.t 10], iP 12 .id [kI 0]])
 (.block 0
 (.loop [2, 3, 5, 6, 7, 8, 9, 10, 13, 14, 15, 16, 17, 18, 19, 20, 21, 22, 23, 24, 25, 26, 27, 28, 29, 30, 31, 32, 33, 34, 35, 36, 37, 38, 39, 40, 41, 42, 43, 44, 45, 46, 47, 48, 49, 50, 51, 52, 53, 54, 55, 56, 57, 58, 59, 60, 61, 62, 63, 64, 65, 66, 67, 68, 69] [] f___disk_Disk__settle_L0)))
 (.ops [ iP 67 .id [.t 0], iP 68 .nilCheck [.t 67], iP 69 (.fieldAddr 4) [.t 68], iN (.store 1 false) [.t 69, kI 0]])))
def f___disk_Disk__settle : IFn := ⟨70, 0, [], f___disk_Disk__settle_B⟩
def f___disk_Disk__Start_1_B : ICode :=
 (.seq
 (.ops [ iP 2 .id [kI 0]])
 (.seq
 (.ops [ iP 2 .id [kI 0]])
 .ret))
def f___disk_Disk__Start_1 : IFn := ⟨3, 0, [.tmp 2], f___disk_Disk__Start_1_B⟩
def f_slices_Clone____64_byte__64_byte__B : ICode :=
 (.seq
 (.ops [ iP 2 .id [.c (.slice none 0 0)]])
 (.seq
 (.seq
 (.ops [ iP 3 .id [.t 0], iP 4 (.eqNil false .slice) [.t 3, .c (.slice none 0 0)]])
 (.cond (.t 4)
 (.seq
 (.ops [ iP 2 .id [.c (.slice none 0 0)]])
 .ret)
 .skip))
 (.seq
 (.ops [ iP 5 (.buildSlice 0 false 64 0 zeros64 []) [], iP 6 .id [.t 0], iP 7 (.append 1 false 64 64) [.t 5, .t 6], iP 2 .id [.t 7]])
 .ret)))
def f_slices_Clone____64_byte__64_byte_ : IFn := ⟨8, 2, [.tmp 2], f_slices_Clone____64_byte__64_byte__B⟩
def f_slices_Clone___bool_bool__B : ICode :=
 (.seq
 (.ops [ iP 2 .id [.c (.slice none 0 0)]])
 (.seq
 (.seq
 (.ops [ iP 3 .id [.t 0], iP 4 (.eqNil false .slice) [.t 3, .c (.slice none 0 0)]])
 (.cond (.t 4)
 (.seq
 (.ops [ iP 2 .id [.c (.slice none 0 0)]])
 .ret)
 .skip))
 (.seq
 (.ops [ iP 5 (.buildSlice 0 false 1 0 [(.bool false)] []) [], iP 6 .id [.t 0], iP 7 (.append 1 false 1 1) [.t 5, .t 6], iP 2 .id [.t 7]])
 .ret)))
def f_slices_Clone___bool_bool_ : IFn := ⟨8, 2, [.tmp 2], f_slices_Clone___bool_bool__B⟩
def f___ref06_Disk__Write_B : ICode :=
 (.seq
 (.ops [ iP 5 (.box 0) [.t 2], iP 6 .id [kI 0]])
 (.seq
 (.seq
 (.ops [ iP 7 .id [.t 0], iP 8 .nilCheck [.t 7], iP 9 (.fieldAddr 3) [.t 8], iP 10 (.load 1 false) [.t 9]])
 (.cond (.t 10)
 (.seq
 (.ops [ iP 6 .id [kI 9]])
 .ret)
 .skip))
 (.seq
 (.seq
 (.ops [ iP 11 .id [.t 1], iP 12 (.bin .lss) [.t 11, kI 0], iP 13 .id [.t 12], iG 13 false 14 .id [.t 1], iG 13 false 15 .id [.t 0], iG 13 false 16 .nilCheck [.t 15], iG 13 false 17 (.fieldAddr 0) [.t 16], iG 13 false 18 (.load 1 false) [.t 17], iG 13 false 19 .lenSlice [.t 18], iG 13 false 20 (.bin .geq) [.t 14, .t 19], iP 21 .pick [.t 13, .c (.bool true), .t 20]])
 (.cond (.t 21)
 (.seq
 (.ops [ iP 6 .id [kI 2]])
 .ret)
 .skip))
 (.seq
 (.draw [ iP 22 .id [.t 0], iP 23 .nilCheck [.t 22], iP 24 (.fieldAddr 0) [.t 23], iP 25 (.load 1 false) [.t 24], iP 26 .id [.t 1], iP 27 .id [.t 0], iP 28 .nilCheck [.t 27], iP 29 (.fieldAddr 2) [.t 28], iP 30 (.load 1 false) [.t 29], iP 31 .id [.t 1], iP 32 (.load 64 true) [.t 5], iP 33 (.indexAddr 64) [.t 25, .t 26],
 ⟨none, .store 64 false, [.t 33, .t 32], none, [], [], true⟩, iP 34 (.indexAddr 1) [.t 30, .t 31],
 ⟨none, .store 1 false, [.t 34, .c (.bool true)], none, [], [], true⟩])
 (.seq
 (.seq
 (.ops [ iP 35 .id [.t 0], iP 36 (.call "(*haberdash/haberdashref06.Disk).hit" []) [.t 35]])
 (.cond (.t 36)
 (.seq
 (.ops [ iP 6 .id [kI 9]])
 .ret)
 .skip))
 (.seq
 (.ops [ iP 6 .id [kI 0]])
 .ret))))))
def f___ref06_Disk__Write : IFn := ⟨37, 1, [.tmp 6], f___ref06_Disk__Write_B⟩
def f___ref06_Disk__Sync_L0 : ICode :=
 (.seq
 (.seq
 (.ops [ iP 12 .id [.t 3], iP 13 .id [.t 0], iP 14 .nilCheck [.t 13], iP 15 (.fieldAddr 0) [.t 14], iP 16 (.load 1 false) [.t 15], iP 17 .lenSlice [.t 16], iP 18 (.bin .lss) [.t 12, .t 17]])
 (.cond (.t 18)
 .skip
 (.exit 0)))
 (.seq
 (.block 1
 (.draw [ iP 21 .id [.t 0], iP 22 .nilCheck [.t 21], iP 23 (.fieldAddr 1) [.t 22], iP 24 (.load 1 false) [.t 23], iP 25 .id [.t 3], iP 26 .id [.t 0], iP 27 .nilCheck [.t 26], iP 28 (.fieldAddr 2) [.t 27], iP 29 (.load 1 false) [.t 28], iP 30 .id [.t 3], iP 31 .id [.t 0], iP 32 .nilCheck [.t 31], iP 33 (.fieldAddr 0) [.t 32], iP 34 (.load 1 false) [.t 33], iP 35 .id [.t 3], iP 36 (.indexAddr 64) [.t 34, .t 35], iP 37 (.load 64 true) [.t 36], iP 38 (.indexAddr 64) [.t 24, .t 25],
 ⟨none, .store 64 false, [.t 38, .t 37], none, [], [], true⟩, iP 39 (.indexAddr 1) [.t 29, .t 30],
 ⟨none, .store 1 false, [.t 39, .c (.bool false)], none, [], [], true⟩]))
 (.ops [ iP 19 .id [.t 3], iP 20 (.bin .add) [.t 19, kI 1], iP 3 .id [.t 20]])))
def f___ref06_Disk__Sync_H0 (t0 t3 : AV) : List AV := [t0, .dead, .dead, t3, .dead, .dead, .dead, .dead, .dead, .dead, .dead, .dead, .dead, .dead, .dead, .dead, .dead, .dead, .dead, .dead, .dead, .dead, .dead, .dead, .dead, .dead, .dead, .dead, .dead, .dead, .dead, .dead, .dead, .dead, .dead, .dead, .dead, .dead, .dead, .dead]
def f___ref06_Disk__Sync_B : ICode :=
 (.seq
 (.ops [ iP 2 .id [kI 0]])
 (.seq
 (.seq
 (.ops [ iP 4 .id [.t 0], iP 5 .nilCheck [.t 4], iP 6 (.fieldAddr 3) [.t 5], iP 7 (.load 1 false) [.t 6], iP 8 .id [.t 7], iG 8 false 9 .id [.t 0], iG 8 false 10 (.call "(*haberdash/haberdashref06.Disk).hit" []) [.t 9], iP 11 .pick [.t 8, .c (.bool true), .t 10]])
 (.cond (.t 11)
 (.seq
 (.ops [ iP 2 .id [kI 9]])
 .ret)
 .skip))
 (.seq
 (.seq
 (.ops [ iP 3 .id [kI 0]])
 (.block 0
 (.loop [1, 2, 4, 5, 6, 7, 8, 9, 10, 11, 12, 13, 14, 15, 16, 17, 18, 19, 20, 21, 22, 23, 24, 25, 26, 27, 28, 29, 30, 31, 32, 33, 34, 35, 36, 37, 38, 39] [] f___ref06_Disk__Sync_L0)))
 (.seq
 (.ops [ iP 2 .id [kI 0]])
 .ret))))
def f___ref06_Disk__Sync : IFn := ⟨40, 0, [.tmp 2], f___ref06_Disk__Sync_B⟩
def f___ref06_Disk__Arm_B : ICode :=
 (.ops [ iP 4 .id [.t 0], iP 5 .id [.t 1], iP 6 .max [.t 5, kI 0], iP 7 .nilCheck [.t 4], iP 8 (.fieldAddr 4) [.t 7], iN (.store 1 false) [.t 8, .t 6]])
def f___ref06_Disk__Arm : IFn := ⟨9, 0, [], f___ref06_Disk__Arm_B⟩
def f___ref06_Disk__Crash_L0 : ICode :=
 (.seq
 (.seq
 (.ops [ iP 39 .id [.t 7], iP 40 .id [.t 6], iP 41 (.bin .lss) [.t 39, .t 40]])
 (.cond (.t 41)
 .skip
 (.exit 2)))
 (.seq
 (.block 3
 (.draw [ iP 44 .id [.t 0], iP 45 .nilCheck [.t 44], iP 46 (.fieldAddr 1) [.t 45], iP 47 (.load 1 false) [.t 46], iP 48 .id [.t 5], iP 49 .id [.t 7], iP 50 .id [.t 0], iP 51 .nilCheck [.t 50], iP 52 (.fieldAddr 0) [.t 51], iP 53 (.load 1 false) [.t 52], iP 54 .id [.t 5], iP 55 .id [.t 7], iP 56 (.indexAddr 64) [.t 53, .t 54], iP 57 (.indexArr 64 1) [.t 56, .t 55], iP 58 (.load 1 false) [.t 57], iP 59 (.indexAddr 64) [.t 47, .t 48], iP 60 (.indexArr 64 1) [.t 59, .t 49],
 ⟨none, .store 1 false, [.t 60, .t 58], none, [], [], true⟩]))
 (.ops [ iP 42 .id [.t 7], iP 43 (.bin .add) [.t 42, kI 1], iP 7 .id [.t 43]])))
def f___ref06_Disk__Crash_H0 (t0 t1 t4 t5 t6 t7 : AV) : List AV := [t0, t1, .dead, .dead, t4, t5, t6, t7, .dead, .dead, .dead, .dead, .dead, .dead, .dead, .dead, .dead, .dead, .dead, .dead, .dead, .dead, .dead, .dead, .dead, .dead, .dead, .dead, .dead, .dead, .dead, .dead, .dead, .dead, .dead, .dead, .dead, .dead, .dead, .dead, .dead, .dead, .dead, .dead, .dead, .dead, .dead, .dead, .dead, .dead, .dead, .dead, .dead, .dead, .dead, .dead, .dead, .dead, .dead, .dead, .dead, .dead, .dead, .dead, .dead, .dead, .dead, .dead, .dead, .dead, .dead, .dead, .dead, .dead, .dead, .dead, .dead, .dead, .dead, .dead, .dead, .dead, .dead, .dead, .dead, .dead]
def f___ref06_Disk__Crash_L1 : ICode :=
 (.seq
 (.seq
 (.ops [ iP 8 .id [.t 5], iP 9 .id [.t 0], iP 10 .nilCheck [.t 9], iP 11 (.fieldAddr 0) [.t 10], iP 12 (.load 1 false) [.t 11], iP 13 .lenSlice [.t 12], iP 14 (.bin .lss) [.t 8, .t 13]])
 (.cond (.t 14)
 .skip
 (.exit 0)))
 (.seq
 (.block 1
 (.seq
 (.seq
 (.ops [ iP 17 .id [.t 0], iP 18 .nilCheck [.t 17], iP 19 (.fieldAddr 2) [.t 18], iP 20 (.load 1 false) [.t 19], iP 21 .id [.t 5], iP 22 (.indexAddr 1) [.t 20, .t 21], iP 23 (.load 1 false) [.t 22], iP 24 (.un .not) [.t 23]])
 (.cond (.t 24)
 (.exit 1)
 .skip))
 (.seq
 (.ops [ iP 6 .id [kI 0]])
 (.seq
 (.seq
 (.ops [ iP 25 .id [.t 1], iP 26 .lenSlice [.t 25], iP 27 (.bin .gtr) [.t 26, kI 0]])
 (.cond (.t 27)
 (.ops [ iP 28 .id [.t 1], iP 29 .id [.t 4], iP 30 .id [.t 1], iP 31 .lenSlice [.t 30], iP 32 (.bin .rem) [.t 29, .t 31], iP 33 (.indexAddr 1) [.t 28, .t 32], iP 34 (.load 1 false) [.t 33], iP 35 .max [.t 34, kI 0], iP 36 .min [.t 35, kI 64], iP 6 .id [.t 36]])
 .skip))
 (.seq
 (.ops [ iP 37 .id [.t 4], iP 38 (.bin .add) [.t 37, kI 1], iP 4 .id [.t 38]])
 (.seq
 (.seq
 (.ops [ iP 7 .id [kI 0]])
 (.block 2
 (.loop [2, 3, 8, 9, 10, 11, 12, 13, 14, 15, 16, 17, 18, 19, 20, 21, 22, 23, 24, 25, 26, 27, 28, 29, 30, 31, 32, 33, 34, 35, 36, 37, 38, 39, 40, 41, 42, 43, 44, 45, 46, 47, 48, 49, 50, 51, 52, 53, 54, 55, 56, 57, 58, 59, 60, 61, 62, 63, 64, 65, 66, 67, 68, 69, 70, 71, 72, 73, 74, 75, 76, 77, 78, 79, 80, 81, 82, 83, 84, 85] [] f___ref06_Disk__Crash_L0)))
 (.draw [ iP 61 .id [.t 0], iP 62 .nilCheck [.t 61], iP 63 (.fieldAddr 0) [.t 62], iP 64 (.load 1 false) [.t 63], iP 65 .id [.t 5], iP 66 .id [.t 0], iP 67 .nilCheck [.t 66], iP 68 (.fieldAddr 2) [.t 67], iP 69 (.load 1 false) [.t 68], iP 70 .id [.t 5], iP 71 .id [.t 0], iP 72 .nilCheck [.t 71], iP 73 (.fieldAddr 1) [.t 72], iP 74 (.load 1 false) [.t 73], iP 75 .id [.t 5], iP 76 (.indexAddr 64) [.t 74, .t 75], iP 77 (.load 64 true) [.t 76], iP 78 (.indexAddr 64) [.t 64, .t 65],
 ⟨none, .store 64 false, [.t 78, .t 77], none, [], [], true⟩, iP 79 (.indexAddr 1) [.t 69, .t 70],
 ⟨none, .store 1 false, [.t 79, .c (.bool false)], none, [], [], true⟩])))))))
 (.ops [ iP 15 .id [.t 5], iP 16 (.bin .add) [.t 15, kI 1], iP 5 .id [.t 16]])))
def f___ref06_Disk__Crash_H1 (t0 t1 t4 t5 : AV) : List AV := [t0, t1, .dead, .dead, t4, t5, .dead, .dead, .dead, .dead, .dead, .dead, .dead, .dead, .dead, .dead, .dead, .dead, .dead, .dead, .dead, .dead, .dead, .dead, .dead, .dead, .dead, .dead, .dead, .dead, .dead, .dead, .dead, .dead, .dead, .dead, .dead, .dead, .dead, .dead, .dead, .dead, .dead, .dead, .dead, .dead, .dead, .dead, .dead, .dead, .dead, .dead, .dead, .dead, .dead, .dead, .dead, .dead, .dead, .dead, .dead, .dead, .dead, .dead, .dead, .dead, .dead, .dead, .dead, .dead, .dead, .dead, .dead, .dead, .dead, .dead, .dead, .dead, .dead, .dead, .dead, .dead, .dead, .dead, .dead, .dead]
def f___ref06_Disk__Crash_B : ICode :=
 (.seq
 (.ops [ iP 4 .id [kI 0]])
 (.seq
 (.seq
 (.ops [ iP 5 .id [kI 0]])
 (.block 0
 (.loop [2, 3, 6, 7, 8, 9, 10, 11, 12, 13, 14, 15, 16, 17, 18, 19, 20, 21, 22, 23, 24, 25, 26, 27, 28, 29, 30, 31, 32, 33, 34, 35, 36, 37, 38, 39, 40, 41, 42, 43, 44, 45, 46, 47, 48, 49, 50, 51, 52, 53, 54, 55, 56, 57, 58, 59, 60, 61, 62, 63, 64, 65, 66, 67, 68, 69, 70, 71, 72, 73, 74, 75, 76, 77, 78, 79, 80, 81, 82, 83, 84, 85] [] f___ref06_Disk__Crash_L1)))
 (.ops [ iP 80 .id [.t 0], iP 81 .id [.t 0], iP 82 .nilCheck [.t 80], iP 83 (.fieldAddr 3) [.t 82], iN (.store 1 false) [.t 83, .c (.bool true)], iP 84 .nilCheck [.t 81], iP 85 (.fieldAddr 4) [.t 84], iN (.store 1 false) [.t 85, kI 0]])))
def f___ref06_Disk__Crash : IFn := ⟨86, 0, [], f___ref06_Disk__Crash_B⟩
def f___ref06_Disk__Start_B : ICode :=
 (.seq
 (.ops [ iP 2 .id [.t 0], iP 3 .nilCheck [.t 2], iP 4 (.fieldAddr 3) [.t 3], iP 5 (.load 1 false) [.t 4]])
 (.cond (.t 5)
 (.seq
 (.ops [ iP 6 .id [.t 0], iP 7 (.call "(*haberdash/haberdashref06.Disk).Crash" []) [.t 6, .c (.slice none 0 0)]])
 (.ops [ iP 8 .id [.t 0], iP 9 .nilCheck [.t 8], iP 10 (.fieldAddr 3) [.t 9], iN (.store 1 false) [.t 10, .c (.bool false)]]))
 .skip))
def f___ref06_Disk__Start : IFn := ⟨11, 0, [], f___ref06_Disk__Start_B⟩
def f___ref06_Disk__Read_B : ICode :=
 (.seq
 (.ops [ iP 4 (.alloc 0 zeros64 []) [], iP 5 .id [kI 0]])
 (.seq
 (.seq
 (.ops [ iP 6 .id [.t 0], iP 7 .nilCheck [.t 6], iP 8 (.fieldAddr 3) [.t 7], iP 9 (.load 1 false) [.t 8]])
 (.cond (.t 9)
 (.seq
 (.ops [ iP 10 (.build zeros64 []) [], iN (.store 64 false) [.t 4, .t 10], iP 5 .id [kI 9]])
 .ret)
 .skip))
 (.seq
 (.seq
 (.ops [ iP 11 .id [.t 1], iP 12 (.bin .lss) [.t 11, kI 0], iP 13 .id [.t 12], iG 13 false 14 .id [.t 1], iG 13 false 15 .id [.t 0], iG 13 false 16 .nilCheck [.t 15], iG 13 false 17 (.fieldAddr 0) [.t 16], iG 13 false 18 (.load 1 false) [.t 17], iG 13 false 19 .lenSlice [.t 18], iG 13 false 20 (.bin .geq) [.t 14, .t 19], iP 21 .pick [.t 13, .c (.bool true), .t 20]])
 (.cond (.t 21)
 (.seq
 (.ops [ iP 22 (.build zeros64 []) [], iN (.store 64 false) [.t 4, .t 22], iP 5 .id [kI 2]])
 .ret)
 .skip))
 (.seq
 (.ops [ iP 23 .id [.t 0], iP 24 .nilCheck [.t 23], iP 25 (.fieldAddr 0) [.t 24], iP 26 (.load 1 false) [.t 25], iP 27 .id [.t 1], iP 28 (.indexAddr 64) [.t 26, .t 27], iP 29 (.load 64 true) [.t 28], iN (.store 64 false) [.t 4, .t 29], iP 5 .id [kI 0]])
 .ret))))
def f___ref06_Disk__Read : IFn := ⟨30, 1, [.cell 4 64 true, .tmp 5], f___ref06_Disk__Read_B⟩
def f___ref06_Disk__hit_B : ICode :=
 (.seq
 (.ops [ iP 2 .id [.c (.bool false)]])
 (.seq
 (.seq
 (.ops [ iP 3 .id [.t 0], iP 4 .nilCheck [.t 3], iP 5 (.fieldAddr 4) [.t 4], iP 6 (.load 1 false) [.t 5], iP 7 (.bin .gtr) [.t 6, kI 0]])
 (.cond (.t 7)
 (.seq
 (.ops [ iP 8 .id [.t 0], iP 9 .nilCheck [.t 8], iP 10 (.fieldAddr 4) [.t 9], iP 11 (.load 1 false) [.t 10], iP 12 (.bin .sub) [.t 11, kI 1], iP 13 .nilCheck [.t 8], iP 14 (.fieldAddr 4) [.t 13], iN (.store 1 false) [.t 14, .t 12]])
 (.seq
 (.ops [ iP 15 .id [.t 0], iP 16 .nilCheck [.t 15], iP 17 (.fieldAddr 4) [.t 16], iP 18 (.load 1 false) [.t 17], iP 19 (.bin .eql) [.t 18, kI 0]])
 (.cond (.t 19)
 (.seq
 (.ops [ iP 20 .id [.t 0], iP 21 .nilCheck [.t 20], iP 22 (.fieldAddr 3) [.t 21], iN (.store 1 false) [.t 22, .c (.bool true)]])
 (.seq
 (.ops [ iP 2 .id [.c (.bool true)]])
 .ret))
 .skip)))
 .skip))
 (.seq
 (.ops [ iP 2 .id [.c (.bool false)]])
 .ret)))
def f___ref06_Disk__hit : IFn := ⟨23, 0, [.tmp 2], f___ref06_Disk__hit_B⟩
end Go.AM
namespace Go.AM
variable {prog : String → Option IFn}
theorem store_row_o {α : Type} {T : Enc α} {G L} {p i : Nat} {xs : List α} {y : α} {o v : Bool} {x : AV} (hG : G[p]? = some (some (dBlk (T.row xs) o v))) (hi : i < xs.length) (hx : x.cellsOf = some (T.E y)) :
    prim ⟨G, L⟩ (.store T.esz false) [.ptr (.o p) (xs.length * T.esz) (i * T.esz), x] = some (.v undef, ⟨G.set p (some (dBlk (T.row (xs.set i y)) o v)), L⟩) := by
  rw [px_store, hx]
  have hle : i * T.esz + T.esz ≤ xs.length * T.esz := by rw [← Nat.succ_mul]; exact Nat.mul_le_mul_right _ hi
  simp only [Option.bind_some, Hp.mayFreeze, Hp.get, hG, Option.join_some, Bool.false_eq_true, if_false, dBlk_cells]
  refine (if_pos ⟨T.row_len xs, rfl, T.len y, hle, by simp [okPut, T.lf]⟩).trans ?_
  rw [row_setw hi]
  simp only [dBlk, T.lf, Bool.and_true, Hp.put]
abbrev Sec := {t : Txt // t.length = 64}
def secE : Enc Sec := ⟨fun s => s.1.map byteAV, 64, true, fun s => by rw [List.length_map]; exact s.2, by omega, .inl rfl, fun _ => bytes_lfs, fun h => by cases h⟩
def booE : Enc Bool := ⟨fun b => [.v (.bool b)], 1, false, fun _ => rfl, by omega, .inr rfl, fun _ => rfl, fun _ b => ⟨_, rfl, rfl⟩⟩
structure DskD where
  a : List Sec
  b : List Sec
  l : List Bool
  off : Bool
  armed : Nat
structure DPos where
  q0 : Nat
  q1 : Nat
  q2 : Nat
  p : Nat
  c0 : Option Nat
  c1 : Option Nat
  c2 : Option Nat
  o0 : Bool
  o1 : Bool
  o2 : Bool
structure DskD.Ok (D : DskD) : Prop where
  b : D.b.length = D.a.length
  l : D.l.length = D.a.length
  n : D.a.length ≤ 20000
  armed : D.armed < 2 ^ 63
structure DPos.Ok (P : DPos) (g n : Nat) : Prop where
  h0 : P.q0 < P.p
  h1 : P.q1 < P.p
  h2 : P.q2 < P.p
  hp : P.p < g
  n01 : P.q0 ≠ P.q1
  n02 : P.q0 ≠ P.q2
  n12 : P.q1 ≠ P.q2
  k0 : ∀ x, P.c0 = some x → n ≤ x
  k1 : ∀ x, P.c1 = some x → n ≤ x
  k2 : ∀ x, P.c2 = some x → n ≤ x
def dsec (o : Bool) (A : List Sec) : Option Blk := some (dBlk (secE.row A) o false)
def dboo (o : Bool) (l : List Bool) : Option Blk := some (dBlk (booE.row l) o false)
def dav0 (f : Nat → Lab) (P : DPos) (D : DskD) : AV := .own (f P.q0) (D.a.length * 64) 0 D.a.length 64 P.c0
def dav1 (f : Nat → Lab) (P : DPos) (D : DskD) : AV := .own (f P.q1) (D.b.length * 64) 0 D.b.length 64 P.c1
def dav2 (f : Nat → Lab) (P : DPos) (D : DskD) : AV := .own (f P.q2) (D.l.length * 1) 0 D.l.length 1 P.c2
def dobjC (f : Nat → Lab) (P : DPos) (D : DskD) : List AV := [dav0 f P D, dav1 f P D, dav2 f P D, .v (.bool D.off), .v (.int .i64 (D.armed : Nat))]
def dobj (f : Nat → Lab) (P : DPos) (D : DskD) : Option Blk := some (sBlk (dobjC f P D) false)
def dset (G : List (Option Blk)) (P : DPos) (D : DskD) : List (Option Blk) := (((G.set P.q0 (dsec P.o0 D.a)).set P.q1 (dsec P.o1 D.b)).set P.q2 (dboo P.o2 D.l)).set P.p (dobj .o P D)
variable {G L : List (Option Blk)} {P : DPos} {D : DskD} {n : Nat}
theorem dset_len : (dset G P D).length = G.length := by simp [dset]
section
variable (h : P.Ok G.length n)
include h
theorem dset_p : (dset G P D)[P.p]? = some (dobj .o P D) := by
  have := h.hp
  unfold dset; rw [List.getElem?_set_self (by simpa using this)]
theorem dset_2 : (dset G P D)[P.q2]? = some (dboo P.o2 D.l) := by
  have := h.hp; have := h.h2
  unfold dset; rw [List.getElem?_set, if_neg (by omega), List.getElem?_set_self (by simp; omega)]
theorem dset_1 : (dset G P D)[P.q1]? = some (dsec P.o1 D.b) := by
  have := h.hp; have := h.h1; have := h.n12
  unfold dset; rw [List.getElem?_set, if_neg (by omega), List.getElem?_set, if_neg (by omega), List.getElem?_set_self (by simp; omega)]
theorem dset_0 : (dset G P D)[P.q0]? = some (dsec P.o0 D.a) := by
  have := h.hp; have := h.h0; have := h.n01; have := h.n02
  unfold dset; rw [List.getElem?_set, if_neg (by omega), List.getElem?_set, if_neg (by omega), List.getElem?_set, if_neg (by omega), List.getElem?_set_self (by omega)]
omit h in
theorem dset_o {k : Nat} (hp : k ≠ P.p) (h0 : k ≠ P.q0) (h1 : k ≠ P.q1) (h2 : k ≠ P.q2) : (dset G P D)[k]? = G[k]? := by
  unfold dset; rw [List.getElem?_set, if_neg (by omega), List.getElem?_set, if_neg (by omega), List.getElem?_set, if_neg (by omega), List.getElem?_set, if_neg (by omega)]
theorem dset_ext {X : List (Option Blk)} {E : DskD} (hl : X.length = G.length) (hp : X[P.p]? = some (dobj .o P E)) (h0 : X[P.q0]? = some (dsec P.o0 E.a)) (h1 : X[P.q1]? = some (dsec P.o1 E.b)) (h2 : X[P.q2]? = some (dboo P.o2 E.l))
    (ho : ∀ k, k ≠ P.p → k ≠ P.q0 → k ≠ P.q1 → k ≠ P.q2 → X[k]? = G[k]?) : X = dset G P E := by
  apply List.ext_getElem?
  intro k
  by_cases e : k = P.p
  · rw [e, hp, dset_p h]
  by_cases e0 : k = P.q0
  · rw [e0, h0, dset_0 h]
  by_cases e1 : k = P.q1
  · rw [e1, h1, dset_1 h]
  by_cases e2 : k = P.q2
  · rw [e2, h2, dset_2 h]
  rw [ho k e e0 e1 e2, dset_o e e0 e1 e2]
theorem set_a {A : List Sec} (hA : A.length = D.a.length) : (dset G P D).set P.q0 (dsec P.o0 A) = dset G P { D with a := A } := by
  have := h.hp; have := h.h0; have := h.n01; have := h.n02
  refine dset_ext h (by simp [dset_len]) ?_ ?_ ?_ ?_ fun k _ e0 _ _ => ?_
  · rw [List.getElem?_set, if_neg (by omega), dset_p h]; unfold dobj dobjC dav0; simp only [hA]; rfl
  · rw [List.getElem?_set_self (by rw [dset_len]; omega)]
  · rw [List.getElem?_set, if_neg (by omega), dset_1 h]
  · rw [List.getElem?_set, if_neg (by omega), dset_2 h]
  · rw [List.getElem?_set, if_neg (by omega), dset_o] <;> assumption
theorem set_b {A : List Sec} (hA : A.length = D.b.length) : (dset G P D).set P.q1 (dsec P.o1 A) = dset G P { D with b := A } := by
  have := h.hp; have := h.h1; have := h.n01; have := h.n12
  refine dset_ext h (by simp [dset_len]) ?_ ?_ ?_ ?_ fun k _ e0 _ _ => ?_
  · rw [List.getElem?_set, if_neg (by omega), dset_p h]; unfold dobj dobjC dav1; simp only [hA]; rfl
  · rw [List.getElem?_set, if_neg (by omega), dset_0 h]
  · rw [List.getElem?_set_self (by rw [dset_len]; omega)]
  · rw [List.getElem?_set, if_neg (by omega), dset_2 h]
  · rw [List.getElem?_set, if_neg (by omega), dset_o] <;> assumption
theorem set_l {A : List Bool} (hA : A.length = D.l.length) : (dset G P D).set P.q2 (dboo P.o2 A) = dset G P { D with l := A } := by
  have := h.hp; have := h.h2; have := h.n02; have := h.n12
  refine dset_ext h (by simp [dset_len]) ?_ ?_ ?_ ?_ fun k _ e0 _ _ => ?_
  · rw [List.getElem?_set, if_neg (by omega), dset_p h]; unfold dobj dobjC dav2; simp only [hA]; rfl
  · rw [List.getElem?_set, if_neg (by omega), dset_0 h]
  · rw [List.getElem?_set, if_neg (by omega), dset_1 h]
  · rw [List.getElem?_set_self (by rw [dset_len]; omega)]
  · rw [List.getElem?_set, if_neg (by omega), dset_o] <;> assumption
theorem set_p {x : Bool} {y : Nat} : (dset G P D).set P.p (dobj .o P { D with off := x, armed := y }) = dset G P { D with off := x, armed := y } := by
  have := h.hp; have := h.h0; have := h.h1; have := h.h2
  refine dset_ext h (by simp [dset_len]) ?_ ?_ ?_ ?_ fun k _ e0 _ _ => ?_
  · rw [List.getElem?_set_self (by rw [dset_len]; omega)]
  · rw [List.getElem?_set, if_neg (by omega), dset_0 h]
  · rw [List.getElem?_set, if_neg (by omega), dset_1 h]
  · rw [List.getElem?_set, if_neg (by omega), dset_2 h]
  · rw [List.getElem?_set, if_neg (by omega), dset_o] <;> assumption
theorem d_ld0 : prim ⟨dset G P D, L⟩ (.load 1 false) [.ptr (.o P.p) 5 0] = some (dav0 .o P D, ⟨dset G P D, L⟩) := by rw [px_load_o, dset_p h]; rfl
theorem d_ld1 : prim ⟨dset G P D, L⟩ (.load 1 false) [.ptr (.o P.p) 5 1] = some (dav1 .o P D, ⟨dset G P D, L⟩) := by rw [px_load_o, dset_p h]; rfl
theorem d_ld2 : prim ⟨dset G P D, L⟩ (.load 1 false) [.ptr (.o P.p) 5 2] = some (dav2 .o P D, ⟨dset G P D, L⟩) := by rw [px_load_o, dset_p h]; rfl
theorem d_ld3 : prim ⟨dset G P D, L⟩ (.load 1 false) [.ptr (.o P.p) 5 3] = some (.v (.bool D.off), ⟨dset G P D, L⟩) := by rw [px_load_o, dset_p h]; rfl
theorem d_ld4 : prim ⟨dset G P D, L⟩ (.load 1 false) [.ptr (.o P.p) 5 4] = some (.v (.int .i64 (D.armed : Nat)), ⟨dset G P D, L⟩) := by rw [px_load_o, dset_p h]; rfl
theorem d_st {i : Nat} {x : Bool} {y : Nat} {v : Value} (hi : i < 5) (hv : (dobjC .o P D).set i (.v v) = dobjC .o P { D with off := x, armed := y }) (hc : (AV.v v).cellsOf = some [.v v]) :
    prim ⟨dset G P D, L⟩ (.store 1 false) [.ptr (.o P.p) 5 i, .v v] = some (.v undef, ⟨dset G P { D with off := x, armed := y }, L⟩) := by
  rw [px_store, hc]
  simp only [Option.bind_some, Hp.mayFreeze, Bool.false_eq_true, if_false, Hp.get, dset_p h, dobj, Option.join_some]
  refine (if_pos ⟨rfl, rfl, rfl, by omega, rfl⟩).trans ?_
  have e : lay (dobjC .o P D) i [.v v] = dobjC .o P { D with off := x, armed := y } := by rw [lay_one (by simpa [dobjC] using hi)]; exact hv
  have e2 := set_p h (D := D) (x := x) (y := y)
  unfold dobj at e2
  rw [← e2, ← e]
  rfl
theorem d_st3 {x : Bool} : prim ⟨dset G P D, L⟩ (.store 1 false) [.ptr (.o P.p) 5 3, .v (.bool x)] = some (.v undef, ⟨dset G P { D with off := x }, L⟩) :=
  d_st h (x := x) (y := D.armed) (by omega) rfl rfl
theorem d_st4 {y : Nat} : prim ⟨dset G P D, L⟩ (.store 1 false) [.ptr (.o P.p) 5 4, .v (.int .i64 (y : Nat))] = some (.v undef, ⟨dset G P { D with armed := y }, L⟩) :=
  d_st h (x := D.off) (y := y) (by omega) rfl rfl
theorem d_v0 (hn : D.a.length = n) : TView secE ⟨dset G P D, L⟩ (dav0 .o P D) D.a := by
  refine ⟨rfl, ?_, secE.row_len _, rfl, ?_, by show 0 < 64; omega⟩
  · simp only [dav0, Hp.sees, Hp.get, dset_0 h, dsec, Option.join_some, dBlk_cells, secE.row_len, List.drop_zero]
    refine (if_pos rfl).trans ?_
    rw [List.take_of_length_le (by rw [secE.row_len]; exact Nat.le_refl _)]
  · unfold dav0 capOK
    cases hc : P.c0 with
    | none => trivial
    | some x => have := h.k0 x hc; simp only; omega
theorem d_v1 (hn : D.b.length = n) : TView secE ⟨dset G P D, L⟩ (dav1 .o P D) D.b := by
  refine ⟨rfl, ?_, secE.row_len _, rfl, ?_, by show 0 < 64; omega⟩
  · simp only [dav1, Hp.sees, Hp.get, dset_1 h, dsec, Option.join_some, dBlk_cells, secE.row_len, List.drop_zero]
    refine (if_pos rfl).trans ?_
    rw [List.take_of_length_le (by rw [secE.row_len]; exact Nat.le_refl _)]
  · unfold dav1 capOK
    cases hc : P.c1 with
    | none => trivial
    | some x => have := h.k1 x hc; simp only; omega
theorem d_v2 (hn : D.l.length = n) : TView booE ⟨dset G P D, L⟩ (dav2 .o P D) D.l := by
  refine ⟨rfl, ?_, booE.row_len _, rfl, ?_, by show 0 < 1; omega⟩
  · simp only [dav2, Hp.sees, Hp.get, dset_2 h, dboo, Option.join_some, dBlk_cells, booE.row_len, List.drop_zero]
    refine (if_pos rfl).trans ?_
    rw [List.take_of_length_le (by rw [booE.row_len]; exact Nat.le_refl _)]
  · unfold dav2 capOK
    cases hc : P.c2 with
    | none => trivial
    | some x => have := h.k2 x hc; simp only; omega
theorem d_sta {i : Nat} {s : Sec} (hi : i < D.a.length) : prim ⟨dset G P D, L⟩ (.store 64 false) [elemPtr (dav0 .o P D) 64 i, .agg (s.1.map byteAV)] = some (.v undef, ⟨dset G P { D with a := D.a.set i s }, L⟩) := by
  have := store_row_o (T := secE) (G := dset G P D) (L := L) (p := P.q0) (y := s) (x := .agg (s.1.map byteAV)) (dset_0 h) hi rfl
  rw [← set_a h (A := D.a.set i s) (by simp)]
  simp only [dav0, elemPtr, Nat.zero_add]
  exact this
theorem d_stb {i : Nat} {s : Sec} (hi : i < D.b.length) : prim ⟨dset G P D, L⟩ (.store 64 false) [elemPtr (dav1 .o P D) 64 i, .agg (s.1.map byteAV)] = some (.v undef, ⟨dset G P { D with b := D.b.set i s }, L⟩) := by
  have := store_row_o (T := secE) (G := dset G P D) (L := L) (p := P.q1) (y := s) (x := .agg (s.1.map byteAV)) (dset_1 h) hi rfl
  rw [← set_b h (A := D.b.set i s) (by simp)]
  simp only [dav1, elemPtr, Nat.zero_add]
  exact this
theorem d_stl {i : Nat} {x : Bool} (hi : i < D.l.length) : prim ⟨dset G P D, L⟩ (.store 1 false) [elemPtr (dav2 .o P D) 1 i, .v (.bool x)] = some (.v undef, ⟨dset G P { D with l := D.l.set i x }, L⟩) := by
  have := store_row_o (T := booE) (G := dset G P D) (L := L) (p := P.q2) (y := x) (x := .v (.bool x)) (dset_2 h) hi rfl
  rw [← set_l h (A := D.l.set i x) (by simp)]
  simp only [dav2, elemPtr, Nat.zero_add]
  exact this
end
end Go.AM
namespace Go.AM
variable {prog : String → Option IFn}
structure DiskLib (prog : String → Option IFn) : Prop where
  new : prog "haberdash/disk.New" = some f_disk_New
  write : prog "(*haberdash/disk.Disk).Write" = some f___disk_Disk__Write
  sync : prog "(*haberdash/disk.Disk).Sync" = some f___disk_Disk__Sync
  crash : prog "(*haberdash/disk.Disk).Crash" = some f___disk_Disk__Crash
  crash1 : prog "(*haberdash/disk.Disk).Crash$1" = some f___disk_Disk__Crash_1
  start : prog "(*haberdash/disk.Disk).Start" = some f___disk_Disk__Start
  start1 : prog "(*haberdash/disk.Disk).Start$1" = some f___disk_Disk__Start_1
  read : prog "(*haberdash/disk.Disk).Read" = some f___disk_Disk__Read
  arm : prog "(*haberdash/disk.Disk).Arm" = some f___disk_Disk__Arm
  down : prog "(*haberdash/disk.Disk).Down" = some f___disk_Disk__Down
  len : prog "(*haberdash/disk.Disk).Len" = some f___disk_Disk__Len
  may : prog "(*haberdash/disk.Disk).may" = some f___disk_Disk__may
  hit : prog "(*haberdash/disk.Disk).hit" = some f___disk_Disk__hit
  settle : prog "(*haberdash/disk.Disk).settle" = some f___disk_Disk__settle
def mayE (D : DskD) (at' : Int) : Int := if D.off then 9 else if at' < 0 ∨ at' ≥ (D.b.length : Int) then 2 else 0
def DskD.hits (D : DskD) : Bool := D.armed == 1
def DskD.hit (D : DskD) : DskD := if D.armed = 0 then D else { D with armed := D.armed - 1, off := D.armed == 1 }
variable {G L : List (Option Blk)} {P : DPos} {D : DskD} {n : Nat}
theorem dset_app {X : List (Option Blk)} (h : P.Ok G.length n) : dset (G ++ X) P D = dset G P D ++ X := by
  have := h.hp; have := h.h0; have := h.h1; have := h.h2
  unfold dset
  rw [List.set_append_left _ _ (by omega), List.set_append_left _ _ (by simp; omega), List.set_append_left _ _ (by simp; omega), List.set_append_left _ _ (by simp; omega)]
theorem DPos.Ok.app {X : List (Option Blk)} (h : P.Ok G.length n) : P.Ok (G ++ X).length n := ⟨h.h0, h.h1, h.h2, by rw [List.length_append]; have := h.hp; omega, h.n01, h.n02, h.n12, h.k0, h.k1, h.k2⟩
theorem may_spec (H : DiskLib prog) (h : P.Ok G.length n) {at' : Int} :
    Ev prog (.call "(*haberdash/disk.Disk).may" [.ptr (.o P.p) 5 0, .v (.int .i64 at')] (dset G P D)) (.ret (.v (.int .i64 (mayE D at'))) (dset G P D)) := by
  refine call_of_fin H.may ?_
  simp only [f___disk_Disk__may_B, enter, List.length_cons, List.length_nil, List.replicate, Nat.reduceAdd, Nat.reduceSub, List.cons_append, List.nil_append]
  have ln : ∀ L, prim ⟨dset G P D, L⟩ .lenSlice [dav1 .o P D] = some (.v (.int .i64 (D.b.length : Nat)), ⟨dset G P D, L⟩) := fun L => rfl
  simp (disch := first | (simp only [DS, reduceCtorEq]; done) | omega) only [WS, St.guard, St.put, evalO, reduceCtorEq, reduceIte, Nat.reduceAdd, Nat.reduceEqDiff, isNilV, Hp.isNil, d_ld3 h, d_ld1 h]
  cases hoff : D.off
  · by_cases h1 : at' < 0
    · have e : mayE D at' = 2 := by unfold mayE; rw [hoff, if_neg (by simp), if_pos (.inl h1)]
      simp (disch := first | (simp only [DS, reduceCtorEq]; done) | omega) only [WS, St.guard, St.put, evalO, reduceCtorEq, reduceIte, Nat.reduceAdd, Nat.reduceEqDiff, h1, decide_true, fin_tmp, leave_v, e]
      simp
    · by_cases h2 : at' ≥ (D.b.length : Int)
      · have e : mayE D at' = 2 := by unfold mayE; rw [hoff, if_neg (by simp), if_pos (.inr h2)]
        simp (disch := first | (simp only [DS, reduceCtorEq]; done) | omega) only [WS, St.guard, St.put, evalO, reduceCtorEq, reduceIte, Nat.reduceAdd, Nat.reduceEqDiff, h1, decide_false, d_ld1 h, ln, h2, decide_true, fin_tmp, leave_v, e]
        simp
      · have e : mayE D at' = 0 := by unfold mayE; rw [hoff, if_neg (by simp), if_neg (by omega)]
        simp (disch := first | (simp only [DS, reduceCtorEq]; done) | omega) only [WS, St.guard, St.put, evalO, reduceCtorEq, reduceIte, Nat.reduceAdd, Nat.reduceEqDiff, h1, decide_false, d_ld1 h, ln, h2, fin_tmp, leave_v, e]
        simp
  · have e : mayE D at' = 9 := by unfold mayE; rw [hoff]; rfl
    simp (disch := first | (simp only [DS, reduceCtorEq]; done) | omega) only [WS, St.guard, St.put, evalO, reduceCtorEq, reduceIte, Nat.reduceAdd, Nat.reduceEqDiff, fin_tmp, leave_v, e]
    simp
theorem hit_spec (H : DiskLib prog) (h : P.Ok G.length n) (ha : D.armed < 2 ^ 63) :
    Ev prog (.call "(*haberdash/disk.Disk).hit" [.ptr (.o P.p) 5 0] (dset G P D)) (.ret (.v (.bool D.hits)) (dset G P D.hit)) := by
  refine call_of_fin H.hit ?_
  simp only [f___disk_Disk__hit_B, enter, List.length_cons, List.length_nil, List.replicate, Nat.reduceAdd, Nat.reduceSub, List.cons_append, List.nil_append]
  simp (disch := first | (simp only [DS, reduceCtorEq]; done) | omega) only [WS, St.guard, St.put, evalO, reduceCtorEq, reduceIte, Nat.reduceAdd, Nat.reduceEqDiff, d_ld4 h]
  by_cases h0 : D.armed = 0
  · have e1 : D.hits = false := by unfold DskD.hits; rw [h0]; rfl
    have e2 : D.hit = D := by unfold DskD.hit; rw [if_pos h0]
    have e3 : ((D.armed : Int) == 0) = true := by rw [h0]; rfl
    simp (disch := first | (simp only [DS, reduceCtorEq]; done) | omega) only [WS, St.guard, St.put, evalO, reduceCtorEq, reduceIte, Nat.reduceAdd, Nat.reduceEqDiff, e3, fin_tmp, leave_v, e1, e2]
    simp
  · have e3 : ((D.armed : Int) == 0) = false := by rw [beq_eq_false_iff_ne]; omega
    have e4 : (D.armed : Int) - 1 = ((D.armed - 1 : Nat) : Int) := by omega
    have e5 : (((D.armed - 1 : Nat) : Int) == 0) = (D.armed == 1) := by
      by_cases h1 : D.armed = 1
      · rw [h1]; rfl
      · rw [beq_eq_false_iff_ne.2 h1, beq_eq_false_iff_ne]; omega
    have e2 : D.hit = { D with armed := D.armed - 1, off := D.armed == 1 } := by unfold DskD.hit; rw [if_neg h0]
    simp (disch := first | (simp only [DS, reduceCtorEq]; done) | omega) only [WS, St.guard, St.put, evalO, reduceCtorEq, reduceIte, Nat.reduceAdd, Nat.reduceEqDiff, e3, vBin_sub_i64, e4, d_st4 h, d_ld4 h, e5, d_st3 h, d_ld3 h, fin_tmp, leave_v, e2, DskD.hits]
    simp
theorem Down_spec (H : DiskLib prog) (h : P.Ok G.length n) :
    Ev prog (.call "(*haberdash/disk.Disk).Down" [.ptr (.o P.p) 5 0] (dset G P D)) (.ret (.v (.bool D.off)) (dset G P D)) := by
  refine call_of_fin H.down ?_
  simp only [f___disk_Disk__Down_B, enter, List.length_cons, List.length_nil, List.replicate, Nat.reduceAdd, Nat.reduceSub, List.cons_append, List.nil_append]
  simp (disch := first | (simp only [DS, reduceCtorEq]; done) | omega) only [WS, St.guard, St.put, evalO, reduceCtorEq, reduceIte, Nat.reduceAdd, Nat.reduceEqDiff, isNilV, Hp.isNil, d_ld3 h, fin_tmp, leave_v]
  simp
theorem Len_spec (H : DiskLib prog) (h : P.Ok G.length n) :
    Ev prog (.call "(*haberdash/disk.Disk).Len" [.ptr (.o P.p) 5 0] (dset G P D)) (.ret (.v (.int .i64 (D.b.length : Nat))) (dset G P D)) := by
  refine call_of_fin H.len ?_
  simp only [f___disk_Disk__Len_B, enter, List.length_cons, List.length_nil, List.replicate, Nat.reduceAdd, Nat.reduceSub, List.cons_append, List.nil_append]
  have ln : ∀ L, prim ⟨dset G P D, L⟩ .lenSlice [dav1 .o P D] = some (.v (.int .i64 (D.b.length : Nat)), ⟨dset G P D, L⟩) := fun L => rfl
  simp (disch := first | (simp only [DS, reduceCtorEq]; done) | omega) only [WS, St.guard, St.put, evalO, reduceCtorEq, reduceIte, Nat.reduceAdd, Nat.reduceEqDiff, isNilV, Hp.isNil, d_ld1 h, ln, fin_tmp, leave_v]
  simp
theorem load_sec {G L} {j n : Nat} {bs : Txt} {o v : Bool} (hL : L[j]? = some (some (dBlk (bs.map byteAV) o v))) (hn : bs.length = n) : prim ⟨G, L⟩ (.load n true) [.ptr (.l j) n 0] = some (.agg (bs.map byteAV), ⟨G, L⟩) := by
  rw [px_load_l, hL]
  show (if (bs.map byteAV).length = n ∧ 0 + n ≤ n then (whole true (((bs.map byteAV).drop 0).take n)).map fun a => (a, _) else none) = _
  rw [if_pos ⟨by simpa using hn, by omega⟩, List.drop_zero, List.take_of_length_le (by simp [hn])]
  rfl
theorem fin_sec {t u sz : Nat} {s : St} {bs : Txt} {x : Value} (hl : prim s.h (.load sz true) [s.env.getD t .dead] = some (.agg (bs.map byteAV), s.h)) (hu : s.env.getD u .dead = .v x) : fin [.cell t sz true, .tmp u] s = some (.tup [.agg (bs.map byteAV), .v x], s.h.G) := by
  have : fin [.cell t sz true, .tmp u] s = ((prim s.h (.load sz true) [s.env.getD t .dead]).map (·.1)).bind fun a => s.h.leave (.tup [a, s.env.getD u .dead]) := by
    simp only [fin, resVals, resVal]
    cases (prim s.h (.load sz true) [s.env.getD t .dead]).map (·.1) <;> rfl
  rw [this, hl, hu]
  exact leave_lf (by simp [AV.lf, AV.lf.lfs, bytes_lfs])
def zsec : Sec := ⟨zs64, rfl⟩
def secAt (A : List Sec) (i : Int) : Sec := A.getD i.toNat zsec
def readV (D : DskD) (at' : Int) : Sec := if mayE D at' = 0 then secAt D.b at' else zsec
theorem mayE_in {at' : Int} (h0 : mayE D at' = 0) : 0 ≤ at' ∧ at' < (D.b.length : Int) ∧ D.off = false := by
  unfold mayE at h0
  cases ho : D.off
  · rw [ho, if_neg (by simp)] at h0
    by_cases h1 : at' < 0 ∨ at' ≥ (D.b.length : Int)
    · rw [if_pos h1] at h0; omega
    · exact ⟨by omega, by omega, rfl⟩
  · rw [ho, if_pos rfl] at h0; omega
theorem Read_op (H : DiskLib prog) (h : P.Ok G.length D.b.length) {at' : Int} :
    Ev prog (.call "(*haberdash/disk.Disk).Read" [.ptr (.o P.p) 5 0, .v (.int .i64 at')] (dset G P D)) (.ret (.tup [.agg ((readV D at').1.map byteAV), .v (.int .i64 (mayE D at'))]) (dset G P D)) := by
  refine call_of_fin H.read ?_
  simp only [f___disk_Disk__Read_B, enter, List.length_cons, List.length_nil, List.replicate, Nat.reduceAdd, Nat.reduceSub, List.cons_append, List.nil_append]
  simp (disch := first | (simp only [DS, reduceCtorEq]; done) | omega) only [WS, St.guard, St.put, evalO, reduceCtorEq, reduceIte, Nat.reduceAdd, Nat.reduceEqDiff, alloc_zeros]
  refine (WP_p (x := .int .i64 (mayE D at')) (by
    have := may_spec H (D := D) (h.app (X := [some (dBlk (zs64.map byteAV) false false)])) (at' := at')
    rw [dset_app h] at this
    exact this) (by exact ⟨dBlk_good, trivial⟩)).2 ?_
  simp (disch := first | (simp only [DS, reduceCtorEq]; done) | omega) only [WS, St.guard, St.put, evalO, reduceCtorEq, reduceIte, Nat.reduceAdd, Nat.reduceEqDiff]
  by_cases h0 : mayE D at' = 0
  · obtain ⟨hi0, hi1, hoff⟩ := mayE_in h0
    obtain ⟨i, rfl⟩ : ∃ i : Nat, at' = (i : Int) := ⟨at'.toNat, by omega⟩
    have hi : i < D.b.length := by omega
    have e1 : (mayE D (i : Int) != 0) = false := by rw [h0]; rfl
    have er : readV D (i : Int) = D.b[i] := by
      unfold readV secAt; rw [if_pos h0, Int.toNat_natCast, List.getD_eq_getElem?_getD, List.getElem?_eq_getElem hi]; rfl
    have hbi : D.b[i]? = some D.b[i] := List.getElem?_eq_getElem hi
    have v := fun L => d_v1 (L := L) h (D := D) rfl
    have ix : ∀ L, prim ⟨dset G P D, L⟩ (.indexAddr 64) [dav1 .o P D, .v (.int .i64 (i : Int))] = some (elemPtr (dav1 .o P D) 64 i, ⟨dset G P D, L⟩) := fun L => (v L).index hi
    have ld : ∀ L, prim ⟨dset G P D, L⟩ (.load 64 true) [elemPtr (dav1 .o P D) 64 i] = some (.agg (D.b[i].1.map byteAV), ⟨dset G P D, L⟩) := fun L => (v L).load hbi
    have st := store_all (G := dset G P D) (L := [some (dBlk (zs64.map byteAV) false false)]) (j := 0) (n := 64) (xs := D.b[i].1.map byteAV) (cells := zs64.map byteAV) (o := false) (v := false) rfl rfl (by rw [List.length_map]; exact D.b[i].2) bytes_lfs
    rw [er]
    simp (disch := first | (simp only [DS, reduceCtorEq]; done) | omega) only [WS, St.guard, St.put, evalO, reduceCtorEq, reduceIte, Nat.reduceAdd, Nat.reduceEqDiff, e1, d_ld1 h, ix, ld, st]
    rw [h0]
    refine ⟨.inr trivial, ?_⟩
    exact fin_sec (bs := D.b[i].1) (load_sec (o := false) (v := false) rfl D.b[i].2) rfl
  · have e1 : (mayE D at' != 0) = true := by rw [bne_iff_ne]; exact h0
    have er : readV D at' = zsec := by unfold readV; rw [if_neg h0]
    have st := store_all (G := dset G P D) (L := [some (dBlk (zs64.map byteAV) false false)]) (j := 0) (n := 64) (xs := zs64.map byteAV) (cells := zs64.map byteAV) (o := false) (v := false) rfl rfl rfl bytes_lfs
    rw [er]
    simp (disch := first | (simp only [DS, reduceCtorEq]; done) | omega) only [WS, St.guard, St.put, evalO, reduceCtorEq, reduceIte, Nat.reduceAdd, Nat.reduceEqDiff, e1, build_zeros, st]
    refine ⟨.inr trivial, ?_⟩
    exact fin_sec (bs := zs64) (load_sec (o := false) (v := false) rfl rfl) rfl
def fullS (c : UInt8) : Sec := ⟨List.replicate 64 c, by simp⟩
def DskD.put (D : DskD) (i : Nat) (s : Sec) : DskD := { D with b := D.b.set i s, l := D.l.set i true }
def DskD.write (D : DskD) (at' : Int) (s : Sec) : DskD := if mayE D at' = 0 then (D.put at'.toNat s).hit else D
def writeE (D : DskD) (at' : Int) : Int := if mayE D at' = 0 then (if D.hits then 9 else 0) else mayE D at'
theorem Write_spec (H : DiskLib prog) (h : P.Ok G.length D.b.length) (hl : D.l.length = D.b.length) (ha : D.armed < 2 ^ 63) {at' : Int} {s : Sec} :
    Ev prog (.call "(*haberdash/disk.Disk).Write" [.ptr (.o P.p) 5 0, .v (.int .i64 at'), .agg (s.1.map byteAV)] (dset G P D)) (.ret (.v (.int .i64 (writeE D at'))) (dset G P (D.write at' s))) := by
  refine call_of_fin H.write ?_
  simp only [f___disk_Disk__Write_B, enter, List.length_cons, List.length_nil, List.replicate, Nat.reduceAdd, Nat.reduceSub, List.cons_append, List.nil_append]
  simp (disch := first | (simp only [DS, reduceCtorEq]; done) | omega) only [WS, St.guard, St.put, evalO, reduceCtorEq, reduceIte, Nat.reduceAdd, Nat.reduceEqDiff, box_bytes, s.2]
  have g1 : ∀ G, Good ⟨G, [some (dBlk (s.1.map byteAV) false false)]⟩ := fun G => ⟨dBlk_good, trivial⟩
  refine (WP_p (x := .int .i64 (mayE D at')) (by
    have := may_spec H (D := D) (h.app (X := [some (dBlk (s.1.map byteAV) false false)])) (at' := at')
    rw [dset_app h] at this
    exact this) (by exact g1 _)).2 ?_
  simp (disch := first | (simp only [DS, reduceCtorEq]; done) | omega) only [WS, St.guard, St.put, evalO, reduceCtorEq, reduceIte, Nat.reduceAdd, Nat.reduceEqDiff]
  by_cases h0 : mayE D at' = 0
  · obtain ⟨hi0, hi1, hoff⟩ := mayE_in h0
    obtain ⟨i, rfl⟩ : ∃ i : Nat, at' = (i : Int) := ⟨at'.toNat, by omega⟩
    have hi : i < D.b.length := by omega
    have e1 : (mayE D (i : Int) != 0) = false := by rw [h0]; rfl
    have ew : D.write (i : Int) s = (D.put i s).hit := by unfold DskD.write; rw [if_pos h0]; rfl
    have ee : writeE D (i : Int) = if (D.put i s).hits then 9 else 0 := by unfold writeE; rw [if_pos h0]; rfl
    have v1 := fun L => d_v1 (L := L) h (D := D) rfl
    have ix1 : ∀ L, prim ⟨dset G P D, L⟩ (.indexAddr 64) [dav1 .o P D, .v (.int .i64 (i : Int))] = some (elemPtr (dav1 .o P D) 64 i, ⟨dset G P D, L⟩) := fun L => (v1 L).index hi
    have v2 := fun L => d_v2 (L := L) h (D := { D with b := D.b.set i s }) hl
    have ix2 : ∀ L, prim ⟨dset G P { D with b := D.b.set i s }, L⟩ (.indexAddr 1) [dav2 .o P D, .v (.int .i64 (i : Int))] = some (elemPtr (dav2 .o P D) 1 i, ⟨dset G P { D with b := D.b.set i s }, L⟩) := fun L => (v2 L).index (by show i < D.l.length; omega)
    have ld := load_sec (G := dset G P D) (L := [some (dBlk (s.1.map byteAV) false false)]) (j := 0) (bs := s.1) (o := false) (v := false) rfl s.2
    rw [ew, ee]
    simp (disch := first | (simp only [DS, reduceCtorEq]; done) | omega) only [WS, St.guard, St.put, evalO, reduceCtorEq, reduceIte, Nat.reduceAdd, Nat.reduceEqDiff, e1, d_ld1 h, d_ld2 h, ld, ix1]
    refine WDP_loud (d_stb h hi) (g1 _).okAt ?_
    simp (disch := first | (simp only [DS, reduceCtorEq]; done) | omega) only [WS, St.guard, St.put, evalO, reduceCtorEq, reduceIte, Nat.reduceAdd, Nat.reduceEqDiff, ix2]
    refine WDP_loud (d_stl (D := { D with b := D.b.set i s }) h (by show i < D.l.length; omega)) (g1 _).okAt ?_
    simp (disch := first | (simp only [DS, reduceCtorEq]; done) | omega) only [WS, St.guard, St.put, evalO, reduceCtorEq, reduceIte, Nat.reduceAdd, Nat.reduceEqDiff]
    refine WP_of (op_turn ⟨dset G P (D.put i s).hit, [some (dBlk (s.1.map byteAV) false false)]⟩ (by
      have := hit_spec H (D := D.put i s) (h.app (X := [some (dBlk (s.1.map byteAV) false false)])) ha
      rw [dset_app h, dset_app h] at this
      exact this) rfl (by simp [dset_len]) rfl (g1 _) (g1 _)) ?_
    cases hh : (D.put i s).hits
    · simp (disch := first | (simp only [DS, reduceCtorEq]; done) | omega) only [WS, St.guard, St.put, evalO, reduceCtorEq, reduceIte, Nat.reduceAdd, Nat.reduceEqDiff, fin_tmp, leave_v]
      simp
    · simp (disch := first | (simp only [DS, reduceCtorEq]; done) | omega) only [WS, St.guard, St.put, evalO, reduceCtorEq, reduceIte, Nat.reduceAdd, Nat.reduceEqDiff, fin_tmp, leave_v]
      simp
  · have e1 : (mayE D at' != 0) = true := by rw [bne_iff_ne]; exact h0
    have ew : D.write at' s = D := by unfold DskD.write; rw [if_neg h0]
    have ee : writeE D at' = mayE D at' := by unfold writeE; rw [if_neg h0]
    rw [ew, ee]
    simp (disch := first | (simp only [DS, reduceCtorEq]; done) | omega) only [WS, St.guard, St.put, evalO, reduceCtorEq, reduceIte, Nat.reduceAdd, Nat.reduceEqDiff, e1, fin_tmp, leave_v]
    simp
end Go.AM
namespace Go.AM
variable {prog : String → Option IFn}
variable {G L : List (Option Blk)} {P : DPos} {D : DskD} {n : Nat}
theorem take_drop_set {α : Type} {xs ys : List α} {i : Nat} {x : α} (hx : xs[i]? = some x) (hy : i < ys.length) : (xs.take i ++ ys.drop i).set i x = xs.take (i + 1) ++ ys.drop (i + 1) := by
  have hi := lt_of_get hx
  rw [List.set_append_right _ _ (by rw [List.length_take]; omega), List.length_take, Nat.min_eq_left (by omega), Nat.sub_self, List.take_add_one, hx, List.drop_eq_getElem_cons hy, List.set_cons_zero]
  simp
theorem good0 {G : List (Option Blk)} : Good ⟨G, []⟩ := trivial
def syncN (D : DskD) (i : Nat) : DskD := { D with a := D.b.take i ++ D.a.drop i, l := (List.replicate D.l.length false).take i ++ D.l.drop i }
def DskD.sync (D : DskD) : DskD := if mayE D 0 = 0 then (if D.hits then D.hit else { D.hit with a := D.b, l := List.replicate D.l.length false }) else D
theorem Sync_spec (H : DiskLib prog) (h : P.Ok G.length D.b.length) (hl : D.l.length = D.b.length) (hb : D.a.length = D.b.length) (ha : D.armed < 2 ^ 63) (hN : D.b.length ≤ 20000) :
    Ev prog (.call "(*haberdash/disk.Disk).Sync" [.ptr (.o P.p) 5 0] (dset G P D)) (.ret (.v (.int .i64 (writeE D 0))) (dset G P D.sync)) := by
  refine call_of_fin H.sync ?_
  simp only [f___disk_Disk__Sync_B, enter, List.length_cons, List.length_nil, List.replicate, Nat.reduceAdd, Nat.reduceSub, List.cons_append, List.nil_append]
  simp (disch := first | (simp only [DS, reduceCtorEq]; done) | omega) only [WS, St.guard, St.put, evalO, reduceCtorEq, reduceIte, Nat.reduceAdd, Nat.reduceEqDiff]
  refine (WP_p (x := .int .i64 (mayE D 0)) (by exact (by have := may_spec H (D := D) (h.app (X := [])) (at' := 0); rw [dset_app h] at this; exact this)) (by exact trivial)).2 ?_
  simp (disch := first | (simp only [DS, reduceCtorEq]; done) | omega) only [WS, St.guard, St.put, evalO, reduceCtorEq, reduceIte, Nat.reduceAdd, Nat.reduceEqDiff]
  by_cases h0 : mayE D 0 = 0
  · have e1 : (mayE D 0 != 0) = false := by rw [h0]; rfl
    have ee : writeE D 0 = if D.hits then 9 else 0 := by unfold writeE; rw [if_pos h0]
    have es : D.sync = if D.hits then D.hit else { D.hit with a := D.b, l := List.replicate D.l.length false } := by unfold DskD.sync; rw [if_pos h0]
    rw [ee, es]
    simp (disch := first | (simp only [DS, reduceCtorEq]; done) | omega) only [WS, St.guard, St.put, evalO, reduceCtorEq, reduceIte, Nat.reduceAdd, Nat.reduceEqDiff, e1]
    refine WP_of (op_turn ⟨dset G P D.hit, []⟩ (by
      have := hit_spec H (D := D) (h.app (X := [])) ha
      rw [dset_app h, dset_app h] at this
      exact this) rfl (by simp [dset_len]) rfl trivial trivial) ?_
    cases hh : D.hits
    · have hE : D.hit.b = D.b ∧ D.hit.a = D.a ∧ D.hit.l = D.l := by unfold DskD.hit; split <;> exact ⟨rfl, rfl, rfl⟩
      generalize D.hit = E at *
      obtain ⟨hEb, hEa, hEl⟩ := hE
      have ln : ∀ L, prim ⟨dset G P E, L⟩ .lenSlice [dav1 .o P E] = some (.v (.int .i64 (D.b.length : Nat)), ⟨dset G P E, L⟩) := fun L => by rw [← hEb]; rfl
      simp (disch := first | (simp only [DS, reduceCtorEq]; done) | omega) only [WS, St.guard, St.put, evalO, reduceCtorEq, reduceIte, Nat.reduceAdd, Nat.reduceEqDiff, d_ld1 h, ln]
      have hlen1 : ∀ i, i ≤ D.b.length → (syncN E i).a.length = D.b.length := fun i hi => by simp [syncN, hEb, hEa]; omega
      have hlen2 : ∀ i, i ≤ D.b.length → (syncN E i).l.length = D.b.length := fun i hi => by simp [syncN, hEl]; omega
      refine WC_count (fun i => ⟨f___disk_Disk__Sync_H0 (.ptr (.o P.p) 5 0) (.v (.int .i64 (D.b.length : Nat))) (.v (.int .i64 (i : Nat))), ⟨dset G P (syncN E i), []⟩⟩) D.b.length ?_ (fun i hi => ?_) ?_
      · have : syncN E 0 = E := by unfold syncN; simp
        rw [this]
        exact clear_fre (by simp only [clear_nil, List.foldl_cons, List.foldl_nil, Option.some.injEq, LS, reduceCtorEq, reduceIte, Nat.reduceAdd] <;> rfl) (by rfl) (by rfl) (by rfl)
      · have hlt : (i : Int) < (D.b.length : Int) := by omega
        have hbi : E.b[i]? = some D.b[i] := by rw [hEb]; exact List.getElem?_eq_getElem hi
        have v1 := fun L => d_v1 (L := L) h (D := syncN E i) (congrArg List.length hEb)
        have v0 := fun L => d_v0 (L := L) h (D := syncN E i) (hlen1 i (by omega))
        have ix1 : ∀ L, prim ⟨dset G P (syncN E i), L⟩ (.indexAddr 64) [dav1 .o P (syncN E i), .v (.int .i64 (i : Int))] = some (elemPtr (dav1 .o P (syncN E i)) 64 i, ⟨dset G P (syncN E i), L⟩) := fun L => (v1 L).index (by show i < E.b.length; rw [hEb]; exact hi)
        have ld : ∀ L, prim ⟨dset G P (syncN E i), L⟩ (.load 64 true) [elemPtr (dav1 .o P (syncN E i)) 64 i] = some (.agg (D.b[i].1.map byteAV), ⟨dset G P (syncN E i), L⟩) := fun L => (v1 L).load hbi
        have ix0 : ∀ L, prim ⟨dset G P (syncN E i), L⟩ (.indexAddr 64) [dav0 .o P (syncN E i), .v (.int .i64 (i : Int))] = some (elemPtr (dav0 .o P (syncN E i)) 64 i, ⟨dset G P (syncN E i), L⟩) := fun L => (v0 L).index (by rw [hlen1 i (by omega)]; exact hi)
        have v2 := fun L => d_v2 (L := L) h (D := { syncN E i with a := (syncN E i).a.set i D.b[i] }) (hlen2 i (by omega))
        have ix2 : ∀ L, prim ⟨dset G P { syncN E i with a := (syncN E i).a.set i D.b[i] }, L⟩ (.indexAddr 1) [dav2 .o P (syncN E i), .v (.int .i64 (i : Int))] = some (elemPtr (dav2 .o P (syncN E i)) 1 i, ⟨dset G P { syncN E i with a := (syncN E i).a.set i D.b[i] }, L⟩) := fun L => (v2 L).index (by rw [hlen2 i (by omega)]; exact hi)
        have hnext : { syncN E i with a := (syncN E i).a.set i D.b[i], l := (syncN E i).l.set i false } = syncN E (i + 1) := by
          unfold syncN
          simp only
          rw [take_drop_set hbi (by rw [hEa]; omega), take_drop_set (by rw [List.getElem?_replicate, if_pos (by rw [hEl]; omega)]) (by rw [hEl]; omega)]
        simp (disch := first | (simp only [DS, reduceCtorEq]; done) | omega) only [f___disk_Disk__Sync_L0, f___disk_Disk__Sync_H0, WS, St.guard, St.put, evalO, reduceCtorEq, reduceIte, Nat.reduceAdd, Nat.reduceEqDiff, hlt, decide_true, d_ld0 h, d_ld1 h, d_ld2 h, ix1, ld, ix0]
        refine WDP_loud (d_sta h (by rw [hlen1 i (by omega)]; exact hi)) (good0.okAt) ?_
        simp (disch := first | (simp only [DS, reduceCtorEq]; done) | omega) only [WS, St.guard, St.put, evalO, reduceCtorEq, reduceIte, Nat.reduceAdd, Nat.reduceEqDiff, ix2]
        refine WDP_loud (d_stl (D := { syncN E i with a := (syncN E i).a.set i D.b[i] }) h (by rw [hlen2 i (by omega)]; exact hi)) (good0.okAt) ?_
        simp only [hnext]
        simp (disch := first | (simp only [DS, reduceCtorEq]; done) | omega) only [WS, St.guard, St.put, evalO, reduceCtorEq, reduceIte, Nat.reduceAdd, Nat.reduceEqDiff, vBin_add_i64]
        exact clear_fre (by simp only [clear_nil, List.foldl_cons, List.foldl_nil, Option.some.injEq, LS, reduceCtorEq, reduceIte, Nat.reduceAdd] <;> rfl) (by rfl) (by rfl) (by rfl)
      · have hend : syncN E D.b.length = { E with a := D.b, l := List.replicate D.l.length false } := by
          unfold syncN
          rw [hEb, hEa, hEl, List.take_of_length_le (Nat.le_refl _), List.drop_of_length_le (by omega), List.take_of_length_le (by simp; omega), List.drop_of_length_le (by omega), List.append_nil, List.append_nil]
        rw [hend]
        simp (disch := first | (simp only [DS, reduceCtorEq]; done) | omega) only [f___disk_Disk__Sync_L0, f___disk_Disk__Sync_H0, WS, St.guard, St.put, evalO, reduceCtorEq, reduceIte, Nat.reduceAdd, Nat.reduceEqDiff, decide_false, fin_tmp, leave_v]
        simp
    · simp (disch := first | (simp only [DS, reduceCtorEq]; done) | omega) only [WS, St.guard, St.put, evalO, reduceCtorEq, reduceIte, Nat.reduceAdd, Nat.reduceEqDiff, fin_tmp, leave_v]
      simp
  · have e1 : (mayE D 0 != 0) = true := by rw [bne_iff_ne]; exact h0
    have ew : D.sync = D := by unfold DskD.sync; rw [if_neg h0]
    have ee : writeE D 0 = mayE D 0 := by unfold writeE; rw [if_neg h0]
    rw [ew, ee]
    simp (disch := first | (simp only [DS, reduceCtorEq]; done) | omega) only [WS, St.guard, St.put, evalO, reduceCtorEq, reduceIte, Nat.reduceAdd, Nat.reduceEqDiff, e1, fin_tmp, leave_v]
    simp
def clampN (k : Int) : Nat := (min (max k 0) 64).toNat
theorem clampN_le {k : Int} : clampN k ≤ 64 := by unfold clampN; omega
def mixS (k : Int) (s new : Sec) : Sec := ⟨new.1.take (clampN k) ++ s.1.drop (clampN k), by have := s.2; have := new.2; have := clampN_le (k := k); simp; omega⟩
def settleN (K : Nat → Int) (D : DskD) : Nat → DskD × Nat
  | 0 => (D, 0)
  | k + 1 =>
    let q := settleN K D k
    if q.1.l.getD k false then
      ({ q.1 with a := q.1.a.set k (mixS (K q.2) (q.1.a.getD k zsec) (q.1.b.getD k zsec)), b := q.1.b.set k (mixS (K q.2) (q.1.a.getD k zsec) (q.1.b.getD k zsec)), l := q.1.l.set k false }, q.2 + 1)
    else q
theorem settleN_len {K} : ∀ k, (settleN K D k).1.a.length = D.a.length ∧ (settleN K D k).1.b.length = D.b.length ∧ (settleN K D k).1.l.length = D.l.length ∧ (settleN K D k).2 ≤ k
  | 0 => ⟨rfl, rfl, rfl, Nat.le_refl _⟩
  | k + 1 => by
    obtain ⟨h1, h2, h3, h4⟩ := settleN_len (K := K) k
    unfold settleN
    simp only
    split
    · exact ⟨by simp [h1], by simp [h2], by simp [h3], by simp only; omega⟩
    · exact ⟨h1, h2, h3, by omega⟩
def DskD.settle (K : Nat → Int) (D : DskD) : DskD := { (settleN K D D.b.length).1 with armed := 0 }
theorem sliceArr_hiO {h} {n off : Nat} {ℓ m : _} {k : IntKind} {j : Nat} (hj : j ≤ n) (ho : off + n ≤ m) : prim h (.sliceArr n 1 false true false) [.ptr ℓ m off, .v (.int k (j : Int))] = some (.own ℓ m off j 1 (some n), h) := by
  rw [px_sliceArr]; simp [bounds, natOf_nat, AM.leCap, hj, ho]
theorem lay_part {cs : List AV} {off n : Nat} {xs : List AV} (hx : xs.length = n) (hn : n ≤ 64) (ho : off + 64 ≤ cs.length) : lay cs off xs = lay cs off (xs ++ ((cs.drop off).take 64).drop n) := by
  unfold lay
  rw [List.append_assoc, List.append_assoc]
  congr 1
  rw [List.append_assoc]
  congr 1
  have e : (xs ++ ((cs.drop off).take 64).drop n).length = 64 := by rw [List.length_append, List.length_drop, List.length_take, List.length_drop]; omega
  rw [e, hx, ← List.drop_drop, ← List.drop_drop]
  generalize hys : cs.drop off = ys
  have hl : 64 ≤ ys.length := by rw [← hys, List.length_drop]; omega
  conv => lhs; rw [← List.take_append_drop 64 ys]
  rw [List.drop_append_of_le_length (by rw [List.length_take]; omega)]
theorem d_copy (h : P.Ok G.length n) {i : Nat} {k : Int} (ha : i < D.a.length) (hb : i < D.b.length) :
    prim ⟨dset G P D, L⟩ (.copy 1) [.own (.o P.q0) (D.a.length * 64) (i * 64) (clampN k) 1 (some 64), .own (.o P.q1) (D.b.length * 64) (i * 64) (clampN k) 1 (some 64)] =
      some (.v (goInt (clampN k : Nat)), ⟨dset G P { D with a := D.a.set i (mixS k (D.a.getD i zsec) (D.b.getD i zsec)) }, L⟩) := by
  have hk := clampN_le (k := k)
  have hai : D.a[i]? = some D.a[i] := List.getElem?_eq_getElem ha
  have hbi : D.b[i]? = some D.b[i] := List.getElem?_eq_getElem hb
  have ea : D.a.getD i zsec = D.a[i] := by rw [List.getD_eq_getElem?_getD, hai]; rfl
  have eb : D.b.getD i zsec = D.b[i] := by rw [List.getD_eq_getElem?_getD, hbi]; rfl
  rw [ea, eb]
  have hla : i * 64 + 64 ≤ D.a.length * 64 := by omega
  have hlb : i * 64 + 64 ≤ D.b.length * 64 := by omega
  have cb : ((secE.row D.b).drop (i * 64)).take 64 = D.b[i].1.map byteAV := secE.row_chunk hbi
  have ca : ((secE.row D.a).drop (i * 64)).take 64 = D.a[i].1.map byteAV := secE.row_chunk hai
  have src : (⟨dset G P D, L⟩ : Hp).source (.own (.o P.q1) (D.b.length * 64) (i * 64) (clampN k) 1 (some 64)) = some (clampN k, (D.b[i].1.take (clampN k)).map byteAV) := by
    have hs : (⟨dset G P D, L⟩ : Hp).sees (.own (.o P.q1) (D.b.length * 64) (i * 64) (clampN k) 1 (some 64)) = some ((D.b[i].1.take (clampN k)).map byteAV) := by
      simp only [Hp.sees, Hp.get, dset_1 h, dsec, Option.join_some, dBlk_cells, secE.row_len]
      refine (if_pos rfl).trans ?_
      rw [List.map_take, ← cb, List.take_take, Nat.mul_one, Nat.min_eq_left hk]
    show (match lenOf (.own (.o P.q1) (D.b.length * 64) (i * 64) (clampN k) 1 (some 64)), (⟨dset G P D, L⟩ : Hp).sees (.own (.o P.q1) (D.b.length * 64) (i * 64) (clampN k) 1 (some 64)) with
      | some n, some cs => some (n, cs) | _, _ => none) = _
    rw [hs]; rfl
  rw [px_copy, src]
  have hlen : ((D.b[i].1.take (clampN k)).map byteAV).length = clampN k := by have := D.b[i].2; simp; omega
  have into : (⟨dset G P D, L⟩ : Hp).copyInto 1 (.own (.o P.q0) (D.a.length * 64) (i * 64) (clampN k) 1 (some 64)) ((D.b[i].1.take (clampN k)).map byteAV) (clampN k) =
      some ⟨dset G P { D with a := D.a.set i (mixS k D.a[i] D.b[i]) }, L⟩ := by
    have e3 : lay (secE.row D.a) (i * 64) ((D.b[i].1.take (clampN k)).map byteAV) = secE.row (D.a.set i (mixS k D.a[i] D.b[i])) := by
      rw [lay_part hlen hk (by rw [secE.row_len]; exact hla), ca, ← List.map_drop, ← List.map_append]
      exact row_setw (T := secE) (z' := mixS k D.a[i] D.b[i]) ha
    unfold Hp.copyInto
    by_cases h0 : clampN k = 0
    · rw [if_pos h0]
      have : mixS k D.a[i] D.b[i] = D.a[i] := by
        apply Subtype.ext
        show D.b[i].1.take (clampN k) ++ D.a[i].1.drop (clampN k) = _
        rw [h0]; rfl
      rw [this, List.set_getElem_self]
    · rw [if_neg h0]
      simp only [Hp.get, dset_0 h, dsec, Option.join_some, dBlk_cells]
      refine (if_pos ⟨secE.row_len _, rfl, trivial, Nat.le_refl _, by omega, by simp only [okPut, bytes_lfs, Bool.true_or]⟩).trans ?_
      have e4 : ((List.take (clampN k) (D.b[i].1.map byteAV)).take (clampN k * 1)) = (D.b[i].1.take (clampN k)).map byteAV := by rw [Nat.mul_one, List.take_take, Nat.min_self, List.map_take]
      have e5 : ((D.b[i].1.take (clampN k)).map byteAV).take (clampN k * 1) = (D.b[i].1.take (clampN k)).map byteAV := by rw [Nat.mul_one, List.take_of_length_le (by omega)]
      rw [e5, e3, ← set_a h (A := D.a.set i (mixS k D.a[i] D.b[i])) (by simp)]
      simp only [dsec, dBlk, bytes_lfs, Bool.and_true, Hp.put]
  simp only [lenOf, Option.bind_some, hlen, Nat.mul_one, if_true]
  rw [show Nat.min (clampN k) (clampN k) = clampN k from Nat.min_self _, into]
  rfl
end Go.AM
namespace Go.AM
variable {prog : String → Option IFn}
variable {G L : List (Option Blk)} {P : DPos} {D : DskD} {n : Nat}
theorem min64 {k : Int} : (if (64 : Int) < (if (0 : Int) > k then 0 else k) then (64 : Int) else (if (0 : Int) > k then 0 else k)) = ((clampN k : Nat) : Int) := by unfold clampN; split <;> split <;> omega
theorem settle_spec (H : DiskLib prog) (h : P.Ok G.length D.b.length) (hl : D.l.length = D.b.length) (hb : D.a.length = D.b.length) (hN : D.b.length ≤ 20000) {fv : AV} {K : Nat → Int} (hf : ∀ ks, noRef ks fv = true)
    (hK : ∀ (E : DskD) (i : Nat), i < D.b.length → Ev prog (.op (.callV []) [fv, .v (.int .i64 (i : Nat))] ⟨dset G P E, []⟩) (.val (.v (.int .i64 (K i))) ⟨dset G P E, []⟩)) :
    Ev prog (.call "(*haberdash/disk.Disk).settle" [.ptr (.o P.p) 5 0, fv] (dset G P D)) (.ret (.tup []) (dset G P (D.settle K))) := by
  refine call_of_fin H.settle ?_
  simp only [f___disk_Disk__settle_B, enter, List.length_cons, List.length_nil, List.replicate, Nat.reduceAdd, Nat.reduceSub, List.cons_append, List.nil_append]
  have ln : ∀ L, prim ⟨dset G P D, L⟩ .lenSlice [dav1 .o P D] = some (.v (.int .i64 (D.b.length : Nat)), ⟨dset G P D, L⟩) := fun L => rfl
  simp (disch := first | (simp only [DS, reduceCtorEq]; done) | omega) only [WS, St.guard, St.put, evalO, reduceCtorEq, reduceIte, Nat.reduceAdd, Nat.reduceEqDiff, d_ld1 h, ln]
  refine WC_count (fun i => ⟨f___disk_Disk__settle_H0 (.ptr (.o P.p) 5 0) fv (.v (.int .i64 ((settleN K D i).2 : Nat))) (.v (.int .i64 (D.b.length : Nat))) (.v (.int .i64 (i : Nat))), ⟨dset G P (settleN K D i).1, []⟩⟩) D.b.length ?_ (fun i hi => ?_) ?_
  · exact clear_fre (by simp only [clear_nil, List.foldl_cons, List.foldl_nil, Option.some.injEq, LS, reduceCtorEq, reduceIte, Nat.reduceAdd] <;> rfl) (by rfl) (by simp only [f___disk_Disk__settle_H0, List.all_cons, List.all_nil, noRef_v, noRef_dead, noRef_own, noRef_ptr, noRef_nil, Bool.and_true, Bool.true_and, Bool.and_self, List.contains_cons, List.contains_nil, Bool.or_false, Nat.reduceBEq, Bool.not_false, hf]) (by rfl)
  · have hlt : (i : Int) < (D.b.length : Int) := by omega
    obtain ⟨e1, e2, e3, e4⟩ := settleN_len (D := D) (K := K) i
    have hst : settleN K D (i + 1) = if (settleN K D i).1.l.getD i false then
      ({ (settleN K D i).1 with a := (settleN K D i).1.a.set i (mixS (K (settleN K D i).2) ((settleN K D i).1.a.getD i zsec) ((settleN K D i).1.b.getD i zsec)), b := (settleN K D i).1.b.set i (mixS (K (settleN K D i).2) ((settleN K D i).1.a.getD i zsec) ((settleN K D i).1.b.getD i zsec)), l := (settleN K D i).1.l.set i false }, (settleN K D i).2 + 1)
      else settleN K D i := rfl
    rw [hst]
    generalize settleN K D i = q at *
    obtain ⟨E, c⟩ := q
    simp only at e1 e2 e3 e4 ⊢
    have hi1 : i < E.b.length := by omega
    have hi0 : i < E.a.length := by omega
    have hi2 : i < E.l.length := by omega
    have hli : E.l[i]? = some E.l[i] := List.getElem?_eq_getElem hi2
    have el : E.l.getD i false = E.l[i] := by rw [List.getD_eq_getElem?_getD, hli]; rfl
    have v2 := fun L => d_v2 (L := L) h (D := E) (by omega)
    have ix2 : ∀ L, prim ⟨dset G P E, L⟩ (.indexAddr 1) [dav2 .o P E, .v (.int .i64 (i : Int))] = some (elemPtr (dav2 .o P E) 1 i, ⟨dset G P E, L⟩) := fun L => (v2 L).index hi2
    have ld2 : ∀ L, prim ⟨dset G P E, L⟩ (.load 1 false) [elemPtr (dav2 .o P E) 1 i] = some (.v (.bool E.l[i]), ⟨dset G P E, L⟩) := fun L => (v2 L).load hli
    simp (disch := first | (simp only [DS, reduceCtorEq]; done) | omega) only [f___disk_Disk__settle_L0, f___disk_Disk__settle_H0, WS, St.guard, St.put, evalO, reduceCtorEq, reduceIte, Nat.reduceAdd, Nat.reduceEqDiff, hlt, decide_true, d_ld2 h, ix2, ld2]
    rw [el]
    cases hlo : E.l[i]
    · simp (disch := first | (simp only [DS, reduceCtorEq]; done) | omega) only [WS, St.guard, St.put, evalO, reduceCtorEq, reduceIte, Nat.reduceAdd, Nat.reduceEqDiff, vBin_add_i64]
      exact clear_fre (by simp only [clear_nil, List.foldl_cons, List.foldl_nil, Option.some.injEq, LS, reduceCtorEq, reduceIte, Nat.reduceAdd] <;> rfl) (by rfl) (by simp only [f___disk_Disk__settle_H0, List.all_cons, List.all_nil, noRef_v, noRef_dead, noRef_own, noRef_ptr, noRef_nil, Bool.and_true, Bool.true_and, Bool.and_self, List.contains_cons, List.contains_nil, Bool.or_false, Nat.reduceBEq, Bool.not_false, hf]) (by rfl)
    · simp (disch := first | (simp only [DS, reduceCtorEq]; done) | omega) only [WS, St.guard, St.put, evalO, reduceCtorEq, reduceIte, Nat.reduceAdd, Nat.reduceEqDiff]
      refine WP_of (hK E c (by omega)) ?_
      simp (disch := first | (simp only [DS, reduceCtorEq]; done) | omega) only [WS, St.guard, St.put, evalO, reduceCtorEq, reduceIte, Nat.reduceAdd, Nat.reduceEqDiff, maxs, mins, min64]
      generalize K c = k
      have hk := clampN_le (k := k)
      have v0 := fun L => d_v0 (L := L) h (D := E) (by omega)
      have v1 := fun L => d_v1 (L := L) h (D := E) (by omega)
      have ix0 : ∀ L, prim ⟨dset G P E, L⟩ (.indexAddr 64) [dav0 .o P E, .v (.int .i64 (i : Int))] = some (elemPtr (dav0 .o P E) 64 i, ⟨dset G P E, L⟩) := fun L => (v0 L).index hi0
      have ix1 : ∀ L, prim ⟨dset G P E, L⟩ (.indexAddr 64) [dav1 .o P E, .v (.int .i64 (i : Int))] = some (elemPtr (dav1 .o P E) 64 i, ⟨dset G P E, L⟩) := fun L => (v1 L).index hi1
      have sl0 : ∀ L, prim ⟨dset G P E, L⟩ (.sliceArr 64 1 false true false) [elemPtr (dav0 .o P E) 64 i, .v (.int .i64 ((clampN k : Nat) : Int))] = some (.own (.o P.q0) (E.a.length * 64) (i * 64) (clampN k) 1 (some 64), ⟨dset G P E, L⟩) := fun L => by
        simp only [dav0, elemPtr, Nat.zero_add]; exact sliceArr_hiO hk (by omega)
      have sl1 : ∀ L, prim ⟨dset G P E, L⟩ (.sliceArr 64 1 false true false) [elemPtr (dav1 .o P E) 64 i, .v (.int .i64 ((clampN k : Nat) : Int))] = some (.own (.o P.q1) (E.b.length * 64) (i * 64) (clampN k) 1 (some 64), ⟨dset G P E, L⟩) := fun L => by
        simp only [dav1, elemPtr, Nat.zero_add]; exact sliceArr_hiO hk (by omega)
      simp (disch := first | (simp only [DS, reduceCtorEq]; done) | omega) only [WS, St.guard, St.put, evalO, reduceCtorEq, reduceIte, Nat.reduceAdd, Nat.reduceEqDiff, d_ld0 h, d_ld1 h, ix0, ix1, sl0, sl1]
      refine WDP_loud (d_copy h hi0 hi1) (good0.okAt) ?_
      generalize mixS k (E.a.getD i zsec) (E.b.getD i zsec) = m
      have h0' : i < (E.a.set i m).length := by rw [List.length_set]; exact hi0
      have hm : (E.a.set i m)[i]? = some m := List.getElem?_set_self hi0
      have w0 := fun L => d_v0 (L := L) h (D := { E with a := E.a.set i m }) (by simp; omega)
      have w1 := fun L => d_v1 (L := L) h (D := { E with a := E.a.set i m }) (by simp; omega)
      have w2 := fun L => d_v2 (L := L) h (D := { E with a := E.a.set i m, b := E.b.set i m }) (by simp; omega)
      have jx0 : ∀ L, prim ⟨dset G P { E with a := E.a.set i m }, L⟩ (.indexAddr 64) [dav0 .o P { E with a := E.a.set i m }, .v (.int .i64 (i : Int))] = some (elemPtr (dav0 .o P { E with a := E.a.set i m }) 64 i, ⟨dset G P { E with a := E.a.set i m }, L⟩) := fun L => (w0 L).index h0'
      have jl0 : ∀ L, prim ⟨dset G P { E with a := E.a.set i m }, L⟩ (.load 64 true) [elemPtr (dav0 .o P { E with a := E.a.set i m }) 64 i] = some (.agg (m.1.map byteAV), ⟨dset G P { E with a := E.a.set i m }, L⟩) := fun L => (w0 L).load hm
      have jx1 : ∀ L, prim ⟨dset G P { E with a := E.a.set i m }, L⟩ (.indexAddr 64) [dav1 .o P { E with a := E.a.set i m }, .v (.int .i64 (i : Int))] = some (elemPtr (dav1 .o P { E with a := E.a.set i m }) 64 i, ⟨dset G P { E with a := E.a.set i m }, L⟩) := fun L => (w1 L).index hi1
      have jx2 : ∀ L, prim ⟨dset G P { E with a := E.a.set i m, b := E.b.set i m }, L⟩ (.indexAddr 1) [dav2 .o P { E with a := E.a.set i m }, .v (.int .i64 (i : Int))] = some (elemPtr (dav2 .o P { E with a := E.a.set i m }) 1 i, ⟨dset G P { E with a := E.a.set i m, b := E.b.set i m }, L⟩) := fun L => (w2 L).index hi2
      simp (disch := first | (simp only [DS, reduceCtorEq]; done) | omega) only [WS, St.guard, St.put, evalO, reduceCtorEq, reduceIte, Nat.reduceAdd, Nat.reduceEqDiff, d_ld0 h, d_ld1 h, d_ld2 h, jx0, jl0, jx1]
      refine WDP_loud (d_stb (D := { E with a := E.a.set i m }) h hi1) (good0.okAt) ?_
      simp (disch := first | (simp only [DS, reduceCtorEq]; done) | omega) only [WS, St.guard, St.put, evalO, reduceCtorEq, reduceIte, Nat.reduceAdd, Nat.reduceEqDiff, jx2]
      refine WDP_loud (d_stl (D := { E with a := E.a.set i m, b := E.b.set i m }) h hi2) (good0.okAt) ?_
      simp (disch := first | (simp only [DS, reduceCtorEq]; done) | omega) only [WS, St.guard, St.put, evalO, reduceCtorEq, reduceIte, Nat.reduceAdd, Nat.reduceEqDiff, vBin_add_i64]
      exact clear_fre (by simp only [clear_nil, List.foldl_cons, List.foldl_nil, Option.some.injEq, LS, reduceCtorEq, reduceIte, Nat.reduceAdd] <;> rfl) (by rfl) (by simp only [f___disk_Disk__settle_H0, List.all_cons, List.all_nil, noRef_v, noRef_dead, noRef_own, noRef_ptr, noRef_nil, Bool.and_true, Bool.true_and, Bool.and_self, List.contains_cons, List.contains_nil, Bool.or_false, Nat.reduceBEq, Bool.not_false, hf]) (by rfl)
  · have hse : D.settle K = { (settleN K D D.b.length).1 with armed := 0 } := rfl
    rw [hse]
    have st4 := fun L => d_st4 (L := L) h (D := (settleN K D D.b.length).1) (y := 0)
    simp only [Int.cast_ofNat_Int] at st4
    simp (disch := first | (simp only [DS, reduceCtorEq]; done) | omega) only [f___disk_Disk__settle_L0, f___disk_Disk__settle_H0, WS, St.guard, St.put, evalO, reduceCtorEq, reduceIte, Nat.reduceAdd, Nat.reduceEqDiff, decide_false, st4]
    exact ⟨.inl trivial, fin_nil⟩
def keepAt (ks : List Int) (i : Nat) : Int := if ks.length = 0 then 0 else ks.getD (i % ks.length) 0
theorem vRem_nat {i m : Nat} (h0 : 0 < m) (hi : i < 2 ^ 63) : vBin .rem (.int .i64 (i : Int)) (.int .i64 (m : Int)) = some (.int .i64 ((i % m : Nat) : Int)) := by
  simp only [vBin, ne_eq, not_true_eq_false, if_false]
  rw [if_neg (by omega)]; rfl
theorem Crash1_spec (H : DiskLib prog) {G} {q : Nat} {a : AV} {ks : List Int} {d : Bool} (hq : G[q]? = some (some (sBlk [a] d))) (va : ∀ L, View ⟨G, L⟩ a 1 ks.length (ks.map intAV)) {i : Nat} (hi : i < 2 ^ 63) :
    Ev prog (.call "(*haberdash/disk.Disk).Crash$1" [.v (.int .i64 (i : Nat)), .ptr (.o q) 1 0] G) (.ret (.v (.int .i64 (keepAt ks i))) G) := by
  refine call_of_fin H.crash1 ?_
  simp only [f___disk_Disk__Crash_1_B, enter, List.length_cons, List.length_nil, List.replicate, Nat.reduceAdd, Nat.reduceSub, List.cons_append, List.nil_append]
  have ld : ∀ L, prim ⟨G, L⟩ (.load 1 false) [.ptr (.o q) 1 0] = some (a, ⟨G, L⟩) := fun L => by rw [px_load_o, hq]; rfl
  simp (disch := first | (simp only [DS, reduceCtorEq]; done) | omega) only [WS, St.guard, St.put, evalO, reduceCtorEq, reduceIte, Nat.reduceAdd, Nat.reduceEqDiff, ld, (va _).lenSlice, goInt]
  by_cases h0 : ks.length = 0
  · have e : ((ks.length : Int) == 0) = true := by rw [h0]; rfl
    have ek : keepAt ks i = 0 := by unfold keepAt; rw [if_pos h0]
    simp (disch := first | (simp only [DS, reduceCtorEq]; done) | omega) only [WS, St.guard, St.put, evalO, reduceCtorEq, reduceIte, Nat.reduceAdd, Nat.reduceEqDiff, e, fin_tmp, leave_v, ek]
    simp
  · have e : ((ks.length : Int) == 0) = false := by rw [beq_eq_false_iff_ne]; omega
    have hm : i % ks.length < ks.length := Nat.mod_lt _ (by omega)
    have hg : ks[i % ks.length]? = some ks[i % ks.length] := List.getElem?_eq_getElem hm
    have ek : keepAt ks i = ks[i % ks.length] := by unfold keepAt; rw [if_neg h0, List.getD_eq_getElem?_getD, hg]; rfl
    have ix : ∀ L, prim ⟨G, L⟩ (.indexAddr 1) [a, .v (.int .i64 ((i % ks.length : Nat) : Int))] = some (elemPtr a 1 (i % ks.length), ⟨G, L⟩) := fun L => (va L).index hm
    have le : ∀ L, prim ⟨G, L⟩ (.load 1 false) [elemPtr a 1 (i % ks.length)] = some (intAV ks[i % ks.length], ⟨G, L⟩) := fun L => (va L).load1 (by rw [List.getElem?_map, hg]; rfl)
    simp (disch := first | (simp only [DS, reduceCtorEq]; done) | omega) only [WS, St.guard, St.put, evalO, reduceCtorEq, reduceIte, Nat.reduceAdd, Nat.reduceEqDiff, e, ld, (va _).lenSlice, goInt]
    rw [vRem_nat (by omega) hi]
    simp (disch := first | (simp only [DS, reduceCtorEq]; done) | omega) only [WS, St.guard, St.put, evalO, reduceCtorEq, reduceIte, Nat.reduceAdd, Nat.reduceEqDiff, ix, le, intAV, fin_tmp, leave_v, ek]
    simp
def DskD.crash (D : DskD) (ks : List Int) : DskD := { D.settle (keepAt ks) with off := true }
def DskD.start (D : DskD) : DskD := if D.off then { D.settle (fun _ => 0) with off := false } else D
end Go.AM
