import Derived.Test.YtdcnjckkcfoppaaAMA
import Derived.Test.YtdcnjckkcfoppaaCrc
import Derived.Test.YtdcnjckkcfoppaaLeafA
import Derived.Test.YtdcnjckkcfoppaaHelp
import Derived.Test.YtdcnjckkcfoppaaScopeA
import Derived.Test.YtdcnjckkcfoppaaSortA
import Derived.Test.YtdcnjckkcfoppaaPackA
import Derived.Test.YtdcnjckkcfoppaaDiskA
import Derived.Test.YtdcnjckkcfoppaaJourA
set_option linter.unusedVariables false
set_option linter.unusedSimpArgs false
namespace Go.AM
def f_law09_VaultErrors_B : ICode :=
 (.seq
 (.ops [ iP 8 .id [.c (.bool false)]])
 (.seq
 (.ops [ iP 20 .id [.t 0], iP 21 (.call "haberdash/haberdashplay.Mod" []) [.t 20, kI 12], iP 22 (.bin .add) [kI 1, .t 21], iP 0 .id [.t 22]])
 (.seq
 (.ops [ iP 24 .id [.t 0], iP 25 (.call "haberdash/disk.New" [0, 1, 2, 3]) [.t 24], iP 23 .id [.t 25], iP 26 (.extract 0) [.t 23], iP 27 (.extract 1) [.t 23], iP 9 .id [.t 26], iP 10 .id [.t 27]])
 (.seq
 (.ops [ iP 28 .id [.t 0], iP 29 (.call "haberdash/haberdashref06.New" [4, 5, 6, 7]) [.t 28], iP 11 .id [.t 29]])
 (.seq
 (.seq
 (.ops [ iP 30 (.call "haberdash/haberdashlaw09.awake" []) [], iP 31 (.un .not) [.t 30], iP 32 .id [.t 31], iG 32 false 33 .id [.t 9], iG 32 false 34 (.eqNil false .ptr) [.t 33, .c (.pointer none)], iP 35 .pick [.t 32, .c (.bool true), .t 34]])
 (.cond (.t 35)
 (.seq
 (.ops [ iP 8 .id [.c (.bool false)]])
 .ret)
 .skip))
 (.seq
 (.ops [ iP 36 (.build zeros64 [(0, 1), (1, 1), (2, 1), (3, 1)]) [.c (.int .u8 255), .c (.int .u8 255), .c (.int .u8 255), .c (.int .u8 255)], iP 12 (.alloc 8 zeros64 []) [], iN (.store 64 false) [.t 12, .t 36]])
 (.seq
 (.seq
 (.ops [ iP 37 .id [.t 3]])
 (.cond (.t 37)
 (.ops [ iP 38 (.build zeros64 [(60, 1), (61, 1), (62, 1), (63, 1)]) [.c (.int .u8 255), .c (.int .u8 255), .c (.int .u8 255), .c (.int .u8 255)], iN (.store 64 false) [.t 12, .t 38]])
 .skip))
 (.seq
 (.draw [ iP 39 .id [.t 9], iP 40 .id [.t 2], iP 41 .id [.t 0], iP 42 (.bin .mul) [kI 2, .t 41], iP 43 (.call "haberdash/haberdashplay.Mod" []) [.t 40, .t 42], iP 44 (.load 64 true) [.t 12],
 ⟨some 45, .call "(*haberdash/disk.Disk).Write" [], [.t 39, .t 43, .t 44], none, [], [0, 1, 2, 3], false⟩])
 (.seq
 (.draw [ iP 46 .id [.t 11], iP 47 .id [.t 2], iP 48 .id [.t 0], iP 49 (.bin .mul) [kI 2, .t 48], iP 50 (.call "haberdash/haberdashplay.Mod" []) [.t 47, .t 49], iP 51 (.load 64 true) [.t 12],
 ⟨some 52, .call "(*haberdash/haberdashref06.Disk).Write" [], [.t 46, .t 50, .t 51], none, [], [4, 5, 6, 7], false⟩])
 (.seq
 (.seq
 (.ops [ iP 53 .id [.t 1]])
 (.cond (.t 53)
 (.seq
 (.ops [ iP 54 .id [.t 9], iP 55 (.buildSlice 9 false 1 1 [(.int .i64 0)] [(0, 1)]) [kI 64], iP 56 (.call "(*haberdash/disk.Disk).Crash" []) [.t 54, .t 55]])
 (.ops [ iP 57 .id [.t 11], iP 58 (.buildSlice 10 false 1 1 [(.int .i64 0)] [(0, 1)]) [kI 64], iP 59 (.call "(*haberdash/haberdashref06.Disk).Crash" []) [.t 57, .t 58]]))
 .skip))
 (.seq
 (.ops [ iP 61 .id [.t 9], iP 62 (.call "haberdash/vault.Open" [11, 12, 13]) [.t 61], iP 60 .id [.t 62], iP 63 (.extract 0) [.t 60], iP 64 (.extract 1) [.t 60], iP 13 .id [.t 63], iP 14 .id [.t 64]])
 (.seq
 (.ops [ iP 66 .id [.t 11], iP 67 (.call "haberdash/haberdashref06.OpenVault" [14, 15, 16]) [.t 66], iP 65 .id [.t 67], iP 68 (.extract 0) [.t 65], iP 69 (.extract 1) [.t 65], iP 15 .id [.t 68], iP 16 .id [.t 69]])
 (.seq
 (.ops [ iP 71 (.call "haberdash/vault.Open" [17, 18, 19]) [.c (.pointer none)], iP 70 .id [.t 71], iP 72 (.extract 0) [.t 70], iP 73 (.extract 1) [.t 70], iP 17 .id [.t 72], iP 18 .id [.t 73]])
 (.seq
 (.ops [ iP 19 .id [.c (.pointer none)]])
 (.seq
 (.ops [ iP 74 .id [.t 14], iP 75 .id [.t 16], iP 76 (.bin .eql) [.t 74, .t 75], iP 77 .id [.t 76], iG 77 true 78 .id [.t 13], iG 77 true 79 (.eqNil false .ptr) [.t 78, .c (.pointer none)], iG 77 true 80 .id [.t 14], iG 77 true 81 (.bin .neq) [.t 80, kI 0], iG 77 true 82 (.eqBool false) [.t 79, .t 81], iP 83 .pick [.t 77, .t 82, .c (.bool false)], iP 84 .id [.t 83], iG 84 true 85 .id [.t 18], iG 84 true 86 (.bin .eql) [.t 85, kI 1], iP 87 .pick [.t 84, .t 86, .c (.bool false)], iP 88 .id [.t 87], iG 88 true 89 .id [.t 19], iG 88 true 90 (.buildSlice 20 false 1 1 [(.int .u8 0)] [(0, 1)]) [.c (.int .u8 1)], iG 88 true 91 (.call "(*haberdash/vault.Vault).Add" []) [.t 89, .t 90], iG 88 true 92 (.bin .eql) [.t 91, kI 1], iP 93 .pick [.t 88, .t 92, .c (.bool false)], iP 94 .id [.t 93], iG 94 true 95 .id [.t 19], iG 94 true 96 (.call "(*haberdash/vault.Vault).Compact" []) [.t 95, .c (.slice none 0 0)], iG 94 true 97 (.bin .eql) [.t 96, kI 1], iP 98 .pick [.t 94, .t 97, .c (.bool false)], iP 99 .id [.t 98], iG 99 true 100 .id [.t 19], iG 99 true 101 (.call "(*haberdash/vault.Vault).Base" [21]) [.t 100], iG 99 true 102 .lenSlice [.t 101], iG 99 true 103 (.bin .eql) [.t 102, kI 0], iP 104 .pick [.t 99, .t 103, .c (.bool false)], iP 105 .id [.t 104], iG 105 true 106 .id [.t 19], iG 105 true 107 (.call "(*haberdash/vault.Vault).Records" [22]) [.t 106], iG 105 true 108 .lenSlice [.t 107], iG 105 true 109 (.bin .eql) [.t 108, kI 0], iP 110 .pick [.t 105, .t 109, .c (.bool false)], iP 111 .id [.t 110], iG 111 true 112 .id [.t 19], iG 111 true 113 (.call "(*haberdash/vault.Vault).Half" []) [.t 112], iG 111 true 114 (.bin .eql) [.t 113, kI 0], iP 115 .pick [.t 111, .t 114, .c (.bool false)], iP 116 .id [.t 115], iG 116 true 117 .id [.t 19], iG 116 true 118 (.call "(*haberdash/vault.Vault).Used" []) [.t 117], iG 116 true 119 (.bin .eql) [.t 118, kI 0], iP 120 .pick [.t 116, .t 119, .c (.bool false)], iP 121 .id [.t 120], iG 121 true 122 .id [.t 19], iG 121 true 123 (.call "(*haberdash/vault.Vault).Disk" [23, 24, 25, 26]) [.t 122], iG 121 true 124 (.eqNil false .ptr) [.t 123, .c (.pointer none)], iP 125 .pick [.t 121, .t 124, .c (.bool false)], iP 8 .id [.t 125]])
 .ret)))))))))))))))
def f_law09_VaultErrors : IFn := ⟨126, 27, [.tmp 8], f_law09_VaultErrors_B⟩
def f___vault_Vault__begin_Open_B : ICode :=
 (.seq
 (.ops [ iP 6 .id [kI 0]])
 (.seq
 (.ops [ iP 11 .id [.t 0], iP 12 .nilCheck [.t 11], iP 13 (.fieldAddr 0) [.t 12], iP 14 (.load 1 false) [.t 13], iP 15 (.call "(*haberdash/disk.Disk).Len" []) [.t 14], iP 16 (.bin .quo) [.t 15, kI 2], iP 7 .id [.t 16]])
 (.seq
 (.draw [ iP 18 .id [.t 0], iP 19 .nilCheck [.t 18], iP 20 (.fieldAddr 0) [.t 19], iP 21 (.load 1 false) [.t 20], iP 22 .id [.t 1], iP 23 .id [.t 7], iP 24 (.bin .mul) [.t 22, .t 23], iP 25 .id [.t 7], iP 26 .id [.t 0], iP 27 .nilCheck [.t 26], iP 28 (.fieldAddr 3) [.t 27], iP 29 (.load 1 false) [.t 28], iP 30 (.call "haberdash/journal.New" [5, 6]) [.t 21, .t 24, .t 25, .t 29], iP 17 .id [.t 30], iP 31 (.extract 0) [.t 17], iP 32 (.extract 1) [.t 17], iP 8 .id [.t 31], iP 9 .id [.t 32]])
 (.seq
 (.seq
 (.ops [ iP 33 .id [.t 9], iP 34 (.bin .neq) [.t 33, kI 0]])
 (.cond (.t 34)
 (.seq
 (.ops [ iP 35 .id [.t 9], iP 6 .id [.t 35]])
 .ret)
 .skip))
 (.seq
 (.seq
 (.ops [ iP 36 .id [.t 8], iP 37 .id [.t 2], iP 38 (.call "haberdash/vault.based" [7]) [.t 37], iP 39 (.call "(*haberdash/journal.Journal).Add" []) [.t 36, .t 38], iP 10 .id [.t 39]])
 (.seq
 (.ops [ iP 40 .id [.t 10], iP 41 (.bin .neq) [.t 40, kI 0]])
 (.cond (.t 41)
 (.seq
 (.ops [ iP 42 .id [.t 10], iP 6 .id [.t 42]])
 .ret)
 .skip)))
 (.seq
 (.ops [ iP 43 .id [.t 0], iP 44 .id [.t 0], iP 45 .id [.t 8], iP 46 .id [.t 1], iP 47 .nilCheck [.t 43], iP 48 (.fieldAddr 1) [.t 47], iN (.store 1 false) [.t 48, .t 45], iP 49 .nilCheck [.t 44], iP 50 (.fieldAddr 2) [.t 49], iN (.store 1 false) [.t 50, .t 46]])
 (.seq
 (.ops [ iP 6 .id [kI 0]])
 .ret)))))))
def f___vault_Vault__begin_Open : IFn := ⟨51, 3, [.tmp 6], f___vault_Vault__begin_Open_B⟩
def f_vault_Open_L0 : ICode :=
 (.seq
 (.ops [ iP 38 (.bin .lss) [.t 37, kI 2]])
 (.seq
 (.cond (.t 38)
 .skip
 (.exit 1))
 (.seq
 (.block 2
 (.seq
 (.ops [ iP 39 .id [.t 37], iP 9 .id [.t 39]])
 (.seq
 (.postIf (4, (0, 3)) [(2, 0), (3, 1)]
 (.ops [ iP 41 .id [.t 9], iP 42 .id [.t 0], iP 43 .id [.t 9], iP 44 .id [.t 7], iP 45 (.bin .mul) [.t 43, .t 44], iP 46 .id [.t 7], iP 47 .id [.t 6], iP 48 .nilCheck [.t 47], iP 49 (.fieldAddr 3) [.t 48], iP 50 (.load 1 false) [.t 49], iP 51 (.call "haberdash/journal.Open" [2, 3]) [.t 42, .t 45, .t 46, .t 50], iP 40 .id [.t 51], iP 52 (.extract 0) [.t 40], iP 53 (.extract 1) [.t 40], iP 54 (.indexArr 2 1) [.t 8, .t 41], iN (.store 1 false) [.t 54, .t 52], iP 5 .id [.t 53]]))
 (.seq
 (.ops [ iP 55 .id [.t 5], iP 56 (.bin .neq) [.t 55, kI 0]])
 (.cond (.t 56)
 (.seq
 (.ops [ iP 57 .id [.t 5], iP 2 .id [.c (.pointer none)], iP 3 .id [.t 57]])
 .ret)
 .skip)))))
 (.ops [ iP 58 (.bin .add) [.t 37, kI 1], iP 37 .id [.t 58]]))))
def f_vault_Open_H0 (t0 t6 t7 t8 t37 : AV) : List AV := [t0, .dead, .dead, .dead, .dead, .dead, t6, t7, t8, .dead, .dead, .dead, .dead, .dead, .dead, .dead, .dead, .dead, .dead, .dead, .dead, .dead, .dead, .dead, .dead, .dead, .dead, .dead, .dead, .dead, .dead, .dead, .dead, .dead, .dead, .dead, .dead, t37, .dead, .dead, .dead, .dead, .dead, .dead, .dead, .dead, .dead, .dead, .dead, .dead, .dead, .dead, .dead, .dead, .dead, .dead, .dead, .dead, .dead, .dead, .dead, .dead, .dead, .dead, .dead, .dead, .dead, .dead, .dead, .dead, .dead, .dead, .dead, .dead, .dead, .dead, .dead, .dead, .dead, .dead, .dead, .dead, .dead, .dead, .dead, .dead, .dead, .dead, .dead, .dead]
def f_vault_Open_B : ICode :=
 (.seq
 (.ops [ iP 2 .id [.c (.pointer none)], iP 3 .id [kI 0]])
 (.seq
 (.block 0
 (.seq
 (.ops [ iP 12 .id [.t 0], iP 13 (.eqNil false .ptr) [.t 12, .c (.pointer none)], iP 11 .id [.t 13]])
 (.cond (.t 11)
 (.seq
 (.ops [ iP 2 .id [.c (.pointer none)], iP 3 .id [kI 1]])
 .ret)
 (.seq
 (.ops [ iP 15 .id [.t 0], iP 16 (.call "(*haberdash/disk.Disk).Len" []) [.t 15], iP 17 (.bin .lss) [.t 16, kI 4], iP 14 .id [.t 17]])
 (.cond (.t 14)
 (.seq
 (.ops [ iP 2 .id [.c (.pointer none)], iP 3 .id [kI 2]])
 .ret)
 (.seq
 (.ops [ iP 19 .id [.t 0], iP 20 (.call "(*haberdash/disk.Disk).Down" []) [.t 19], iP 18 .id [.t 20]])
 (.cond (.t 18)
 (.seq
 (.ops [ iP 2 .id [.c (.pointer none)], iP 3 .id [kI 9]])
 .ret)
 .skip)))))))
 (.seq
 (.ops [ iP 22 .id [.t 0], iP 23 (.call "haberdash/vault.greatest" []) [.t 22], iP 21 .id [.t 23], iP 24 (.extract 0) [.t 21], iP 25 (.extract 1) [.t 21], iP 4 .id [.t 24], iP 5 .id [.t 25]])
 (.seq
 (.seq
 (.ops [ iP 26 .id [.t 5], iP 27 (.bin .neq) [.t 26, kI 0]])
 (.cond (.t 27)
 (.seq
 (.ops [ iP 28 .id [.t 5], iP 2 .id [.c (.pointer none)], iP 3 .id [.t 28]])
 .ret)
 .skip))
 (.seq
 (.ops [ iP 29 .id [.t 0], iP 30 .id [.t 4], iP 31 (.bin .add) [.t 30, .c (.int .u32 1)], iP 32 (.build [(.pointer none), (.pointer none), (.int .i64 0), (.int .u32 0), (.bool false)] [(0, 1), (3, 1)]) [.t 29, .t 31], iP 33 (.box 8) [.t 32], iP 6 .id [.t 33]])
 (.seq
 (.ops [ iP 34 .id [.t 0], iP 35 (.call "(*haberdash/disk.Disk).Len" []) [.t 34], iP 36 (.bin .quo) [.t 35, kI 2], iP 7 .id [.t 36]])
 (.seq
 (.ops [ iP 8 (.alloc 4 [(.pointer none), (.pointer none)] []) []])
 (.seq
 (.seq
 (.ops [ iP 37 .id [kI 0]])
 (.block 1
 (.loop [1, 2, 3, 4, 5, 9, 10, 11, 12, 13, 14, 15, 16, 17, 18, 19, 20, 21, 22, 23, 24, 25, 26, 27, 28, 29, 30, 31, 32, 33, 34, 35, 36, 38, 39, 40, 41, 42, 43, 44, 45, 46, 47, 48, 49, 50, 51, 52, 53, 54, 55, 56, 57, 58, 59, 60, 61, 62, 63, 64, 65, 66, 67, 68, 69, 70, 71, 72, 73, 74, 75, 76, 77, 78, 79, 80, 81, 82, 83, 84, 85, 86, 87, 88, 89] [] f_vault_Open_L0)))
 (.seq
 (.seq
 (.ops [ iP 59 (.indexArr 2 1) [.t 8, kI 0], iP 60 (.load 1 false) [.t 59], iP 61 (.makeFunc "(*haberdash/journal.Journal).First" 1) [.t 60], iP 62 (.indexArr 2 1) [.t 8, kI 1], iP 63 (.load 1 false) [.t 62], iP 64 (.makeFunc "(*haberdash/journal.Journal).First" 1) [.t 63], iP 65 (.call "haberdash/vault.counts" []) [.t 61, .t 64]])
 (.cond (.t 65)
 (.ops [ iP 66 .id [.t 6], iP 67 .nilCheck [.t 66], iP 68 (.fieldAddr 2) [.t 67], iN (.store 1 false) [.t 68, kI 1]])
 .skip))
 (.seq
 (.ops [ iP 69 .id [.t 6], iP 70 .id [.t 6], iP 71 .nilCheck [.t 70], iP 72 (.fieldAddr 2) [.t 71], iP 73 (.load 1 false) [.t 72], iP 74 (.indexArr 2 1) [.t 8, .t 73], iP 75 (.load 1 false) [.t 74], iP 76 .nilCheck [.t 69], iP 77 (.fieldAddr 1) [.t 76], iN (.store 1 false) [.t 77, .t 75]])
 (.seq
 (.seq
 (.ops [ iP 78 .id [.t 6], iP 79 .nilCheck [.t 78], iP 80 (.fieldAddr 1) [.t 79], iP 81 (.load 1 false) [.t 80], iP 82 (.call "(*haberdash/journal.Journal).First" []) [.t 81], iP 83 (.bin .eql) [.t 82, .c (.int .u32 0)]])
 (.cond (.t 83)
 (.seq
 (.ops [ iP 84 .id [.t 6], iP 85 (.callIn "(*haberdash/vault.Vault).begin#Open" [5, 6, 7]) [.t 84, kI 0, .c (.slice none 0 0)], iP 10 .id [.t 85]])
 (.seq
 (.ops [ iP 86 .id [.t 10], iP 87 (.bin .neq) [.t 86, kI 0]])
 (.cond (.t 87)
 (.seq
 (.ops [ iP 88 .id [.t 10], iP 2 .id [.c (.pointer none)], iP 3 .id [.t 88]])
 .ret)
 .skip)))
 .skip))
 (.seq
 (.ops [ iP 89 .id [.t 6], iP 2 .id [.t 89], iP 3 .id [kI 0]])
 .ret))))))))))))
def f_vault_Open : IFn := ⟨90, 9, [.tmp 2, .tmp 3], f_vault_Open_B⟩
def f_law09_awake_B : ICode :=
 (.seq
 (.ops [ iP 0 .id [.c (.bool false)]])
 (.seq
 (.ops [ iP 7 (.call "haberdash/disk.New" [0, 1, 2, 3]) [kI 8], iP 6 .id [.t 7], iP 8 (.extract 0) [.t 6], iP 9 (.extract 1) [.t 6], iP 1 .id [.t 8], iP 2 .id [.t 9]])
 (.seq
 (.ops [ iP 11 .id [.t 1], iP 12 (.call "haberdash/vault.Open" [4, 5, 6]) [.t 11], iP 10 .id [.t 12], iP 13 (.extract 0) [.t 10], iP 14 (.extract 1) [.t 10], iP 3 .id [.t 13], iP 4 .id [.t 14]])
 (.seq
 (.ops [ iP 15 .id [.t 3], iP 16 (.buildSlice 7 false 1 1 [(.int .u8 0)] [(0, 1)]) [.c (.int .u8 97)], iP 17 .bytesBytes [.t 16], iP 18 (.call "(*haberdash/vault.Vault).Add" []) [.t 15, .t 17], iP 5 .id [.t 18]])
 (.seq
 (.ops [ iP 19 .id [.t 4], iP 20 (.bin .eql) [.t 19, kI 0], iP 21 .id [.t 20], iG 21 true 22 .id [.t 5], iG 21 true 23 (.bin .eql) [.t 22, kI 0], iP 24 .pick [.t 21, .t 23, .c (.bool false)], iP 25 .id [.t 24], iG 25 true 26 .id [.t 3], iG 25 true 27 (.call "(*haberdash/vault.Vault).Records" [8]) [.t 26], iG 25 true 28 .lenSlice [.t 27], iG 25 true 29 (.bin .eql) [.t 28, kI 1], iP 30 .pick [.t 25, .t 29, .c (.bool false)], iP 31 .id [.t 30], iG 31 true 32 .id [.t 3], iG 31 true 33 (.call "(*haberdash/vault.Vault).Used" []) [.t 32], iG 31 true 34 (.bin .eql) [.t 33, kI 2], iP 35 .pick [.t 31, .t 34, .c (.bool false)], iP 36 .id [.t 35], iG 36 true 37 .id [.t 3], iG 36 true 38 (.call "(*haberdash/vault.Vault).Half" []) [.t 37], iG 36 true 39 (.bin .eql) [.t 38, kI 0], iP 40 .pick [.t 36, .t 39, .c (.bool false)], iP 0 .id [.t 40]])
 .ret)))))
def f_law09_awake : IFn := ⟨41, 9, [.tmp 0], f_law09_awake_B⟩
def f___vault_Vault__Add_B : ICode :=
 (.seq
 (.ops [ iP 4 .id [kI 0]])
 (.seq
 (.seq
 (.ops [ iP 6 .id [.t 0], iP 7 (.eqNil false .ptr) [.t 6, .c (.pointer none)]])
 (.cond (.t 7)
 (.seq
 (.ops [ iP 4 .id [kI 1]])
 .ret)
 .skip))
 (.seq
 (.seq
 (.ops [ iP 8 .id [.t 0], iP 9 .nilCheck [.t 8], iP 10 (.fieldAddr 4) [.t 9], iP 11 (.load 1 false) [.t 10]])
 (.cond (.t 11)
 (.seq
 (.ops [ iP 4 .id [kI 9]])
 .ret)
 .skip))
 (.seq
 (.ops [ iP 12 .id [.t 0], iP 13 .nilCheck [.t 12], iP 14 (.fieldAddr 1) [.t 13], iP 15 (.load 1 false) [.t 14], iP 16 .id [.t 1], iP 17 (.call "(*haberdash/journal.Journal).Add" []) [.t 15, .t 16], iP 5 .id [.t 17]])
 (.seq
 (.ops [ iP 18 .id [.t 0], iP 19 .id [.t 5], iP 20 (.bin .eql) [.t 19, kI 9], iP 21 .nilCheck [.t 18], iP 22 (.fieldAddr 4) [.t 21], iN (.store 1 false) [.t 22, .t 20]])
 (.seq
 (.ops [ iP 23 .id [.t 5], iP 4 .id [.t 23]])
 .ret))))))
def f___vault_Vault__Add : IFn := ⟨24, 0, [.tmp 4], f___vault_Vault__Add_B⟩
def f___vault_Vault__Used_B : ICode :=
 (.seq
 (.ops [ iP 2 .id [kI 0]])
 (.seq
 (.seq
 (.ops [ iP 3 .id [.t 0], iP 4 (.eqNil false .ptr) [.t 3, .c (.pointer none)]])
 (.cond (.t 4)
 (.seq
 (.ops [ iP 2 .id [kI 0]])
 .ret)
 .skip))
 (.seq
 (.ops [ iP 5 .id [.t 0], iP 6 .nilCheck [.t 5], iP 7 (.fieldAddr 1) [.t 6], iP 8 (.load 1 false) [.t 7], iP 9 (.call "(*haberdash/journal.Journal).Used" []) [.t 8], iP 2 .id [.t 9]])
 .ret)))
def f___vault_Vault__Used : IFn := ⟨10, 0, [.tmp 2], f___vault_Vault__Used_B⟩
def f___vault_Vault__Records_B : ICode :=
 (.seq
 (.ops [ iP 2 .id [.c (.slice none 0 0)]])
 (.seq
 (.seq
 (.ops [ iP 4 .id [.t 0], iP 5 (.eqNil false .ptr) [.t 4, .c (.pointer none)]])
 (.cond (.t 5)
 (.seq
 (.ops [ iP 2 .id [.c (.slice none 0 0)]])
 .ret)
 .skip))
 (.seq
 (.ops [ iP 6 .id [.t 0], iP 7 .nilCheck [.t 6], iP 8 (.fieldAddr 1) [.t 7], iP 9 (.load 1 false) [.t 8], iP 10 (.call "(*haberdash/journal.Journal).Records" [0]) [.t 9], iP 3 .id [.t 10]])
 (.seq
 (.ops [ iP 11 .id [.t 3], iP 12 .id [.t 3], iP 13 .lenSlice [.t 12], iP 14 .min [kI 1, .t 13], iP 15 (.slice 1 true false false) [.t 11, .t 14], iP 16 (.call "slices.Clone[[][]byte,[]byte]" [1]) [.t 15], iP 2 .id [.t 16]])
 .ret))))
def f___vault_Vault__Records : IFn := ⟨17, 2, [.tmp 2], f___vault_Vault__Records_B⟩
def f_vault_based_B : ICode :=
 (.seq
 (.ops [ iP 2 .id [.c (.slice none 0 0)]])
 (.seq
 (.ops [ iP 3 (.buildSlice 0 false 1 1 [(.int .u8 0)] [(0, 1)]) [.c (.int .u8 1)], iP 4 .id [.t 0], iP 5 (.append 1 false 1 1) [.t 3, .t 4], iP 2 .id [.t 5]])
 .ret))
def f_vault_based : IFn := ⟨6, 2, [.tmp 2], f_vault_based_B⟩
def f___vault_Vault__Half_B : ICode :=
 (.seq
 (.ops [ iP 2 .id [kI 0]])
 (.seq
 (.seq
 (.ops [ iP 3 .id [.t 0], iP 4 (.eqNil false .ptr) [.t 3, .c (.pointer none)]])
 (.cond (.t 4)
 (.seq
 (.ops [ iP 2 .id [kI 0]])
 .ret)
 .skip))
 (.seq
 (.ops [ iP 5 .id [.t 0], iP 6 .nilCheck [.t 5], iP 7 (.fieldAddr 2) [.t 6], iP 8 (.load 1 false) [.t 7], iP 2 .id [.t 8]])
 .ret)))
def f___vault_Vault__Half : IFn := ⟨9, 0, [.tmp 2], f___vault_Vault__Half_B⟩
def f___vault_Vault__Base_B : ICode :=
 (.seq
 (.ops [ iP 2 .id [.c (.slice none 0 0)]])
 (.seq
 (.seq
 (.ops [ iP 4 .id [.t 0], iP 5 (.eqNil false .ptr) [.t 4, .c (.pointer none)]])
 (.cond (.t 5)
 (.seq
 (.ops [ iP 2 .id [.c (.slice none 0 0)]])
 .ret)
 .skip))
 (.seq
 (.ops [ iP 6 .id [.t 0], iP 7 .nilCheck [.t 6], iP 8 (.fieldAddr 1) [.t 7], iP 9 (.load 1 false) [.t 8], iP 10 (.call "(*haberdash/journal.Journal).Records" [0]) [.t 9], iP 3 .id [.t 10]])
 (.seq
 (.seq
 (.ops [ iP 11 .id [.t 3], iP 12 .lenSlice [.t 11], iP 13 (.bin .eql) [.t 12, kI 0]])
 (.cond (.t 13)
 (.seq
 (.ops [ iP 2 .id [.c (.slice none 0 0)]])
 .ret)
 .skip))
 (.seq
 (.ops [ iP 14 .id [.t 3], iP 15 (.indexAddr 1) [.t 14, kI 0], iP 16 (.load 1 false) [.t 15], iP 17 (.slice 1 true false false) [.t 16, kI 1], iP 18 (.call "bytes.Clone" [1]) [.t 17], iP 2 .id [.t 18]])
 .ret)))))
def f___vault_Vault__Base : IFn := ⟨19, 2, [.tmp 2], f___vault_Vault__Base_B⟩
def f_ref06_OpenVault_L0 : ICode :=
 (.seq
 (.seq
 (.ops [ iP 27 .id [.t 6], iP 28 .id [.t 0], iP 29 .nilCheck [.t 28], iP 30 (.fieldAddr 0) [.t 29], iP 31 (.load 1 false) [.t 30], iP 32 .lenSlice [.t 31], iP 33 (.bin .lss) [.t 27, .t 32]])
 (.cond (.t 33)
 .skip
 (.exit 0)))
 (.seq
 (.block 1
 (.ops [ iP 36 .id [.t 5], iP 37 .id [.t 0], iP 38 .nilCheck [.t 37], iP 39 (.fieldAddr 0) [.t 38], iP 40 (.load 1 false) [.t 39], iP 41 .id [.t 6], iP 42 (.indexAddr 64) [.t 40, .t 41], iP 43 (.load 64 true) [.t 42], iP 44 (.call "haberdash/haberdashref04.Mark" []) [.t 43], iP 45 .max [.t 36, .t 44], iP 5 .id [.t 45]]))
 (.ops [ iP 34 .id [.t 6], iP 35 (.bin .add) [.t 34, kI 1], iP 6 .id [.t 35]])))
def f_ref06_OpenVault_H0 (t0 t4 t5 t6 : AV) : List AV := [t0, .dead, .dead, .dead, t4, t5, t6, .dead, .dead, .dead, .dead, .dead, .dead, .dead, .dead, .dead, .dead, .dead, .dead, .dead, .dead, .dead, .dead, .dead, .dead, .dead, .dead, .dead, .dead, .dead, .dead, .dead, .dead, .dead, .dead, .dead, .dead, .dead, .dead, .dead, .dead, .dead, .dead, .dead, .dead, .dead, .dead, .dead, .dead, .dead, .dead, .dead, .dead, .dead, .dead, .dead, .dead, .dead, .dead, .dead, .dead, .dead, .dead, .dead, .dead, .dead, .dead, .dead, .dead, .dead, .dead, .dead, .dead, .dead, .dead, .dead, .dead, .dead, .dead, .dead, .dead, .dead, .dead, .dead, .dead, .dead, .dead, .dead, .dead, .dead, .dead, .dead, .dead, .dead, .dead, .dead, .dead, .dead, .dead, .dead, .dead, .dead, .dead, .dead, .dead, .dead, .dead, .dead, .dead, .dead, .dead, .dead, .dead, .dead, .dead, .dead, .dead, .dead, .dead, .dead, .dead, .dead, .dead, .dead, .dead]
def f_ref06_OpenVault_B : ICode :=
 (.seq
 (.ops [ iP 2 .id [.c (.pointer none)], iP 3 .id [kI 0]])
 (.seq
 (.seq
 (.ops [ iP 13 .id [.t 0], iP 14 (.eqNil false .ptr) [.t 13, .c (.pointer none)]])
 (.cond (.t 14)
 (.seq
 (.ops [ iP 2 .id [.c (.pointer none)], iP 3 .id [kI 1]])
 .ret)
 .skip))
 (.seq
 (.ops [ iP 15 .id [.t 0], iP 16 .nilCheck [.t 15], iP 17 (.fieldAddr 0) [.t 16], iP 18 (.load 1 false) [.t 17], iP 19 .lenSlice [.t 18], iP 20 (.bin .quo) [.t 19, kI 2], iP 4 .id [.t 20]])
 (.seq
 (.seq
 (.ops [ iP 21 .id [.t 4], iP 22 (.bin .lss) [.t 21, kI 2]])
 (.cond (.t 22)
 (.seq
 (.ops [ iP 2 .id [.c (.pointer none)], iP 3 .id [kI 2]])
 .ret)
 .skip))
 (.seq
 (.seq
 (.ops [ iP 23 .id [.t 0], iP 24 .nilCheck [.t 23], iP 25 (.fieldAddr 3) [.t 24], iP 26 (.load 1 false) [.t 25]])
 (.cond (.t 26)
 (.seq
 (.ops [ iP 2 .id [.c (.pointer none)], iP 3 .id [kI 9]])
 .ret)
 .skip))
 (.seq
 (.ops [ iP 5 .id [.c (.int .u32 0)]])
 (.seq
 (.seq
 (.ops [ iP 6 .id [kI 0]])
 (.block 0
 (.loop [1, 2, 3, 7, 8, 9, 10, 11, 12, 13, 14, 15, 16, 17, 18, 19, 20, 21, 22, 23, 24, 25, 26, 27, 28, 29, 30, 31, 32, 33, 34, 35, 36, 37, 38, 39, 40, 41, 42, 43, 44, 45, 46, 47, 48, 49, 50, 51, 52, 53, 54, 55, 56, 57, 58, 59, 60, 61, 62, 63, 64, 65, 66, 67, 68, 69, 70, 71, 72, 73, 74, 75, 76, 77, 78, 79, 80, 81, 82, 83, 84, 85, 86, 87, 88, 89, 90, 91, 92, 93, 94, 95, 96, 97, 98, 99, 100, 101, 102, 103, 104, 105, 106, 107, 108, 109, 110, 111, 112, 113, 114, 115, 116, 117, 118, 119, 120, 121, 122, 123, 124] [] f_ref06_OpenVault_L0)))
 (.seq
 (.seq
 (.ops [ iP 46 .id [.t 5], iP 47 (.bin .eql) [.t 46, .c (.int .u32 4294967295)]])
 (.cond (.t 47)
 (.seq
 (.ops [ iP 2 .id [.c (.pointer none)], iP 3 .id [kI 6]])
 .ret)
 .skip))
 (.seq
 (.ops [ iP 48 .id [.t 0], iP 49 .id [.t 5], iP 50 (.bin .add) [.t 49, .c (.int .u32 1)], iP 51 (.build [(.pointer none), (.pointer none), (.int .i64 0), (.int .u32 0), (.bool false)] [(0, 1), (3, 1)]) [.t 48, .t 50], iP 52 (.box 6) [.t 51], iP 7 .id [.t 52]])
 (.seq
 (.ops [ iP 54 .id [.t 0], iP 55 .id [.t 4], iP 56 .id [.t 7], iP 57 .nilCheck [.t 56], iP 58 (.fieldAddr 3) [.t 57], iP 59 (.load 1 false) [.t 58], iP 60 (.call "haberdash/haberdashref06.Open" [0, 1]) [.t 54, kI 0, .t 55, .t 59], iP 53 .id [.t 60], iP 61 (.extract 0) [.t 53], iP 62 (.extract 1) [.t 53], iP 8 .id [.t 61], iP 9 .id [.t 62]])
 (.seq
 (.ops [ iP 64 .id [.t 0], iP 65 .id [.t 4], iP 66 .id [.t 4], iP 67 .id [.t 7], iP 68 .nilCheck [.t 67], iP 69 (.fieldAddr 3) [.t 68], iP 70 (.load 1 false) [.t 69], iP 71 (.call "haberdash/haberdashref06.Open" [2, 3]) [.t 64, .t 65, .t 66, .t 70], iP 63 .id [.t 71], iP 72 (.extract 0) [.t 63], iP 73 (.extract 1) [.t 63], iP 10 .id [.t 72], iP 11 .id [.t 73]])
 (.seq
 (.ops [ iP 74 .id [.t 7], iP 75 .id [.t 8], iP 76 .nilCheck [.t 74], iP 77 (.fieldAddr 1) [.t 76], iN (.store 1 false) [.t 77, .t 75]])
 (.seq
 (.seq
 (.draw [ iP 78 .id [.t 10], iP 79 .nilCheck [.t 78], iP 80 (.fieldAddr 5) [.t 79], iP 81 (.load 1 false) [.t 80], iP 82 .id [.t 8], iP 83 .nilCheck [.t 82], iP 84 (.fieldAddr 5) [.t 83], iP 85 (.load 1 false) [.t 84], iP 86 (.bin .gtr) [.t 81, .t 85]])
 (.cond (.t 86)
 (.ops [ iP 87 .id [.t 7], iP 88 .id [.t 7], iP 89 .id [.t 10], iP 90 .nilCheck [.t 87], iP 91 (.fieldAddr 1) [.t 90], iN (.store 1 false) [.t 91, .t 89], iP 92 .nilCheck [.t 88], iP 93 (.fieldAddr 2) [.t 92], iN (.store 1 false) [.t 93, kI 1]])
 .skip))
 (.seq
 (.seq
 (.ops [ iP 94 .id [.t 7], iP 95 .nilCheck [.t 94], iP 96 (.fieldAddr 1) [.t 95], iP 97 (.load 1 false) [.t 96], iP 98 .nilCheck [.t 97], iP 99 (.fieldAddr 5) [.t 98], iP 100 (.load 1 false) [.t 99], iP 101 (.bin .eql) [.t 100, .c (.int .u32 0)]])
 (.cond (.t 101)
 (.seq
 (.ops [ iP 103 .id [.t 7], iP 104 .id [.t 0], iP 105 .id [.t 4], iP 106 .id [.t 7], iP 107 .nilCheck [.t 106], iP 108 (.fieldAddr 3) [.t 107], iP 109 (.load 1 false) [.t 108], iP 110 (.call "haberdash/haberdashref06.Blank" [4, 5]) [.t 104, kI 0, .t 105, .t 109], iP 102 .id [.t 110], iP 111 (.extract 0) [.t 102], iP 112 (.extract 1) [.t 102], iP 113 .nilCheck [.t 103], iP 114 (.fieldAddr 1) [.t 113], iN (.store 1 false) [.t 114, .t 111]])
 (.seq
 (.ops [ iP 115 .id [.t 7], iP 116 .nilCheck [.t 115], iP 117 (.fieldAddr 1) [.t 116], iP 118 (.load 1 false) [.t 117], iP 119 (.buildSlice 7 false 1 1 [(.int .u8 0)] [(0, 1)]) [.c (.int .u8 1)], iP 120 (.call "(*haberdash/haberdashref06.Journal).Add" []) [.t 118, .t 119], iP 12 .id [.t 120]])
 (.seq
 (.ops [ iP 121 .id [.t 12], iP 122 (.bin .neq) [.t 121, kI 0]])
 (.cond (.t 122)
 (.seq
 (.ops [ iP 123 .id [.t 12], iP 2 .id [.c (.pointer none)], iP 3 .id [.t 123]])
 .ret)
 .skip))))
 .skip))
 (.seq
 (.ops [ iP 124 .id [.t 7], iP 2 .id [.t 124], iP 3 .id [kI 0]])
 .ret)))))))))))))))
def f_ref06_OpenVault : IFn := ⟨125, 8, [.tmp 2, .tmp 3], f_ref06_OpenVault_B⟩
def f___vault_Vault__begin_Compact_B : ICode :=
 (.seq
 (.ops [ iP 6 .id [kI 0]])
 (.seq
 (.ops [ iP 11 .id [.t 0], iP 12 .nilCheck [.t 11], iP 13 (.fieldAddr 0) [.t 12], iP 14 (.load 1 false) [.t 13], iP 15 (.call "(*haberdash/disk.Disk).Len" []) [.t 14], iP 16 (.bin .quo) [.t 15, kI 2], iP 7 .id [.t 16]])
 (.seq
 (.draw [ iP 18 .id [.t 0], iP 19 .nilCheck [.t 18], iP 20 (.fieldAddr 0) [.t 19], iP 21 (.load 1 false) [.t 20], iP 22 .id [.t 1], iP 23 .id [.t 7], iP 24 (.bin .mul) [.t 22, .t 23], iP 25 .id [.t 7], iP 26 .id [.t 0], iP 27 .nilCheck [.t 26], iP 28 (.fieldAddr 3) [.t 27], iP 29 (.load 1 false) [.t 28], iP 30 (.call "haberdash/journal.New" [0, 1]) [.t 21, .t 24, .t 25, .t 29], iP 17 .id [.t 30], iP 31 (.extract 0) [.t 17], iP 32 (.extract 1) [.t 17], iP 8 .id [.t 31], iP 9 .id [.t 32]])
 (.seq
 (.seq
 (.ops [ iP 33 .id [.t 9], iP 34 (.bin .neq) [.t 33, kI 0]])
 (.cond (.t 34)
 (.seq
 (.ops [ iP 35 .id [.t 9], iP 6 .id [.t 35]])
 .ret)
 .skip))
 (.seq
 (.seq
 (.ops [ iP 36 .id [.t 8], iP 37 .id [.t 2], iP 38 (.call "haberdash/vault.based" [2]) [.t 37], iP 39 (.call "(*haberdash/journal.Journal).Add" []) [.t 36, .t 38], iP 10 .id [.t 39]])
 (.seq
 (.ops [ iP 40 .id [.t 10], iP 41 (.bin .neq) [.t 40, kI 0]])
 (.cond (.t 41)
 (.seq
 (.ops [ iP 42 .id [.t 10], iP 6 .id [.t 42]])
 .ret)
 .skip)))
 (.seq
 (.ops [ iP 43 .id [.t 0], iP 44 .id [.t 0], iP 45 .id [.t 8], iP 46 .id [.t 1], iP 47 .nilCheck [.t 43], iP 48 (.fieldAddr 1) [.t 47], iN (.store 1 false) [.t 48, .t 45], iP 49 .nilCheck [.t 44], iP 50 (.fieldAddr 2) [.t 49], iN (.store 1 false) [.t 50, .t 46]])
 (.seq
 (.ops [ iP 6 .id [kI 0]])
 .ret)))))))
def f___vault_Vault__begin_Compact : IFn := ⟨51, 3, [.tmp 6], f___vault_Vault__begin_Compact_B⟩
def f___vault_Vault__Compact_B : ICode :=
 (.seq
 (.ops [ iP 4 .id [kI 0]])
 (.seq
 (.block 0
 (.seq
 (.ops [ iP 7 .id [.t 0], iP 8 (.eqNil false .ptr) [.t 7, .c (.pointer none)], iP 6 .id [.t 8]])
 (.cond (.t 6)
 (.seq
 (.ops [ iP 4 .id [kI 1]])
 .ret)
 (.seq
 (.ops [ iP 10 .id [.t 0], iP 11 .nilCheck [.t 10], iP 12 (.fieldAddr 4) [.t 11], iP 13 (.load 1 false) [.t 12], iP 14 .id [.t 13], iG 14 false 15 .id [.t 0], iG 14 false 16 .nilCheck [.t 15], iG 14 false 17 (.fieldAddr 0) [.t 16], iG 14 false 18 (.load 1 false) [.t 17], iG 14 false 19 (.call "(*haberdash/disk.Disk).Down" []) [.t 18], iP 20 .pick [.t 14, .c (.bool true), .t 19], iP 9 .id [.t 20]])
 (.cond (.t 9)
 (.seq
 (.ops [ iP 21 .id [.t 0], iP 22 .nilCheck [.t 21], iP 23 (.fieldAddr 4) [.t 22], iN (.store 1 false) [.t 23, .c (.bool true)]])
 (.seq
 (.ops [ iP 4 .id [kI 9]])
 .ret))
 (.seq
 (.ops [ iP 25 .id [.t 1], iP 26 .lenSlice [.t 25], iP 27 (.bin .geq) [.t 26, kI 400000], iP 24 .id [.t 27]])
 (.cond (.t 24)
 (.seq
 (.ops [ iP 4 .id [kI 2]])
 .ret)
 (.seq
 (.draw [ iP 29 .id [.t 0], iP 30 .nilCheck [.t 29], iP 31 (.fieldAddr 3) [.t 30], iP 32 (.load 1 false) [.t 31], iP 33 (.bin .eql) [.t 32, .c (.int .u32 4294967295)], iP 34 .id [.t 33], iG 34 false 35 .id [.t 1], iG 34 false 36 .lenSlice [.t 35], iG 34 false 37 (.bin .add) [kI 1, .t 36], iG 34 false 38 (.call "haberdash/journal.Need" []) [.t 37], iG 34 false 39 .id [.t 0], iG 34 false 40 .nilCheck [.t 39], iG 34 false 41 (.fieldAddr 0) [.t 40], iG 34 false 42 (.load 1 false) [.t 41], iG 34 false 43 (.call "(*haberdash/disk.Disk).Len" []) [.t 42], iG 34 false 44 (.bin .quo) [.t 43, kI 2], iG 34 false 45 (.bin .gtr) [.t 38, .t 44], iP 46 .pick [.t 34, .c (.bool true), .t 45], iP 28 .id [.t 46]])
 (.cond (.t 28)
 (.seq
 (.ops [ iP 4 .id [kI 6]])
 .ret)
 .skip)))))))))
 (.seq
 (.ops [ iP 47 .id [.t 0], iP 48 .nilCheck [.t 47], iP 49 (.fieldAddr 3) [.t 48], iP 50 (.load 1 false) [.t 49], iP 51 (.bin .add) [.t 50, .c (.int .u32 1)], iP 52 .nilCheck [.t 47], iP 53 (.fieldAddr 3) [.t 52], iN (.store 1 false) [.t 53, .t 51]])
 (.seq
 (.ops [ iP 54 .id [.t 0], iP 55 .id [.t 0], iP 56 .nilCheck [.t 55], iP 57 (.fieldAddr 2) [.t 56], iP 58 (.load 1 false) [.t 57], iP 59 (.bin .sub) [kI 1, .t 58], iP 60 .id [.t 1], iP 61 (.callIn "(*haberdash/vault.Vault).begin#Compact" [0, 1, 2]) [.t 54, .t 59, .t 60], iP 5 .id [.t 61]])
 (.seq
 (.ops [ iP 62 .id [.t 0], iP 63 .id [.t 5], iP 64 (.bin .eql) [.t 63, kI 9], iP 65 .nilCheck [.t 62], iP 66 (.fieldAddr 4) [.t 65], iN (.store 1 false) [.t 66, .t 64]])
 (.seq
 (.ops [ iP 67 .id [.t 5], iP 4 .id [.t 67]])
 .ret))))))
def f___vault_Vault__Compact : IFn := ⟨68, 3, [.tmp 4], f___vault_Vault__Compact_B⟩
def f___vault_Vault__Disk_B : ICode :=
 (.seq
 (.ops [ iP 2 .id [.c (.pointer none)]])
 (.seq
 (.seq
 (.ops [ iP 3 .id [.t 0], iP 4 (.eqNil false .ptr) [.t 3, .c (.pointer none)]])
 (.cond (.t 4)
 (.seq
 (.ops [ iP 2 .id [.c (.pointer none)]])
 .ret)
 .skip))
 (.seq
 (.ops [ iP 5 .id [.t 0], iP 6 .nilCheck [.t 5], iP 7 (.fieldAddr 0) [.t 6], iP 8 (.load 1 false) [.t 7], iP 2 .id [.t 8]])
 .ret)))
def f___vault_Vault__Disk : IFn := ⟨9, 0, [.tmp 2], f___vault_Vault__Disk_B⟩
def f_vault_greatest_L0 : ICode :=
 (.seq
 (.ops [ iP 11 (.bin .lss) [.t 10, .t 9]])
 (.seq
 (.cond (.t 11)
 .skip
 (.exit 0))
 (.seq
 (.block 1
 (.seq
 (.ops [ iP 12 .id [.t 10], iP 5 .id [.t 12]])
 (.seq
 (.ops [ iP 14 .id [.t 0], iP 15 .id [.t 5], iP 16 (.call "(*haberdash/disk.Disk).Read" []) [.t 14, .t 15], iP 13 .id [.t 16], iP 17 (.extract 0) [.t 13], iP 18 (.extract 1) [.t 13], iP 6 (.alloc 0 zeros64 []) [], iN (.store 64 false) [.t 6, .t 17], iP 7 .id [.t 18]])
 (.seq
 (.seq
 (.ops [ iP 19 .id [.t 7], iP 20 (.bin .neq) [.t 19, kI 0]])
 (.cond (.t 20)
 (.seq
 (.ops [ iP 21 .id [.t 7], iP 2 .id [.c (.int .u32 0)], iP 3 .id [.t 21]])
 .ret)
 .skip))
 (.ops [ iP 22 .id [.t 4], iP 23 (.load 64 true) [.t 6], iP 24 (.call "haberdash/leaf.Mark" []) [.t 23], iP 25 .max [.t 22, .t 24], iP 4 .id [.t 25]])))))
 (.ops [ iP 26 (.bin .add) [.t 10, kI 1], iP 10 .id [.t 26]]))))
def f_vault_greatest_H0 (t0 t4 t9 t10 : AV) : List AV := [t0, .dead, .dead, .dead, t4, .dead, .dead, .dead, .dead, t9, t10, .dead, .dead, .dead, .dead, .dead, .dead, .dead, .dead, .dead, .dead, .dead, .dead, .dead, .dead, .dead, .dead, .dead, .dead, .dead]
def f_vault_greatest_B : ICode :=
 (.seq
 (.ops [ iP 2 .id [.c (.int .u32 0)], iP 3 .id [kI 0]])
 (.seq
 (.ops [ iP 4 .id [.c (.int .u32 0)]])
 (.seq
 (.seq
 (.ops [ iP 8 .id [.t 0], iP 9 (.call "(*haberdash/disk.Disk).Len" []) [.t 8], iP 10 .id [kI 0]])
 (.block 0
 (.loop [1, 2, 3, 5, 6, 7, 8, 11, 12, 13, 14, 15, 16, 17, 18, 19, 20, 21, 22, 23, 24, 25, 26, 27, 28, 29] [0] f_vault_greatest_L0)))
 (.seq
 (.seq
 (.ops [ iP 27 .id [.t 4], iP 28 (.bin .eql) [.t 27, .c (.int .u32 4294967295)]])
 (.cond (.t 28)
 (.seq
 (.ops [ iP 2 .id [.c (.int .u32 0)], iP 3 .id [kI 6]])
 .ret)
 .skip))
 (.seq
 (.ops [ iP 29 .id [.t 4], iP 2 .id [.t 29], iP 3 .id [kI 0]])
 .ret)))))
def f_vault_greatest : IFn := ⟨30, 1, [.tmp 2, .tmp 3], f_vault_greatest_B⟩
def f_vault_counts_B : ICode :=
 (.seq
 (.ops [ iP 4 .id [.c (.bool false)]])
 (.seq
 (.ops [ iP 5 .id [.t 1], iP 6 (.callV []) [.t 5], iP 7 .id [.t 0], iP 8 (.callV []) [.t 7], iP 9 (.bin .gtr) [.t 6, .t 8], iP 4 .id [.t 9]])
 .ret))
def f_vault_counts : IFn := ⟨10, 0, [.tmp 4], f_vault_counts_B⟩
def f_slices_Clone_____byte___byte__B : ICode :=
 (.seq
 (.ops [ iP 2 .id [.c (.slice none 0 0)]])
 (.seq
 (.seq
 (.ops [ iP 3 .id [.t 0], iP 4 (.eqNil false .slice) [.t 3, .c (.slice none 0 0)]])
 (.cond (.t 4)
 (.seq
 (.ops [ iP 2 .id [.c (.slice none 0 0)]])
 .ret)
 .skip))
 (.seq
 (.ops [ iP 5 (.buildSlice 0 true 1 0 [(.slice none 0 0)] []) [], iP 6 .id [.t 0], iP 7 (.append 1 true 1 24) [.t 5, .t 6], iP 2 .id [.t 7]])
 .ret)))
def f_slices_Clone_____byte___byte_ : IFn := ⟨8, 2, [.tmp 2], f_slices_Clone_____byte___byte__B⟩
end Go.AM
