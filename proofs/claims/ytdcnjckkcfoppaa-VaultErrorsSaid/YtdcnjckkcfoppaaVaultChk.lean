import Derived.Test.YtdcnjckkcfoppaaRows
import Derived.Test.YtdcnjckkcfoppaaAMC
import Derived.Test.YtdcnjckkcfoppaaCrc
import Derived.Test.YtdcnjckkcfoppaaLeafA
import Derived.Test.YtdcnjckkcfoppaaHelp
import Derived.Test.YtdcnjckkcfoppaaScopeA
import Derived.Test.YtdcnjckkcfoppaaSortA
import Derived.Test.YtdcnjckkcfoppaaPackA
import Derived.Test.YtdcnjckkcfoppaaDiskA
import Derived.Test.YtdcnjckkcfoppaaJourA
import Derived.Test.YtdcnjckkcfoppaaVaultA
import Derived.KernelRfl
set_option linter.unusedVariables false
set_option linter.unusedSimpArgs false
namespace Go.Proofs.Ytdcnjckkcfoppaa.ChkVault
open Go.AM
def fid (f : String) : Option FuncId := match f with
  | "haberdash/haberdashlaw09.VaultErrors" => some 11
  | "haberdash/haberdashplay.Mod" => some 14
  | "haberdash/disk.New" => some 15
  | "haberdash/haberdashref06.New" => some 27
  | "haberdash/haberdashlaw09.awake" => some 43
  | "(*haberdash/disk.Disk).Write" => some 33
  | "(*haberdash/haberdashref06.Disk).Write" => some 34
  | "(*haberdash/disk.Disk).Crash" => some 28
  | "(*haberdash/haberdashref06.Disk).Crash" => some 29
  | "haberdash/vault.Open" => some 42
  | "(*haberdash/vault.Vault).begin#Open" => some 76
  | "haberdash/haberdashref06.OpenVault" => some 51
  | "(*haberdash/vault.Vault).Add" => some 44
  | "(*haberdash/vault.Vault).Compact" => some 47
  | "(*haberdash/vault.Vault).begin#Compact" => some 76
  | "(*haberdash/vault.Vault).Base" => some 50
  | "(*haberdash/vault.Vault).Records" => some 46
  | "(*haberdash/vault.Vault).Half" => some 48
  | "(*haberdash/vault.Vault).Used" => some 45
  | "(*haberdash/vault.Vault).Disk" => some 52
  | "haberdash/journal.New" => some 16
  | "haberdash/haberdashref06.Blank" => some 30
  | "haberdash/haberdashlaw08.awake" => some 17
  | "(*haberdash/disk.Disk).Arm" => some 31
  | "(*haberdash/haberdashref06.Disk).Arm" => some 32
  | "(*haberdash/disk.Disk).Start" => some 35
  | "(*haberdash/haberdashref06.Disk).Start" => some 36
  | "haberdash/journal.Open" => some 25
  | "haberdash/haberdashref06.Open" => some 37
  | "haberdash/haberdashhelp.Own[byte]" => some 38
  | "(*haberdash/journal.Journal).Add" => some 18
  | "(*haberdash/haberdashref06.Journal).Add" => some 39
  | "haberdash/haberdashhelp.Kept[byte]" => some 40
  | "haberdash/haberdashlaw08.alike" => some 41
  | "(*haberdash/journal.Journal).Records" => some 21
  | "(*haberdash/journal.Journal).First" => some 26
  | "(*haberdash/journal.Journal).Used" => some 20
  | "haberdash/haberdashlaw08.put" => some 24
  | "haberdash/haberdashhelp.Rows" => some 23
  | "haberdash/journal.Need" => some 19
  | "(*haberdash/disk.Disk).Down" => some 57
  | "(*haberdash/disk.Disk).Len" => some 56
  | "haberdash/vault.based" => some 92
  | "haberdash/haberdashhelp.Bytes" => some 49
  | "(*haberdash/disk.Disk).may" => some 65
  | "(*haberdash/disk.Disk).hit" => some 66
  | "(*haberdash/haberdashref06.Disk).hit" => some 67
  | "(*haberdash/disk.Disk).Crash$1" => some 64
  | "(*haberdash/disk.Disk).settle" => some 63
  | "haberdash/vault.greatest" => some 74
  | "haberdash/vault.counts" => some 75
  | "haberdash/haberdashref04.Mark" => some 78
  | "bytes.Clone" => some 60
  | "slices.Clone[[][]byte,[]byte]" => some 77
  | "(*haberdash/disk.Disk).Start$1" => some 68
  | "(*haberdash/journal.Journal).take" => some 62
  | "(*haberdash/haberdashref06.Journal).record" => some 69
  | "(*haberdash/journal.Journal).lay" => some 58
  | "(*haberdash/journal.Journal).note" => some 59
  | "haberdash/haberdashref06.Need" => some 70
  | "haberdash/haberdashref04.Lay" => some 71
  | "(*haberdash/haberdashref06.Disk).Sync" => some 72
  | "haberdash/haberdashhelp.Plain[byte]" => some 73
  | "haberdash/haberdashhelp.Same[[]byte]" => some 61
  | "(*haberdash/disk.Disk).Read" => some 90
  | "haberdash/leaf.Mark" => some 91
  | "haberdash/haberdashref04.four" => some 93
  | "(*haberdash/journal.Journal).leaves" => some 83
  | "haberdash/haberdashref04.Take" => some 84
  | "haberdash/leaf.Lay" => some 81
  | "(*haberdash/disk.Disk).Sync" => some 82
  | "haberdash/haberdashref04.RightLeaf" => some 85
  | "haberdash/haberdashref04.lay" => some 86
  | "haberdash/haberdashref04.Sum" => some 87
  | "haberdash/haberdashhelp.Plain[byte]$1" => some 89
  | "haberdash/haberdashhelp.Same[byte]" => some 88
  | "haberdash/leaf.get" => some 101
  | "(*haberdash/journal.Journal).leaves$1" => some 98
  | "haberdash/leaf.right" => some 94
  | "haberdash/leaf.put" => some 95
  | "haberdash/leaf.flags" => some 96
  | "haberdash/crc.Sum" => some 97
  | "haberdash/haberdashref04.More" => some 100
  | "haberdash/leaf.Take" => some 99
  | "haberdash/crc.More" => some 102
  | _ => none
def prog (f : String) : Option IFn := match f with
  | "haberdash/haberdashlaw09.VaultErrors" => some f_law09_VaultErrors
  | "haberdash/haberdashplay.Mod" => some f_play_Mod
  | "haberdash/disk.New" => some f_disk_New
  | "haberdash/haberdashref06.New" => some f_ref06_New
  | "haberdash/haberdashlaw09.awake" => some f_law09_awake
  | "(*haberdash/disk.Disk).Write" => some f___disk_Disk__Write
  | "(*haberdash/haberdashref06.Disk).Write" => some f___ref06_Disk__Write
  | "(*haberdash/disk.Disk).Crash" => some f___disk_Disk__Crash
  | "(*haberdash/haberdashref06.Disk).Crash" => some f___ref06_Disk__Crash
  | "haberdash/vault.Open" => some f_vault_Open
  | "(*haberdash/vault.Vault).begin#Open" => some f___vault_Vault__begin_Open
  | "haberdash/haberdashref06.OpenVault" => some f_ref06_OpenVault
  | "(*haberdash/vault.Vault).Add" => some f___vault_Vault__Add
  | "(*haberdash/vault.Vault).Compact" => some f___vault_Vault__Compact
  | "(*haberdash/vault.Vault).begin#Compact" => some f___vault_Vault__begin_Compact
  | "(*haberdash/vault.Vault).Base" => some f___vault_Vault__Base
  | "(*haberdash/vault.Vault).Records" => some f___vault_Vault__Records
  | "(*haberdash/vault.Vault).Half" => some f___vault_Vault__Half
  | "(*haberdash/vault.Vault).Used" => some f___vault_Vault__Used
  | "(*haberdash/vault.Vault).Disk" => some f___vault_Vault__Disk
  | "haberdash/journal.New" => some f_journal_New
  | "haberdash/haberdashref06.Blank" => some f_ref06_Blank
  | "haberdash/haberdashlaw08.awake" => some f_law08_awake
  | "(*haberdash/disk.Disk).Arm" => some f___disk_Disk__Arm
  | "(*haberdash/haberdashref06.Disk).Arm" => some f___ref06_Disk__Arm
  | "(*haberdash/disk.Disk).Start" => some f___disk_Disk__Start
  | "(*haberdash/haberdashref06.Disk).Start" => some f___ref06_Disk__Start
  | "haberdash/journal.Open" => some f_journal_Open
  | "haberdash/haberdashref06.Open" => some f_ref06_Open
  | "haberdash/haberdashhelp.Own[byte]" => some f_help_Own_byte_
  | "(*haberdash/journal.Journal).Add" => some f___journal_Journal__Add
  | "(*haberdash/haberdashref06.Journal).Add" => some f___ref06_Journal__Add
  | "haberdash/haberdashhelp.Kept[byte]" => some f_help_Kept_byte_
  | "haberdash/haberdashlaw08.alike" => some f_law08_alike
  | "(*haberdash/journal.Journal).Records" => some f___journal_Journal__Records
  | "(*haberdash/journal.Journal).First" => some f___journal_Journal__First
  | "(*haberdash/journal.Journal).Used" => some f___journal_Journal__Used
  | "haberdash/haberdashlaw08.put" => some f_law08_put
  | "haberdash/haberdashhelp.Rows" => some f_help_Rows
  | "haberdash/journal.Need" => some f_journal_Need
  | "(*haberdash/disk.Disk).Down" => some f___disk_Disk__Down
  | "(*haberdash/disk.Disk).Len" => some f___disk_Disk__Len
  | "haberdash/vault.based" => some f_vault_based
  | "haberdash/haberdashhelp.Bytes" => some f_help_Bytes
  | "(*haberdash/disk.Disk).may" => some f___disk_Disk__may
  | "(*haberdash/disk.Disk).hit" => some f___disk_Disk__hit
  | "(*haberdash/haberdashref06.Disk).hit" => some f___ref06_Disk__hit
  | "(*haberdash/disk.Disk).Crash$1" => some f___disk_Disk__Crash_1
  | "(*haberdash/disk.Disk).settle" => some f___disk_Disk__settle
  | "haberdash/vault.greatest" => some f_vault_greatest
  | "haberdash/vault.counts" => some f_vault_counts
  | "haberdash/haberdashref04.Mark" => some f_ref04_Mark
  | "bytes.Clone" => some f_bytes_Clone
  | "slices.Clone[[][]byte,[]byte]" => some f_slices_Clone_____byte___byte_
  | "(*haberdash/disk.Disk).Start$1" => some f___disk_Disk__Start_1
  | "(*haberdash/journal.Journal).take" => some f___journal_Journal__take
  | "(*haberdash/haberdashref06.Journal).record" => some f___ref06_Journal__record
  | "(*haberdash/journal.Journal).lay" => some f___journal_Journal__lay
  | "(*haberdash/journal.Journal).note" => some f___journal_Journal__note
  | "haberdash/haberdashref06.Need" => some f_ref06_Need
  | "haberdash/haberdashref04.Lay" => some f_ref04_Lay
  | "(*haberdash/haberdashref06.Disk).Sync" => some f___ref06_Disk__Sync
  | "haberdash/haberdashhelp.Plain[byte]" => some f_help_Plain_byte_
  | "haberdash/haberdashhelp.Same[[]byte]" => some f_help_Same___byte_
  | "(*haberdash/disk.Disk).Read" => some f___disk_Disk__Read
  | "haberdash/leaf.Mark" => some f_leaf_Mark
  | "haberdash/haberdashref04.four" => some f_ref04_four
  | "(*haberdash/journal.Journal).leaves" => some f___journal_Journal__leaves
  | "haberdash/haberdashref04.Take" => some f_ref04_Take
  | "haberdash/leaf.Lay" => some f_leaf_Lay
  | "(*haberdash/disk.Disk).Sync" => some f___disk_Disk__Sync
  | "haberdash/haberdashref04.RightLeaf" => some f_ref04_RightLeaf
  | "haberdash/haberdashref04.lay" => some f_ref04_lay
  | "haberdash/haberdashref04.Sum" => some f_ref04_Sum
  | "haberdash/haberdashhelp.Plain[byte]$1" => some f_help_Plain_byte__1
  | "haberdash/haberdashhelp.Same[byte]" => some f_help_Same_byte_
  | "haberdash/leaf.get" => some f_leaf_get
  | "(*haberdash/journal.Journal).leaves$1" => some f___journal_Journal__leaves_1
  | "haberdash/leaf.right" => some f_leaf_right
  | "haberdash/leaf.put" => some f_leaf_put
  | "haberdash/leaf.flags" => some f_leaf_flags
  | "haberdash/crc.Sum" => some f_crc_Sum
  | "haberdash/haberdashref04.More" => some f_ref04_More
  | "haberdash/leaf.Take" => some f_leaf_Take
  | "haberdash/crc.More" => some f_crc_More
  | _ => none
theorem c11 : chkFn Try.prog fid Try.f11 f_law09_VaultErrors = true := by kernel_rfl
theorem c14 : chkFn Try.prog fid Try.f14 f_play_Mod = true := by kernel_rfl
theorem c15 : chkFn Try.prog fid Try.f15 f_disk_New = true := by kernel_rfl
theorem c27 : chkFn Try.prog fid Try.f27 f_ref06_New = true := by kernel_rfl
theorem c43 : chkFn Try.prog fid Try.f43 f_law09_awake = true := by kernel_rfl
theorem c33 : chkFn Try.prog fid Try.f33 f___disk_Disk__Write = true := by kernel_rfl
theorem c34 : chkFn Try.prog fid Try.f34 f___ref06_Disk__Write = true := by kernel_rfl
theorem c28 : chkFn Try.prog fid Try.f28 f___disk_Disk__Crash = true := by kernel_rfl
theorem c29 : chkFn Try.prog fid Try.f29 f___ref06_Disk__Crash = true := by kernel_rfl
theorem c42 : chkFn Try.prog fid Try.f42 f_vault_Open = true := by kernel_rfl
theorem c76_Open : chkFn Try.prog fid Try.f76 f___vault_Vault__begin_Open = true := by kernel_rfl
theorem c51 : chkFn Try.prog fid Try.f51 f_ref06_OpenVault = true := by kernel_rfl
theorem c44 : chkFn Try.prog fid Try.f44 f___vault_Vault__Add = true := by kernel_rfl
theorem c47 : chkFn Try.prog fid Try.f47 f___vault_Vault__Compact = true := by kernel_rfl
theorem c76_Compact : chkFn Try.prog fid Try.f76 f___vault_Vault__begin_Compact = true := by kernel_rfl
theorem c50 : chkFn Try.prog fid Try.f50 f___vault_Vault__Base = true := by kernel_rfl
theorem c46 : chkFn Try.prog fid Try.f46 f___vault_Vault__Records = true := by kernel_rfl
theorem c48 : chkFn Try.prog fid Try.f48 f___vault_Vault__Half = true := by kernel_rfl
theorem c45 : chkFn Try.prog fid Try.f45 f___vault_Vault__Used = true := by kernel_rfl
theorem c52 : chkFn Try.prog fid Try.f52 f___vault_Vault__Disk = true := by kernel_rfl
theorem c16 : chkFn Try.prog fid Try.f16 f_journal_New = true := by kernel_rfl
theorem c30 : chkFn Try.prog fid Try.f30 f_ref06_Blank = true := by kernel_rfl
theorem c17 : chkFn Try.prog fid Try.f17 f_law08_awake = true := by kernel_rfl
theorem c31 : chkFn Try.prog fid Try.f31 f___disk_Disk__Arm = true := by kernel_rfl
theorem c32 : chkFn Try.prog fid Try.f32 f___ref06_Disk__Arm = true := by kernel_rfl
theorem c35 : chkFn Try.prog fid Try.f35 f___disk_Disk__Start = true := by kernel_rfl
theorem c36 : chkFn Try.prog fid Try.f36 f___ref06_Disk__Start = true := by kernel_rfl
theorem c25 : chkFn Try.prog fid Try.f25 f_journal_Open = true := by kernel_rfl
theorem c37 : chkFn Try.prog fid Try.f37 f_ref06_Open = true := by kernel_rfl
theorem c38 : chkFn Try.prog fid Try.f38 f_help_Own_byte_ = true := by kernel_rfl
theorem c18 : chkFn Try.prog fid Try.f18 f___journal_Journal__Add = true := by kernel_rfl
theorem c39 : chkFn Try.prog fid Try.f39 f___ref06_Journal__Add = true := by kernel_rfl
theorem c40 : chkFn Try.prog fid Try.f40 f_help_Kept_byte_ = true := by kernel_rfl
theorem c41 : chkFn Try.prog fid Try.f41 f_law08_alike = true := by kernel_rfl
theorem c21 : chkFn Try.prog fid Try.f21 f___journal_Journal__Records = true := by kernel_rfl
theorem c26 : chkFn Try.prog fid Try.f26 f___journal_Journal__First = true := by kernel_rfl
theorem c20 : chkFn Try.prog fid Try.f20 f___journal_Journal__Used = true := by kernel_rfl
theorem c24 : chkFn Try.prog fid Try.f24 f_law08_put = true := by kernel_rfl
theorem c23 : chkFn Try.prog fid Try.f23 f_help_Rows = true := by kernel_rfl
theorem c19 : chkFn Try.prog fid Try.f19 f_journal_Need = true := by kernel_rfl
theorem c57 : chkFn Try.prog fid Try.f57 f___disk_Disk__Down = true := by kernel_rfl
theorem c56 : chkFn Try.prog fid Try.f56 f___disk_Disk__Len = true := by kernel_rfl
theorem c92 : chkFn Try.prog fid Try.f92 f_vault_based = true := by kernel_rfl
theorem c49 : chkFn Try.prog fid Try.f49 f_help_Bytes = true := by kernel_rfl
theorem c65 : chkFn Try.prog fid Try.f65 f___disk_Disk__may = true := by kernel_rfl
theorem c66 : chkFn Try.prog fid Try.f66 f___disk_Disk__hit = true := by kernel_rfl
theorem c67 : chkFn Try.prog fid Try.f67 f___ref06_Disk__hit = true := by kernel_rfl
theorem c64 : chkFn Try.prog fid Try.f64 f___disk_Disk__Crash_1 = true := by kernel_rfl
theorem c63 : chkFn Try.prog fid Try.f63 f___disk_Disk__settle = true := by kernel_rfl
theorem c74 : chkFn Try.prog fid Try.f74 f_vault_greatest = true := by kernel_rfl
theorem c75 : chkFn Try.prog fid Try.f75 f_vault_counts = true := by kernel_rfl
theorem c78 : chkFn Try.prog fid Try.f78 f_ref04_Mark = true := by kernel_rfl
theorem c60 : chkFn Try.prog fid Try.f60 f_bytes_Clone = true := by kernel_rfl
theorem c77 : chkFn Try.prog fid Try.f77 f_slices_Clone_____byte___byte_ = true := by kernel_rfl
theorem c68 : chkFn Try.prog fid Try.f68 f___disk_Disk__Start_1 = true := by kernel_rfl
theorem c62 : chkFn Try.prog fid Try.f62 f___journal_Journal__take = true := by kernel_rfl
theorem c69 : chkFn Try.prog fid Try.f69 f___ref06_Journal__record = true := by kernel_rfl
theorem c58 : chkFn Try.prog fid Try.f58 f___journal_Journal__lay = true := by kernel_rfl
theorem c59 : chkFn Try.prog fid Try.f59 f___journal_Journal__note = true := by kernel_rfl
theorem c70 : chkFn Try.prog fid Try.f70 f_ref06_Need = true := by kernel_rfl
theorem c71 : chkFn Try.prog fid Try.f71 f_ref04_Lay = true := by kernel_rfl
theorem c72 : chkFn Try.prog fid Try.f72 f___ref06_Disk__Sync = true := by kernel_rfl
theorem c73 : chkFn Try.prog fid Try.f73 f_help_Plain_byte_ = true := by kernel_rfl
theorem c61 : chkFn Try.prog fid Try.f61 f_help_Same___byte_ = true := by kernel_rfl
theorem c90 : chkFn Try.prog fid Try.f90 f___disk_Disk__Read = true := by kernel_rfl
theorem c91 : chkFn Try.prog fid Try.f91 f_leaf_Mark = true := by kernel_rfl
theorem c93 : chkFn Try.prog fid Try.f93 f_ref04_four = true := by kernel_rfl
theorem c83 : chkFn Try.prog fid Try.f83 f___journal_Journal__leaves = true := by kernel_rfl
theorem c84 : chkFn Try.prog fid Try.f84 f_ref04_Take = true := by kernel_rfl
theorem c81 : chkFn Try.prog fid Try.f81 f_leaf_Lay = true := by kernel_rfl
theorem c82 : chkFn Try.prog fid Try.f82 f___disk_Disk__Sync = true := by kernel_rfl
theorem c85 : chkFn Try.prog fid Try.f85 f_ref04_RightLeaf = true := by kernel_rfl
theorem c86 : chkFn Try.prog fid Try.f86 f_ref04_lay = true := by kernel_rfl
theorem c87 : chkFn Try.prog fid Try.f87 f_ref04_Sum = true := by kernel_rfl
theorem c89 : chkFn Try.prog fid Try.f89 f_help_Plain_byte__1 = true := by kernel_rfl
theorem c88 : chkFn Try.prog fid Try.f88 f_help_Same_byte_ = true := by kernel_rfl
theorem c101 : chkFn Try.prog fid Try.f101 f_leaf_get = true := by kernel_rfl
theorem c98 : chkFn Try.prog fid Try.f98 f___journal_Journal__leaves_1 = true := by kernel_rfl
theorem c94 : chkFn Try.prog fid Try.f94 f_leaf_right = true := by kernel_rfl
theorem c95 : chkFn Try.prog fid Try.f95 f_leaf_put = true := by kernel_rfl
theorem c96 : chkFn Try.prog fid Try.f96 f_leaf_flags = true := by kernel_rfl
theorem c97 : chkFn Try.prog fid Try.f97 f_crc_Sum = true := by kernel_rfl
theorem c100 : chkFn Try.prog fid Try.f100 f_ref04_More = true := by kernel_rfl
theorem c99 : chkFn Try.prog fid Try.f99 f_leaf_Take = true := by kernel_rfl
theorem c102 : chkFn Try.prog fid Try.f102 f_crc_More = true := by kernel_rfl
theorem hprog : ∀ f F, prog f = some F → ∃ id fn, fid f = some id ∧ Try.prog.funcs[id]? = some fn ∧ chkFn Try.prog fid fn F = true := by
  intro f F h
  unfold prog at h
  split at h <;> cases h
  · exact ⟨11, _, rfl, Try.func11, c11⟩
  · exact ⟨14, _, rfl, Try.func14, c14⟩
  · exact ⟨15, _, rfl, Try.func15, c15⟩
  · exact ⟨27, _, rfl, Try.func27, c27⟩
  · exact ⟨43, _, rfl, Try.func43, c43⟩
  · exact ⟨33, _, rfl, Try.func33, c33⟩
  · exact ⟨34, _, rfl, Try.func34, c34⟩
  · exact ⟨28, _, rfl, Try.func28, c28⟩
  · exact ⟨29, _, rfl, Try.func29, c29⟩
  · exact ⟨42, _, rfl, Try.func42, c42⟩
  · exact ⟨76, _, rfl, Try.func76, c76_Open⟩
  · exact ⟨51, _, rfl, Try.func51, c51⟩
  · exact ⟨44, _, rfl, Try.func44, c44⟩
  · exact ⟨47, _, rfl, Try.func47, c47⟩
  · exact ⟨76, _, rfl, Try.func76, c76_Compact⟩
  · exact ⟨50, _, rfl, Try.func50, c50⟩
  · exact ⟨46, _, rfl, Try.func46, c46⟩
  · exact ⟨48, _, rfl, Try.func48, c48⟩
  · exact ⟨45, _, rfl, Try.func45, c45⟩
  · exact ⟨52, _, rfl, Try.func52, c52⟩
  · exact ⟨16, _, rfl, Try.func16, c16⟩
  · exact ⟨30, _, rfl, Try.func30, c30⟩
  · exact ⟨17, _, rfl, Try.func17, c17⟩
  · exact ⟨31, _, rfl, Try.func31, c31⟩
  · exact ⟨32, _, rfl, Try.func32, c32⟩
  · exact ⟨35, _, rfl, Try.func35, c35⟩
  · exact ⟨36, _, rfl, Try.func36, c36⟩
  · exact ⟨25, _, rfl, Try.func25, c25⟩
  · exact ⟨37, _, rfl, Try.func37, c37⟩
  · exact ⟨38, _, rfl, Try.func38, c38⟩
  · exact ⟨18, _, rfl, Try.func18, c18⟩
  · exact ⟨39, _, rfl, Try.func39, c39⟩
  · exact ⟨40, _, rfl, Try.func40, c40⟩
  · exact ⟨41, _, rfl, Try.func41, c41⟩
  · exact ⟨21, _, rfl, Try.func21, c21⟩
  · exact ⟨26, _, rfl, Try.func26, c26⟩
  · exact ⟨20, _, rfl, Try.func20, c20⟩
  · exact ⟨24, _, rfl, Try.func24, c24⟩
  · exact ⟨23, _, rfl, Try.func23, c23⟩
  · exact ⟨19, _, rfl, Try.func19, c19⟩
  · exact ⟨57, _, rfl, Try.func57, c57⟩
  · exact ⟨56, _, rfl, Try.func56, c56⟩
  · exact ⟨92, _, rfl, Try.func92, c92⟩
  · exact ⟨49, _, rfl, Try.func49, c49⟩
  · exact ⟨65, _, rfl, Try.func65, c65⟩
  · exact ⟨66, _, rfl, Try.func66, c66⟩
  · exact ⟨67, _, rfl, Try.func67, c67⟩
  · exact ⟨64, _, rfl, Try.func64, c64⟩
  · exact ⟨63, _, rfl, Try.func63, c63⟩
  · exact ⟨74, _, rfl, Try.func74, c74⟩
  · exact ⟨75, _, rfl, Try.func75, c75⟩
  · exact ⟨78, _, rfl, Try.func78, c78⟩
  · exact ⟨60, _, rfl, Try.func60, c60⟩
  · exact ⟨77, _, rfl, Try.func77, c77⟩
  · exact ⟨68, _, rfl, Try.func68, c68⟩
  · exact ⟨62, _, rfl, Try.func62, c62⟩
  · exact ⟨69, _, rfl, Try.func69, c69⟩
  · exact ⟨58, _, rfl, Try.func58, c58⟩
  · exact ⟨59, _, rfl, Try.func59, c59⟩
  · exact ⟨70, _, rfl, Try.func70, c70⟩
  · exact ⟨71, _, rfl, Try.func71, c71⟩
  · exact ⟨72, _, rfl, Try.func72, c72⟩
  · exact ⟨73, _, rfl, Try.func73, c73⟩
  · exact ⟨61, _, rfl, Try.func61, c61⟩
  · exact ⟨90, _, rfl, Try.func90, c90⟩
  · exact ⟨91, _, rfl, Try.func91, c91⟩
  · exact ⟨93, _, rfl, Try.func93, c93⟩
  · exact ⟨83, _, rfl, Try.func83, c83⟩
  · exact ⟨84, _, rfl, Try.func84, c84⟩
  · exact ⟨81, _, rfl, Try.func81, c81⟩
  · exact ⟨82, _, rfl, Try.func82, c82⟩
  · exact ⟨85, _, rfl, Try.func85, c85⟩
  · exact ⟨86, _, rfl, Try.func86, c86⟩
  · exact ⟨87, _, rfl, Try.func87, c87⟩
  · exact ⟨89, _, rfl, Try.func89, c89⟩
  · exact ⟨88, _, rfl, Try.func88, c88⟩
  · exact ⟨101, _, rfl, Try.func101, c101⟩
  · exact ⟨98, _, rfl, Try.func98, c98⟩
  · exact ⟨94, _, rfl, Try.func94, c94⟩
  · exact ⟨95, _, rfl, Try.func95, c95⟩
  · exact ⟨96, _, rfl, Try.func96, c96⟩
  · exact ⟨97, _, rfl, Try.func97, c97⟩
  · exact ⟨100, _, rfl, Try.func100, c100⟩
  · exact ⟨99, _, rfl, Try.func99, c99⟩
  · exact ⟨102, _, rfl, Try.func102, c102⟩
theorem own : ownKnob Try.prog.godebug = none := by kernel_rfl
theorem laidOut : laidOutB Try.prog = true := by kernel_rfl
end Go.Proofs.Ytdcnjckkcfoppaa.ChkVault
