import Derived.Test.YtlcbfbopnegmnaaRows
import Derived.Test.YtlcbfbopnegmnaaAMC
import Derived.Test.YtlcbfbopnegmnaaCrc
import Derived.Test.YtlcbfbopnegmnaaLeafA
import Derived.Test.YtlcbfbopnegmnaaHelp
import Derived.Test.YtlcbfbopnegmnaaScopeA
import Derived.Test.YtlcbfbopnegmnaaSortA
import Derived.Test.YtlcbfbopnegmnaaPackA
import Derived.Test.YtlcbfbopnegmnaaDiskA
import Derived.KernelRfl
set_option linter.unusedVariables false
set_option linter.unusedSimpArgs false
namespace Go.Proofs.Ytlcbfbopnegmnaa.ChkDisk
open Go.AM
def fid (f : String) : Option FuncId := match f with
  | "haberdash/haberdashlaw06.DiskForks" => some 11
  | "haberdash/haberdashlaw06.DiskPlays" => some 10
  | "haberdash/haberdashlaw06.DiskSure" => some 4
  | "haberdash/haberdashlaw06.DiskHits" => some 5
  | "haberdash/haberdashlaw06.DiskNil" => some 12
  | "haberdash/disk.New" => some 19
  | "haberdash/haberdashref06.New" => some 41
  | "haberdash/haberdashlaw06.step" => some 44
  | "haberdash/haberdashlaw06.awake" => some 18
  | "(*haberdash/disk.Disk).Fork" => some 42
  | "(*haberdash/haberdashref06.Disk).Copy" => some 43
  | "haberdash/haberdashlaw06.same" => some 45
  | "haberdash/haberdashlaw06.full" => some 21
  | "(*haberdash/disk.Disk).Write" => some 20
  | "(*haberdash/disk.Disk).Sync" => some 22
  | "(*haberdash/disk.Disk).Crash" => some 23
  | "(*haberdash/disk.Disk).Start" => some 24
  | "(*haberdash/disk.Disk).Read" => some 25
  | "(*haberdash/disk.Disk).Arm" => some 26
  | "(*haberdash/disk.Disk).Down" => some 27
  | "(*haberdash/disk.Disk).Len" => some 46
  | "(*haberdash/haberdashref06.Disk).Write" => some 59
  | "(*haberdash/haberdashref06.Disk).Sync" => some 60
  | "(*haberdash/haberdashref06.Disk).Arm" => some 61
  | "(*haberdash/haberdashref06.Disk).Crash" => some 62
  | "(*haberdash/haberdashref06.Disk).Start" => some 63
  | "slices.Clone[[][64]byte,[64]byte]" => some 57
  | "slices.Clone[[]bool,bool]" => some 58
  | "(*haberdash/haberdashref06.Disk).Read" => some 64
  | "(*haberdash/disk.Disk).may" => some 50
  | "(*haberdash/disk.Disk).hit" => some 51
  | "(*haberdash/disk.Disk).Crash$1" => some 53
  | "(*haberdash/disk.Disk).settle" => some 52
  | "(*haberdash/disk.Disk).Start$1" => some 54
  | "(*haberdash/haberdashref06.Disk).hit" => some 65
  | _ => none
def prog (f : String) : Option IFn := match f with
  | "haberdash/haberdashlaw06.DiskForks" => some f_law06_DiskForks
  | "haberdash/haberdashlaw06.DiskPlays" => some f_law06_DiskPlays
  | "haberdash/haberdashlaw06.DiskSure" => some f_law06_DiskSure
  | "haberdash/haberdashlaw06.DiskHits" => some f_law06_DiskHits
  | "haberdash/haberdashlaw06.DiskNil" => some f_law06_DiskNil
  | "haberdash/disk.New" => some f_disk_New
  | "haberdash/haberdashref06.New" => some f_ref06_New
  | "haberdash/haberdashlaw06.step" => some f_law06_step
  | "haberdash/haberdashlaw06.awake" => some f_law06_awake
  | "(*haberdash/disk.Disk).Fork" => some f___disk_Disk__Fork
  | "(*haberdash/haberdashref06.Disk).Copy" => some f___ref06_Disk__Copy
  | "haberdash/haberdashlaw06.same" => some f_law06_same
  | "haberdash/haberdashlaw06.full" => some f_law06_full
  | "(*haberdash/disk.Disk).Write" => some f___disk_Disk__Write
  | "(*haberdash/disk.Disk).Sync" => some f___disk_Disk__Sync
  | "(*haberdash/disk.Disk).Crash" => some f___disk_Disk__Crash
  | "(*haberdash/disk.Disk).Start" => some f___disk_Disk__Start
  | "(*haberdash/disk.Disk).Read" => some f___disk_Disk__Read
  | "(*haberdash/disk.Disk).Arm" => some f___disk_Disk__Arm
  | "(*haberdash/disk.Disk).Down" => some f___disk_Disk__Down
  | "(*haberdash/disk.Disk).Len" => some f___disk_Disk__Len
  | "(*haberdash/haberdashref06.Disk).Write" => some f___ref06_Disk__Write
  | "(*haberdash/haberdashref06.Disk).Sync" => some f___ref06_Disk__Sync
  | "(*haberdash/haberdashref06.Disk).Arm" => some f___ref06_Disk__Arm
  | "(*haberdash/haberdashref06.Disk).Crash" => some f___ref06_Disk__Crash
  | "(*haberdash/haberdashref06.Disk).Start" => some f___ref06_Disk__Start
  | "slices.Clone[[][64]byte,[64]byte]" => some f_slices_Clone____64_byte__64_byte_
  | "slices.Clone[[]bool,bool]" => some f_slices_Clone___bool_bool_
  | "(*haberdash/haberdashref06.Disk).Read" => some f___ref06_Disk__Read
  | "(*haberdash/disk.Disk).may" => some f___disk_Disk__may
  | "(*haberdash/disk.Disk).hit" => some f___disk_Disk__hit
  | "(*haberdash/disk.Disk).Crash$1" => some f___disk_Disk__Crash_1
  | "(*haberdash/disk.Disk).settle" => some f___disk_Disk__settle
  | "(*haberdash/disk.Disk).Start$1" => some f___disk_Disk__Start_1
  | "(*haberdash/haberdashref06.Disk).hit" => some f___ref06_Disk__hit
  | _ => none
theorem c11 : chkFn Try.prog fid Try.f11 f_law06_DiskForks = true := by kernel_rfl
theorem c10 : chkFn Try.prog fid Try.f10 f_law06_DiskPlays = true := by kernel_rfl
theorem c4 : chkFn Try.prog fid Try.f4 f_law06_DiskSure = true := by kernel_rfl
theorem c5 : chkFn Try.prog fid Try.f5 f_law06_DiskHits = true := by kernel_rfl
theorem c12 : chkFn Try.prog fid Try.f12 f_law06_DiskNil = true := by kernel_rfl
theorem c19 : chkFn Try.prog fid Try.f19 f_disk_New = true := by kernel_rfl
theorem c41 : chkFn Try.prog fid Try.f41 f_ref06_New = true := by kernel_rfl
theorem c44 : chkFn Try.prog fid Try.f44 f_law06_step = true := by kernel_rfl
theorem c18 : chkFn Try.prog fid Try.f18 f_law06_awake = true := by kernel_rfl
theorem c42 : chkFn Try.prog fid Try.f42 f___disk_Disk__Fork = true := by kernel_rfl
theorem c43 : chkFn Try.prog fid Try.f43 f___ref06_Disk__Copy = true := by kernel_rfl
theorem c45 : chkFn Try.prog fid Try.f45 f_law06_same = true := by kernel_rfl
theorem c21 : chkFn Try.prog fid Try.f21 f_law06_full = true := by kernel_rfl
theorem c20 : chkFn Try.prog fid Try.f20 f___disk_Disk__Write = true := by kernel_rfl
theorem c22 : chkFn Try.prog fid Try.f22 f___disk_Disk__Sync = true := by kernel_rfl
theorem c23 : chkFn Try.prog fid Try.f23 f___disk_Disk__Crash = true := by kernel_rfl
theorem c24 : chkFn Try.prog fid Try.f24 f___disk_Disk__Start = true := by kernel_rfl
theorem c25 : chkFn Try.prog fid Try.f25 f___disk_Disk__Read = true := by kernel_rfl
theorem c26 : chkFn Try.prog fid Try.f26 f___disk_Disk__Arm = true := by kernel_rfl
theorem c27 : chkFn Try.prog fid Try.f27 f___disk_Disk__Down = true := by kernel_rfl
theorem c46 : chkFn Try.prog fid Try.f46 f___disk_Disk__Len = true := by kernel_rfl
theorem c59 : chkFn Try.prog fid Try.f59 f___ref06_Disk__Write = true := by kernel_rfl
theorem c60 : chkFn Try.prog fid Try.f60 f___ref06_Disk__Sync = true := by kernel_rfl
theorem c61 : chkFn Try.prog fid Try.f61 f___ref06_Disk__Arm = true := by kernel_rfl
theorem c62 : chkFn Try.prog fid Try.f62 f___ref06_Disk__Crash = true := by kernel_rfl
theorem c63 : chkFn Try.prog fid Try.f63 f___ref06_Disk__Start = true := by kernel_rfl
theorem c57 : chkFn Try.prog fid Try.f57 f_slices_Clone____64_byte__64_byte_ = true := by kernel_rfl
theorem c58 : chkFn Try.prog fid Try.f58 f_slices_Clone___bool_bool_ = true := by kernel_rfl
theorem c64 : chkFn Try.prog fid Try.f64 f___ref06_Disk__Read = true := by kernel_rfl
theorem c50 : chkFn Try.prog fid Try.f50 f___disk_Disk__may = true := by kernel_rfl
theorem c51 : chkFn Try.prog fid Try.f51 f___disk_Disk__hit = true := by kernel_rfl
theorem c53 : chkFn Try.prog fid Try.f53 f___disk_Disk__Crash_1 = true := by kernel_rfl
theorem c52 : chkFn Try.prog fid Try.f52 f___disk_Disk__settle = true := by kernel_rfl
theorem c54 : chkFn Try.prog fid Try.f54 f___disk_Disk__Start_1 = true := by kernel_rfl
theorem c65 : chkFn Try.prog fid Try.f65 f___ref06_Disk__hit = true := by kernel_rfl
theorem hprog : ∀ f F, prog f = some F → ∃ id fn, fid f = some id ∧ Try.prog.funcs[id]? = some fn ∧ chkFn Try.prog fid fn F = true := by
  intro f F h
  unfold prog at h
  split at h <;> cases h
  · exact ⟨11, _, rfl, Try.func11, c11⟩
  · exact ⟨10, _, rfl, Try.func10, c10⟩
  · exact ⟨4, _, rfl, Try.func4, c4⟩
  · exact ⟨5, _, rfl, Try.func5, c5⟩
  · exact ⟨12, _, rfl, Try.func12, c12⟩
  · exact ⟨19, _, rfl, Try.func19, c19⟩
  · exact ⟨41, _, rfl, Try.func41, c41⟩
  · exact ⟨44, _, rfl, Try.func44, c44⟩
  · exact ⟨18, _, rfl, Try.func18, c18⟩
  · exact ⟨42, _, rfl, Try.func42, c42⟩
  · exact ⟨43, _, rfl, Try.func43, c43⟩
  · exact ⟨45, _, rfl, Try.func45, c45⟩
  · exact ⟨21, _, rfl, Try.func21, c21⟩
  · exact ⟨20, _, rfl, Try.func20, c20⟩
  · exact ⟨22, _, rfl, Try.func22, c22⟩
  · exact ⟨23, _, rfl, Try.func23, c23⟩
  · exact ⟨24, _, rfl, Try.func24, c24⟩
  · exact ⟨25, _, rfl, Try.func25, c25⟩
  · exact ⟨26, _, rfl, Try.func26, c26⟩
  · exact ⟨27, _, rfl, Try.func27, c27⟩
  · exact ⟨46, _, rfl, Try.func46, c46⟩
  · exact ⟨59, _, rfl, Try.func59, c59⟩
  · exact ⟨60, _, rfl, Try.func60, c60⟩
  · exact ⟨61, _, rfl, Try.func61, c61⟩
  · exact ⟨62, _, rfl, Try.func62, c62⟩
  · exact ⟨63, _, rfl, Try.func63, c63⟩
  · exact ⟨57, _, rfl, Try.func57, c57⟩
  · exact ⟨58, _, rfl, Try.func58, c58⟩
  · exact ⟨64, _, rfl, Try.func64, c64⟩
  · exact ⟨50, _, rfl, Try.func50, c50⟩
  · exact ⟨51, _, rfl, Try.func51, c51⟩
  · exact ⟨53, _, rfl, Try.func53, c53⟩
  · exact ⟨52, _, rfl, Try.func52, c52⟩
  · exact ⟨54, _, rfl, Try.func54, c54⟩
  · exact ⟨65, _, rfl, Try.func65, c65⟩
theorem own : ownKnob Try.prog.godebug = none := by kernel_rfl
theorem laidOut : laidOutB Try.prog = true := by kernel_rfl
end Go.Proofs.Ytlcbfbopnegmnaa.ChkDisk
