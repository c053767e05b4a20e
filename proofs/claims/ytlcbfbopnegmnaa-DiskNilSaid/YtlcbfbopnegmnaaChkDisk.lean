import Derived.Test.YtlcbfbopnegmnaaRows
import Derived.Test.YtlcbfbopnegmnaaAMC
import Derived.Test.YtlcbfbopnegmnaaCrc
import Derived.Test.YtlcbfbopnegmnaaLeafA
import Derived.Test.YtlcbfbopnegmnaaHelp
import Derived.Test.YtlcbfbopnegmnaaScopeA
import Derived.Test.YtlcbfbopnegmnaaSortA
import Derived.Test.YtlcbfbopnegmnaaPackA
import Derived.Test.YtlcbfbopnegmnaaDiskA
import Derived.KernelRfl
set_option linter.unusedVariables false
set_option linter.unusedSimpArgs false
namespace Go.Proofs.Ytlcbfbopnegmnaa.ChkDisk
open Go.AM
def fid (f : String) : Option FuncId := match f with
  | "haberdash/haberdashlaw06.DiskSure" => some 4
  | "haberdash/haberdashlaw06.DiskHits" => some 5
  | "haberdash/haberdashlaw06.DiskNil" => some 12
  | "haberdash/haberdashlaw06.awake" => some 18
  | "haberdash/disk.New" => some 19
  | "haberdash/haberdashlaw06.full" => some 21
  | "(*haberdash/disk.Disk).Write" => some 20
  | "(*haberdash/disk.Disk).Sync" => some 22
  | "(*haberdash/disk.Disk).Crash" => some 23
  | "(*haberdash/disk.Disk).Start" => some 24
  | "(*haberdash/disk.Disk).Read" => some 25
  | "(*haberdash/disk.Disk).Arm" => some 26
  | "(*haberdash/disk.Disk).Down" => some 27
  | "(*haberdash/disk.Disk).Len" => some 46
  | "(*haberdash/disk.Disk).Fork" => some 42
  | "(*haberdash/disk.Disk).may" => some 50
  | "(*haberdash/disk.Disk).hit" => some 51
  | "(*haberdash/disk.Disk).Crash$1" => some 53
  | "(*haberdash/disk.Disk).settle" => some 52
  | "(*haberdash/disk.Disk).Start$1" => some 54
  | "slices.Clone[[][64]byte,[64]byte]" => some 57
  | "slices.Clone[[]bool,bool]" => some 58
  | _ => none
def prog (f : String) : Option IFn := match f with
  | "haberdash/haberdashlaw06.DiskSure" => some f_law06_DiskSure
  | "haberdash/haberdashlaw06.DiskHits" => some f_law06_DiskHits
  | "haberdash/haberdashlaw06.DiskNil" => some f_law06_DiskNil
  | "haberdash/haberdashlaw06.awake" => some f_law06_awake
  | "haberdash/disk.New" => some f_disk_New
  | "haberdash/haberdashlaw06.full" => some f_law06_full
  | "(*haberdash/disk.Disk).Write" => some f___disk_Disk__Write
  | "(*haberdash/disk.Disk).Sync" => some f___disk_Disk__Sync
  | "(*haberdash/disk.Disk).Crash" => some f___disk_Disk__Crash
  | "(*haberdash/disk.Disk).Start" => some f___disk_Disk__Start
  | "(*haberdash/disk.Disk).Read" => some f___disk_Disk__Read
  | "(*haberdash/disk.Disk).Arm" => some f___disk_Disk__Arm
  | "(*haberdash/disk.Disk).Down" => some f___disk_Disk__Down
  | "(*haberdash/disk.Disk).Len" => some f___disk_Disk__Len
  | "(*haberdash/disk.Disk).Fork" => some f___disk_Disk__Fork
  | "(*haberdash/disk.Disk).may" => some f___disk_Disk__may
  | "(*haberdash/disk.Disk).hit" => some f___disk_Disk__hit
  | "(*haberdash/disk.Disk).Crash$1" => some f___disk_Disk__Crash_1
  | "(*haberdash/disk.Disk).settle" => some f___disk_Disk__settle
  | "(*haberdash/disk.Disk).Start$1" => some f___disk_Disk__Start_1
  | "slices.Clone[[][64]byte,[64]byte]" => some f_slices_Clone____64_byte__64_byte_
  | "slices.Clone[[]bool,bool]" => some f_slices_Clone___bool_bool_
  | _ => none
theorem c4 : chkFn Try.prog fid Try.f4 f_law06_DiskSure = true := by kernel_rfl
theorem c5 : chkFn Try.prog fid Try.f5 f_law06_DiskHits = true := by kernel_rfl
theorem c12 : chkFn Try.prog fid Try.f12 f_law06_DiskNil = true := by kernel_rfl
theorem c18 : chkFn Try.prog fid Try.f18 f_law06_awake = true := by kernel_rfl
theorem c19 : chkFn Try.prog fid Try.f19 f_disk_New = true := by kernel_rfl
theorem c21 : chkFn Try.prog fid Try.f21 f_law06_full = true := by kernel_rfl
theorem c20 : chkFn Try.prog fid Try.f20 f___disk_Disk__Write = true := by kernel_rfl
theorem c22 : chkFn Try.prog fid Try.f22 f___disk_Disk__Sync = true := by kernel_rfl
theorem c23 : chkFn Try.prog fid Try.f23 f___disk_Disk__Crash = true := by kernel_rfl
theorem c24 : chkFn Try.prog fid Try.f24 f___disk_Disk__Start = true := by kernel_rfl
theorem c25 : chkFn Try.prog fid Try.f25 f___disk_Disk__Read = true := by kernel_rfl
theorem c26 : chkFn Try.prog fid Try.f26 f___disk_Disk__Arm = true := by kernel_rfl
theorem c27 : chkFn Try.prog fid Try.f27 f___disk_Disk__Down = true := by kernel_rfl
theorem c46 : chkFn Try.prog fid Try.f46 f___disk_Disk__Len = true := by kernel_rfl
theorem c42 : chkFn Try.prog fid Try.f42 f___disk_Disk__Fork = true := by kernel_rfl
theorem c50 : chkFn Try.prog fid Try.f50 f___disk_Disk__may = true := by kernel_rfl
theorem c51 : chkFn Try.prog fid Try.f51 f___disk_Disk__hit = true := by kernel_rfl
theorem c53 : chkFn Try.prog fid Try.f53 f___disk_Disk__Crash_1 = true := by kernel_rfl
theorem c52 : chkFn Try.prog fid Try.f52 f___disk_Disk__settle = true := by kernel_rfl
theorem c54 : chkFn Try.prog fid Try.f54 f___disk_Disk__Start_1 = true := by kernel_rfl
theorem c57 : chkFn Try.prog fid Try.f57 f_slices_Clone____64_byte__64_byte_ = true := by kernel_rfl
theorem c58 : chkFn Try.prog fid Try.f58 f_slices_Clone___bool_bool_ = true := by kernel_rfl
theorem hprog : ∀ f F, prog f = some F → ∃ id fn, fid f = some id ∧ Try.prog.funcs[id]? = some fn ∧ chkFn Try.prog fid fn F = true := by
  intro f F h
  unfold prog at h
  split at h <;> cases h
  · exact ⟨4, _, rfl, Try.func4, c4⟩
  · exact ⟨5, _, rfl, Try.func5, c5⟩
  · exact ⟨12, _, rfl, Try.func12, c12⟩
  · exact ⟨18, _, rfl, Try.func18, c18⟩
  · exact ⟨19, _, rfl, Try.func19, c19⟩
  · exact ⟨21, _, rfl, Try.func21, c21⟩
  · exact ⟨20, _, rfl, Try.func20, c20⟩
  · exact ⟨22, _, rfl, Try.func22, c22⟩
  · exact ⟨23, _, rfl, Try.func23, c23⟩
  · exact ⟨24, _, rfl, Try.func24, c24⟩
  · exact ⟨25, _, rfl, Try.func25, c25⟩
  · exact ⟨26, _, rfl, Try.func26, c26⟩
  · exact ⟨27, _, rfl, Try.func27, c27⟩
  · exact ⟨46, _, rfl, Try.func46, c46⟩
  · exact ⟨42, _, rfl, Try.func42, c42⟩
  · exact ⟨50, _, rfl, Try.func50, c50⟩
  · exact ⟨51, _, rfl, Try.func51, c51⟩
  · exact ⟨53, _, rfl, Try.func53, c53⟩
  · exact ⟨52, _, rfl, Try.func52, c52⟩
  · exact ⟨54, _, rfl, Try.func54, c54⟩
  · exact ⟨57, _, rfl, Try.func57, c57⟩
  · exact ⟨58, _, rfl, Try.func58, c58⟩
theorem own : ownKnob Try.prog.godebug = none := by kernel_rfl
theorem laidOut : laidOutB Try.prog = true := by kernel_rfl
end Go.Proofs.Ytlcbfbopnegmnaa.ChkDisk
