import Derived.Test.YtdcnjckkcfoppaaDiskA
set_option linter.unusedVariables false
set_option linter.unusedSimpArgs false
namespace Go.AM
variable {prog : String → Option IFn}
variable {G L : List (Option Blk)} {P : DPos} {D : DskD} {n : Nat}
structure RefDisk (prog : String → Option IFn) : Prop where
  new : prog "haberdash/haberdashref06.New" = some f_ref06_New
  write : prog "(*haberdash/haberdashref06.Disk).Write" = some f___ref06_Disk__Write
  sync : prog "(*haberdash/haberdashref06.Disk).Sync" = some f___ref06_Disk__Sync
  arm : prog "(*haberdash/haberdashref06.Disk).Arm" = some f___ref06_Disk__Arm
  crash : prog "(*haberdash/haberdashref06.Disk).Crash" = some f___ref06_Disk__Crash
  start : prog "(*haberdash/haberdashref06.Disk).Start" = some f___ref06_Disk__Start
  hit : prog "(*haberdash/haberdashref06.Disk).hit" = some f___ref06_Disk__hit
end Go.AM
namespace Go.AM
variable {prog : String → Option IFn}
variable {G L : List (Option Blk)} {P : DPos} {D : DskD} {n : Nat}
def secSet (s : Sec) (j : Nat) (c : UInt8) : Sec := ⟨s.1.set j c, by rw [List.length_set]; exact s.2⟩
section
variable (h : P.Ok G.length n)
include h
end
end Go.AM
