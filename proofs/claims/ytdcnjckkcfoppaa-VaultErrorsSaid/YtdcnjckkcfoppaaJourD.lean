import Derived.Test.YtdcnjckkcfoppaaJourC
import Derived.Test.YtdcnjckkcfoppaaJourB
set_option linter.unusedVariables false
set_option linter.unusedSimpArgs false
namespace Go.AM
variable {D : DskD} {J : JD} {n : Nat}
theorem zs64_badJ : takeOK zs64 = false := by
  cases h : takeOK zs64 with
  | false => rfl
  | true =>
    have := (Bool.and_eq_true _ _ ▸ h : (takeD zs64).right = true ∧ decide ((takeD zs64).bytes = zs64) = true).1
    have h2 := (right_len this).1
    exact absurd h2 (by decide)
theorem lvNext_zero {ep : BitVec 32} (h : D.b[J.frm + J.used]? = some zsec ∨ J.n ≤ J.used) : lvNext D J 0 ep = false := by
  have : lvOK D J (J.used + 0) = false := by
    unfold lvOK
    split
    · rename_i hi
      rcases h with h | h
      · unfold secAt
        rw [Int.toNat_natCast, List.getD_eq_getElem?_getD, show J.frm + (J.used + 0) = J.frm + J.used from rfl, h]
        exact zs64_badJ
      · omega
    · rfl
  unfold lvNext
  rw [this]; rfl
theorem newD_b {k t : Nat} (h : t < k) : (newD k).b[t]? = some zsec := by
  simp [newD, h]
end Go.AM
namespace Go.AM
variable {prog : String → Option IFn}
variable {G L : List (Option Blk)} {P : DPos} {D : DskD} {n q p : Nat} {B : Option Blk} {cs : List AV} {J : JD}
def rowBk (l : List Txt) : Option Blk := if l = [] then none else recB l
theorem arg_blk {k : Nat} {b : Txt} {X : Blk} {cap : Option Nat} (hf : Off P q p k) (hk : G[k]? = some (some X)) (hX : X.cells = b.map byteAV) (hv : X.virt = false) (hc : ∀ c, cap = some c → b.length ≤ c) : Arg G P q p (.own (.o k) b.length 0 b.length 1 cap) b := by
  have hlt := lt_of_get hk
  have hg : ∀ D B cs Y, (dj G P q p D B cs ++ Y)[k]? = some (some X) := fun D B cs Y => by
    rw [List.getElem?_append_left (by rw [dj_len]; exact hlt), dj_off hf]; exact hk
  refine ⟨fun D B cs Y L' => ?_, fun hb D B cs Y L' => ?_, fun g => rfl⟩
  · refine ⟨rfl, ?_, by simp, rfl, ?_, by omega⟩
    · simp only [Hp.sees, Hp.get, hg, Option.join_some, hX, List.length_map, if_true, List.drop_zero, Nat.mul_one]
      rw [List.take_of_length_le (by simp)]
    · unfold capOK; cases cap with
      | none => trivial
      | some c => have := hc c rfl; simp only; omega
  · simp only [Hp.isNil, Hp.get, hg, Option.join_some, hX, hv, List.length_map]
    simp
end Go.AM
namespace Go.AM
variable {prog : String → Option IFn}
variable {G L : List (Option Blk)} {P : DPos} {D : DskD} {n q p : Nat} {B : Option Blk} {cs : List AV} {J : JD}
def DB (B : Option Blk) : Prop := ∀ b, B = some b → b.labs = []
theorem DB.z : DB none := fun b h => by cases h
theorem DB.d {c : List AV} {o v : Bool} : DB (some (dBlk c o v)) := fun b h => by cases h; rfl
theorem DB.r {l : List Txt} : DB (rowBk l) := fun b h => by
  unfold rowBk at h
  split at h
  · cases h
  · cases h; rfl
end Go.AM
