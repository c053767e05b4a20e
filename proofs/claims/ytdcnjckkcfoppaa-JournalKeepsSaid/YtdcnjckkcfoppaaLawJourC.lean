import Derived.Test.YtdcnjckkcfoppaaJourD
set_option linter.unusedVariables false
set_option linter.unusedSimpArgs false
namespace Go.AM
variable {prog : String → Option IFn}
variable {L : List (Option Blk)} {P : DPos} {D : DskD} {n q p : Nat} {B : Option Blk} {cs : List AV} {J : JD}
theorem putR_small {xs : List BtV} : SmallR (xs.map putR) := fun b hb => by
  obtain ⟨x, _, rfl⟩ := List.mem_map.1 hb
  refine ⟨by simp [putR], ?_⟩
  show ((1 : UInt8) :: x.b.take 200).length ≤ 201
  rw [List.length_cons, List.length_take]; omega
abbrev sP : DPos := dpos 0 (some 90) false
theorem s_ok {X : List (Option Blk)} {qq pp : Nat} (h1 : 3 < qq) (h2 : qq < pp) (h3 : pp < X.length) : LOk X sP qq pp 90 :=
  ⟨dpos_ok (by omega) le_some, h2, h3, by show 3 < pp; omega, fun k hk => by simp only [sP, dpos, List.mem_cons, List.not_mem_nil, or_false] at hk; omega, fun k hk => by simp only [sP, dpos, List.mem_cons, List.not_mem_nil, or_false] at hk; omega⟩
end Go.AM
