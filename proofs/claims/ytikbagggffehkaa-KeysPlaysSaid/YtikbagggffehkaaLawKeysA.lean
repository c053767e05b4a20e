import Derived.Test.YtikbagggffehkaaKeysC
set_option linter.unusedVariables false
set_option linter.unusedSimpArgs false
namespace Go.AM
variable {prog : String → Option IFn}
theorem kputP_len {xs : List SeenD} {x : SeenD} : (kputP xs x).length ≤ xs.length + 1 := by
  unfold kputP; split
  · rw [List.length_map, insK_len]; exact Nat.le_refl _
  · simp
theorem kputR_len {xs : List SeenD} {x : SeenD} : (kputR xs x).length ≤ xs.length + 1 := by
  unfold kputR; split
  · rw [insK_len]; exact Nat.le_refl _
  · simp
theorem agg_ren {x : SeenD} {ρ} : (AV.agg x.cells).ren ρ = .agg x.cells := ren_id fun ℓ hℓ => by rw [lf_of_labs_nil (show (AV.agg x.cells).lf = true from x.lf)] at hℓ; cases hℓ
theorem str_ren {k : Txt} {ρ} : (AV.v (str k)).ren ρ = .v (str k) := rfl
end Go.AM
