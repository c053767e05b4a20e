import Derived.Test.YtphknfgiljkjaaaChkNear
import Derived.Test.YtphknfgiljkjaaaAMD
import Derived.Test.YtphknfgiljkjaaaNearB
import Derived.WalkKit
import Derived.ProofKit
import Derived.OpenShut
import Derived.ShutString
import Derived.ChangeOld
import Derived.Below
set_option linter.unusedVariables false
set_option linter.unusedSimpArgs false
/- ScopeNear: for every input the law returns true, and each argument reads behind the call as it read before. No condition. -/
namespace Go.Proofs.Ytphknfgiljkjaaa.ScopeNearDone
open Go.ChangeShapes Go.WideShapes Go.ChangeAt Go.RowKit Go.AM ChkNear

theorem fns : NearLib prog := by repeat' (first | exact rfl | constructor)

set_option maxRecDepth 100000 in
theorem lifted (os : Os) (started : os.Started) (H : Type) (enc : TypeId × Value → H) :
    ReturnsInHanded {} Try.checked os 6 .any (Rows.scopeNearSpec.pre6 enc Try.prog Try.f6 Rows.scopeNearRow.domain false) (Rows.scopeNearSpec.post enc Try.prog Try.f6 false true false false) := by
  refine returnsInHanded_of_change (C := Try.checked) own started (by kernel_rfl) Try.func6
    (ChangeSpec.witness6 (enc := enc) (C := Try.checked) false ⟨#[], #[(.slice none 0 0), (.slice none 0 0)], []⟩ 8 (by kernel_rfl) (by kernel_rfl) (by kernel_rfl) (by kernel_rfl)) ?_
  intro W base args ds gs before hval0 hW hcnd _
  have hval : ∀ (j : Nat) t v, Try.f6.params.toList[j]? = some t → args.toList[j]? = some v → Value.okWide Try.prog W .any base t v := fun j t v h1 h2 =>
    hval0 j t v (by rwa [Array.getElem?_toList] at h1) (by rwa [Array.getElem?_toList] at h2)
  have hW' := hW
  obtain ⟨p, q, hA0, hV, rfl, hfz, hnd⟩ := hW
  have hA : DataW.TrodAll enc Try.prog W 0 (fun _ => true) true Try.f6.params.toList args.toList ds p := hA0
  obtain ⟨avs, hIs, hR⟩ := read_all (fid := fid) (Ts := [(.slice (.fcons (.slice .str) (.fcons (.slice .str) .fnil))), (.slice (.fcons .str (.fcons .str (.fcons (.int .i64) (.fcons .bool .fnil)))))]) (by kernel_rfl) hval hA
  obtain ⟨rfl, rfl⟩ := trodVars_none hV
  have hlen : ds.length = 2 := (trodAll_len hA).trans (by kernel_rfl)
  obtain ⟨G2, he⟩ := ScopeNear_law fns (rfl : prog "haberdash/haberdashlaw11.ScopeNear" = _) hIs
  have hc := law_callsX (vs := args.toList) hprog rfl hR he
  rcases ds with _ | ⟨d0, _ | ⟨d1, _ | ⟨dx, dy⟩⟩⟩
  all_goals try (simp at hlen; done)
  refine Calls.mono hc fun e W' ⟨he, bel⟩ => ?_
  subst he
  exact ⟨_, rfl, _, _, _, [], _, [], hW', trodAll_mk1 (shut_bool Try.underlying4 _), below_all laidOut bel (by kernel_rfl) hA, rfl, bel.frame _, fun h => by cases h⟩

theorem over : Rows.scopeNearRow.holds Try.pinned (OpenSpec.ofChange Rows.scopeNearSpec) :=
  OpenClaim.holds_of_wide 6 Try.f6 rfl rfl rfl rfl rfl rfl rfl ⟨rfl, rfl, rfl, rfl, rfl⟩ rfl rfl rfl rfl rfl (by kernel_rfl) Try.func6 (by kernel_rfl)
    (of_decide_eq_true (by kernel_rfl)) (by unfold Func.isWrapper; first | (rw [if_pos (by decide +kernel)]; kernel_rfl) | (rw [if_neg (by decide +kernel)]; exact ⟨rfl, rfl⟩))
    (fun os started H enc _ => lifted os started H enc)

theorem proved : Rows.ScopeNearSaid := over
#print axioms proved
end Go.Proofs.Ytphknfgiljkjaaa.ScopeNearDone
