import Derived.Test.YtlcbfbopnegmnaaPackA
set_option linter.unusedVariables false
set_option linter.unusedSimpArgs false
namespace Go.AM
variable {prog : String → Option IFn}
abbrev stepTy : Ty := .fcons (.int .i64) (.fcons (.int .i64) (.fcons (.int .i64) (.fcons (.int .i64) (.fcons .str (.fcons .bool .fnil)))))
theorem is_steps {cs : List AV} (h : (Ty.slice stepTy).Is cs) : ∃ a, ∃ xs : List StepD, cs = [a] ∧ (∀ h, TView stEnc h a xs) ∧ xs.length ≤ maxLen ∧ ∀ x ∈ xs, I64 x.n ∧ I64 x.least ∧ I64 x.most := by
  rcases h with rfl | ⟨es, rfl, h, hl⟩
  · exact ⟨_, [], rfl, fun h => view_nil' (by decide), by simp, by simp⟩
  · obtain ⟨xs, hb, hs⟩ : ∃ xs : List StepD, es = xs.map stEnc.E ∧ ∀ x ∈ xs, I64 x.n ∧ I64 x.least ∧ I64 x.most := by
      clear hl
      induction es with
      | nil => exact ⟨[], rfl, by simp⟩
      | cons e es ih =>
        obtain ⟨xs, hb, hs⟩ := ih fun x hx => h x (by simp [hx])
        obtain ⟨c1, r1, he, h1, c2, r2, rfl, h2, c3, r3, rfl, h3, c4, r4, rfl, h4, c5, r5, rfl, h5, c6, r6, rfl, h6, h7⟩ := h e (by simp)
        obtain ⟨n1, rfl, i1⟩ := is_i64 h1
        obtain ⟨n2, rfl, i2⟩ := is_i64 h2
        obtain ⟨n3, rfl, i3⟩ := is_i64 h3
        obtain ⟨n4, rfl, i4⟩ := is_i64 h4
        obtain ⟨s, rfl, hs5⟩ := is_str h5
        obtain ⟨b, rfl⟩ := h6
        refine ⟨⟨n1, n2, n3, n4, s, b⟩ :: xs, by rw [hb, he, show r6 = [] from h7]; rfl, fun y hy => ?_⟩
        rcases List.mem_cons.1 hy with rfl | hy
        · exact ⟨i4, i2, i3⟩
        · exact hs y hy
    subst hb
    have e : (xs.map stEnc.E).flatten = stEnc.row xs := by rw [Enc.row, List.flatMap_def]
    refine ⟨_, xs, rfl, fun h => ?_, by simpa using hl, hs⟩
    rw [e, List.length_map]
    exact view_ro (by decide) (stEnc.row_len xs)
end Go.AM
