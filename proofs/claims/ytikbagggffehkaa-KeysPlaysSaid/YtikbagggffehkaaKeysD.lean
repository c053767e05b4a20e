import Derived.Test.YtikbagggffehkaaLawKeysA
set_option linter.unusedVariables false
set_option linter.unusedSimpArgs false
namespace Go.AM
variable {prog : String → Option IFn}
theorem ins_get {α : Type} {l : List α} {m : Nat} {s : α} (hm : m ≤ l.length) (i : Nat) : (l.take m ++ s :: l.drop m)[i]? = if i < m then l[i]? else if i = m then some s else l[i - 1]? := by
  have hl : (l.take m).length = m := by simp; omega
  by_cases h1 : i < m
  · rw [if_pos h1, List.getElem?_append_left (by omega), List.getElem?_take, if_pos h1]
  · rw [if_neg h1, List.getElem?_append_right (by omega), hl]
    by_cases h2 : i = m
    · subst h2; simp
    · rw [if_neg h2]
      obtain ⟨j, rfl⟩ : ∃ j, i = m + 1 + j := ⟨i - m - 1, by omega⟩
      rw [show m + 1 + j - m = j + 1 by omega, List.getElem?_cons_succ, List.getElem?_drop, show m + 1 + j - 1 = m + j by omega]
theorem ksOf_ins (xs : List SeenD) (x : SeenD) : ksOf (insK xs x) = (ksOf xs).take (lowB (ksOf xs) x.k) ++ x.k :: (ksOf xs).drop (lowB (ksOf xs) x.k) := by
  unfold insK insAt
  generalize lowB (ksOf xs) x.k = m
  simp only [ksOf, List.map_append, List.map_cons, List.map_take, List.map_drop]
theorem ksOf_clone (xs : List SeenD) : ksOf (xs.map cloneS) = ksOf xs := by
  unfold ksOf; rw [List.map_map]; rfl
theorem less_low {ks : List Txt} {s : Txt} {j : Nat} {k : Txt} (hj : j < lowB ks s) (hk : ks[j]? = some k) : lessT k s = true := by
  have := findIdx_before (p := fun k => !(lessT k s)) hj hk
  simpa using this
theorem low_ge {ks : List Txt} {s k : Txt} (hk : ks[lowB ks s]? = some k) : lessT k s = false := by
  have := findIdx_at (p := fun k => !(lessT k s)) hk
  simpa using this
theorem rise_ins {ks : List Txt} {s : Txt} (h : rise ks = true) (hn : ¬ fstB ks s < ks.length) : rise (ks.take (lowB ks s) ++ s :: ks.drop (lowB ks s)) = true := by
  have hm : lowB ks s ≤ ks.length := List.findIdx_le_length
  have hno : ∀ (j : Nat) k, ks[j]? = some k → k ≠ s := fun j k hj e => by
    subst e
    have := findIdx_before (p := fun x => decide (x = k)) (xs := ks) (j := j) (by
      have hle : fstB ks k = ks.length := by
        have : fstB ks k ≤ ks.length := List.findIdx_le_length
        omega
      show j < fstB ks k
      rw [hle]; exact lt_of_get hj) hj
    simp at this
  refine rise_of fun i a b h1 h2 => ?_
  rw [ins_get hm] at h1 h2
  by_cases c1 : i + 1 < lowB ks s
  · rw [if_pos (by omega)] at h1
    rw [if_pos c1] at h2
    exact rise_at h h1 h2
  · rw [if_neg c1] at h2
    by_cases c2 : i + 1 = lowB ks s
    · rw [if_pos (by omega)] at h1
      rw [if_pos c2] at h2
      cases h2
      exact less_low (by omega) h1
    · rw [if_neg c2] at h2
      rw [if_neg (by omega)] at h1
      by_cases c3 : i = lowB ks s
      · rw [if_pos c3] at h1
        cases h1
        rw [Nat.add_sub_cancel] at h2
        rw [c3] at h2
        have hg := low_ge h2
        cases hl : lessT s b with
        | true => exact hl
        | false => exact absurd (less_tri hg hl) (hno _ _ h2)
      · rw [if_neg c3] at h1
        rw [Nat.add_sub_cancel] at h2
        obtain ⟨j, rfl⟩ : ∃ j, i = j + 1 := ⟨i - 1, by omega⟩
        rw [Nat.add_sub_cancel] at h1
        exact rise_at h h1 h2
theorem rise_fst {ks : List Txt} {i : Nat} {k : Txt} (h : rise ks = true) (hk : ks[i]? = some k) : fstB ks k = i := by
  refine findIdx_is (Nat.le_of_lt (lt_of_get hk)) (fun j x hj hx => ?_) fun x hx => by rw [hk] at hx; cases hx; exact decide_eq_true rfl
  refine decide_eq_false fun e => ?_
  subst e
  have hlt : ∀ d j (a b : Txt), ks[j]? = some a → ks[j + d + 1]? = some b → lessT a b = true := by
    intro d
    induction d with
    | zero => intro j a b h1 h2; exact rise_at h h1 h2
    | succ d ih =>
      intro j a b h1 h2
      have hl := lt_of_get h2
      obtain ⟨c, hc⟩ : ∃ c, ks[j + d + 1]? = some c := ⟨_, List.getElem?_eq_getElem (by omega)⟩
      exact less_trans (ih j a c h1 hc) (rise_at h hc (by rw [← h2]; congr 1))
  have := hlt (i - j - 1) j x x hx (by rw [← hk]; congr 1; omega)
  rw [less_irrefl] at this; cases this
theorem rightK_rise {xs : List SeenD} (h : rightK xs = true) : rise (ksOf xs) = true := by
  unfold rightK at h
  simp only [Bool.and_eq_true] at h
  exact h.2.2
theorem ask_at {xs : List SeenD} {i : Nat} {y : SeenD} {bq : Txt} (h : rise (ksOf xs) = true) (hy : xs[i]? = some y) : askK xs y.k bq = if y.q.b = bq then (y.t.b, 1) else ([], 2) := by
  have hk : (ksOf xs)[i]? = some y.k := by unfold ksOf; rw [List.getElem?_map, hy]; rfl
  unfold askK
  rw [rise_fst h hk, hy]
theorem ask_new {xs : List SeenD} {s bq : Txt} (h : ¬ fstB (ksOf xs) s < (ksOf xs).length) : askK xs s bq = ([], 0) := by
  unfold askK
  have hkl : (ksOf xs).length = xs.length := by simp [ksOf]
  rw [List.getElem?_eq_none (by omega)]
theorem ask_old {xs : List SeenD} {s bq : Txt} (h : fstB (ksOf xs) s < (ksOf xs).length) : (askK xs s bq).2 ≠ 0 := by
  unfold askK
  have hkl : (ksOf xs).length = xs.length := by simp [ksOf]
  rw [List.getElem?_eq_getElem (by omega)]
  simp only
  split <;> simp
theorem rightK_ins {xs : List SeenD} {x : SeenD} (h : rightK xs = true) (hn : nameOK x.k = true) (hf : ¬ fstB (ksOf xs) x.k < (ksOf xs).length) (hl : xs.length < 4000) : rightK (insK xs x) = true := by
  have hr := rise_ins (rightK_rise h) hf
  unfold rightK at h ⊢
  simp only [Bool.and_eq_true, decide_eq_true_eq, List.all_eq_true] at h ⊢
  refine ⟨by rw [insK_len]; omega, fun y hy => ?_, by rw [ksOf_ins]; exact hr⟩
  rcases insK_mem hy with hy | rfl
  · exact h.2.1 y hy
  · exact hn
theorem rightK_clone {xs : List SeenD} : rightK (xs.map cloneS) = rightK xs := by
  unfold rightK
  rw [ksOf_clone, List.length_map, List.all_map]; rfl
theorem insK_at {xs : List SeenD} {x : SeenD} : (insK xs x)[lowB (ksOf xs) x.k]? = some x := by
  unfold insK insAt
  rw [ins_get (low_le xs x.k), if_neg (by omega), if_pos rfl]
theorem insK_has {xs : List SeenD} {x y : SeenD} (h : y ∈ xs) : ∃ i : Nat, (insK xs x)[i]? = some y := by
  obtain ⟨i, hi⟩ := List.mem_iff_getElem?.1 h
  by_cases hc : i < lowB (ksOf xs) x.k
  · exact ⟨i, by unfold insK insAt; rw [ins_get (low_le xs x.k), if_pos hc, hi]⟩
  · exact ⟨i + 1, by unfold insK insAt; rw [ins_get (low_le xs x.k), if_neg (by omega), if_neg (by omega), Nat.add_sub_cancel, hi]⟩
def keyT (n : Int) : Txt := [107] ++ skuAt (umod n 8) ++ skuAt (umod (n.tdiv 8) 8)
theorem keyT_len (n : Int) : (keyT n).length = 3 := rfl
theorem keyT_name (n : Int) : nameOK (keyT n) = true := by
  have key : ∀ m : Fin 8, ∀ k : Fin 8, nameOK ([107] ++ skuAt m.1 ++ skuAt k.1) = true := by decide
  exact key ⟨_, umod_lt (by omega)⟩ ⟨_, umod_lt (by omega)⟩
theorem key_spec (hf : prog "haberdash/haberdashlaw26.key" = some f_law26_key) (hs : prog "haberdash/haberdashplay.Sku" = some f_play_Sku) (hm : prog "haberdash/haberdashplay.Mod" = some f_play_Mod) {G} {n : Int}
    (hn : -9223372036854775808 ≤ n ∧ n ≤ 9223372036854775807) :
    Ev prog (.call "haberdash/haberdashlaw26.key" [.v (.int .i64 n)] G) (.ret (.v (str (keyT n))) G) := by
  refine call_of_fin hf ?_
  simp only [f_law26_key_B, enter, List.length_cons, List.length_nil, List.replicate, Nat.reduceAdd, Nat.reduceSub, List.cons_append, List.nil_append]
  have q8 : vBin .quo (.int .i64 n) (.int .i64 8) = some (.int .i64 (n.tdiv 8)) := by
    simp only [vBin]
    rw [if_neg (by simp), if_neg (by decide)]
    congr 2
    rw [IntKind.wrap_i64]
    have hb : n.tdiv 8 ≤ 9223372036854775807 ∧ -9223372036854775808 ≤ n.tdiv 8 := by
      by_cases h0 : 0 ≤ n
      · rw [Int.tdiv_eq_ediv_of_nonneg h0]; omega
      · have e : n.tdiv 8 = -((-n).tdiv 8) := by rw [Int.neg_tdiv, Int.neg_neg]
        rw [e, Int.tdiv_eq_ediv_of_nonneg (by omega)]; omega
    omega
  have e107 : (Value.string ⟨#[107]⟩) = str [107] := rfl
  have a1 : ∀ s t : Txt, s.length ≤ 100 → t.length ≤ 100 → vBin .add (str s) (str t) = some (str (s ++ t)) := fun s t h1 h2 => vBin_add_str (by omega)
  have cs : ∀ b : Txt, constAV (str b) = .v (str b) := fun b => rfl
  have l1 : ∀ m, (skuAt m).length ≤ 100 := fun m => by show 1 ≤ 100; omega
  have l2 : ∀ m, ([107] ++ skuAt m).length ≤ 100 := fun m => by show 2 ≤ 100; omega
  simp (disch := first | (simp only [DS, reduceCtorEq]; done) | omega) only [WS, St.guard, St.put, evalO, reduceCtorEq, reduceIte, Nat.reduceAdd, Nat.reduceEqDiff]
  refine (WP_p (x := str (skuAt (umod n 8))) (by exact Sku_spec hs hm) (by exact trivial)).2 ?_
  simp (disch := first | (simp only [DS, reduceCtorEq]; done) | omega) only [WS, St.guard, St.put, evalO, reduceCtorEq, reduceIte, Nat.reduceAdd, Nat.reduceEqDiff, q8, e107, cs, a1 [107] _ (by decide) (l1 _)]
  refine (WP_p (x := str (skuAt (umod (n.tdiv 8) 8))) (by exact Sku_spec hs hm) (by exact trivial)).2 ?_
  simp (disch := first | (simp only [DS, reduceCtorEq]; done) | omega) only [WS, St.guard, St.put, evalO, reduceCtorEq, reduceIte, Nat.reduceAdd, Nat.reduceEqDiff, a1 _ _ (l2 _) (l1 _), fin_tmp, leave_v]
  simp [keyT]
end Go.AM
