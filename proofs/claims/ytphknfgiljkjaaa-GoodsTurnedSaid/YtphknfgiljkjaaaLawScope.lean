import Derived.Test.YtphknfgiljkjaaaScopeB
set_option linter.unusedVariables false
set_option linter.unusedSimpArgs false
/- The laws of scopes: any scope, any items. -/
namespace Go.AM
variable {prog : String → Option IFn}

theorem own_viewC {G L} {j len esz n : Nat} {cells : List AV} {o v : Bool} {cap} (hL : L[j]? = some (some (dBlk cells o v))) (hn : cells.length = n) (hl : n = len * esz) (he : 0 < esz) (hc : ∀ c, cap = some c → len ≤ c) :
    View ⟨G, L⟩ (.own (.l j) n 0 len esz cap) esz len cells := by
  refine ⟨rfl, ?_, hn.trans hl, rfl, ?_, he⟩
  · simp only [Hp.sees, Hp.get, hL, Option.join_some, dBlk_cells, hn, if_true, List.drop_zero]
    rw [List.take_of_length_le (by omega)]
  · cases cap with
    | none => exact trivial
    | some c => exact hc c rfl

/-- A copy, with room behind it. -/
theorem copy_view {G L} {j : Nat} {xs ys : List Txt} {o v : Bool} {n : Nat} (hL : L[j]? = some (some (dBlk (sEnc.row (xs ++ ys)) o v))) (hn : n = xs.length + ys.length) :
    TView sEnc ⟨G, L⟩ (.own (.l j) n 0 xs.length 1 (some n)) xs := by
  have hl : (sEnc.row (xs ++ ys)).length = n := by rw [sEnc.row_len, show sEnc.esz = 1 from rfl, List.length_append, hn, Nat.mul_one]
  have hx : (sEnc.row xs).length = xs.length := by rw [sEnc.row_len, show sEnc.esz = 1 from rfl, Nat.mul_one]
  refine ⟨rfl, ?_, sEnc.row_len xs, rfl, ?_, by decide⟩
  · simp only [Hp.sees, Hp.get, hL, Option.join_some, dBlk_cells, hl, if_true, List.drop_zero, Nat.mul_one]
    rw [sEnc.row_append, List.take_append_of_le_length (by omega), List.take_of_length_le (by omega)]
  · show xs.length ≤ n
    omega

theorem sc_lf (s : ScopeV) : AV.lf.lfs [s.a, s.b] = true := scEnc.lf s
theorem build_scope {G L} {site : Nat} {s : ScopeV} (hL : L[site]? = some none) :
    prim ⟨G, L⟩ (.buildSlice site true 2 1 [.slice none 0 0, .slice none 0 0] [(0, 2)]) [.agg [s.a, s.b]] = some (.own (.l site) 2 0 1 2 (some 1), ⟨G, L.set site (some (dBlk [s.a, s.b] false false))⟩) := by
  rw [px_buildSlice]
  simp only [Hp.mayFreeze, if_true, Hp.freezes, Hp.freeze, Option.bind_some, Option.map_some]
  have e : fills [(0, 2)] ((List.replicate 1 ([Value.slice none 0 0, Value.slice none 0 0].map AV.v)).flatten) [.agg [s.a, s.b]] = some [s.a, s.b] := rfl
  rw [e]
  simp only [Option.bind_some]
  refine (if_pos rfl).trans ?_
  rw [newBlk_data (sc_lf s)]
  simp only [Hp.new, hL, Option.map_some]

theorem ScopeAll_law (H : Scope11 prog) (hp : prog "haberdash/haberdashlaw11.ScopeAll" = some f_law11_ScopeAll) {as} (h : IsAll [scopeTy, (.slice itemTy)] as) :
    ∃ G2, Ev prog (.call "haberdash/haberdashlaw11.ScopeAll" as []) (.ret (.v (.bool true)) G2) := by
  rcases as with _ | ⟨a0, _ | ⟨a1, _ | _⟩⟩ <;> try (simp [IsAll] at h; done)
  obtain ⟨⟨c0', h0, rfl⟩, ⟨c1', h1, rfl⟩, _⟩ := h
  obtain ⟨s, rfl⟩ := is_scope h0
  obtain ⟨t, xs, rfl, vt, hlx⟩ := is_items h1
  refine ⟨[], call_of_fin hp ?_⟩
  have hla : ∀ k, Outer k s.a := fun k => by unfold Outer; rw [sliceAt_val (site := 0) s.va]; rfl
  have hlb : ∀ k, Outer k s.b := fun k => by unfold Outer; rw [sliceAt_val (site := 0) s.vb]; rfl
  simp only [f_law11_ScopeAll_B, enter, List.length_cons, List.length_nil, List.replicate, Nat.reduceAdd, Nat.reduceSub, List.cons_append, List.nil_append, Ty.arg]
  simp (disch := first | (simp only [ne_eq, reduceCtorEq, not_false_eq_true, implies_true]; done) | omega) only [WS, St.guard, St.put, evalO, reduceCtorEq, reduceIte, Nat.reduceAdd, Nat.reduceEqDiff]
  rw [box_s rfl]
  generalize AV.lf.lfs [s.a, s.b] = d
  simp (disch := first | (simp only [ne_eq, reduceCtorEq, not_false_eq_true, implies_true]; done) | omega) only [WS, St.guard, St.put, evalO, reduceCtorEq, reduceIte, Nat.reduceAdd, Nat.reduceEqDiff]
  rw [pair_load rfl]
  simp (disch := first | (simp only [ne_eq, reduceCtorEq, not_false_eq_true, implies_true]; done) | omega) only [WS, St.guard, St.put, evalO, reduceCtorEq, reduceIte, Nat.reduceAdd, Nat.reduceEqDiff]
  rw [build_scope rfl]
  simp (disch := first | (simp only [ne_eq, reduceCtorEq, not_false_eq_true, implies_true]; done) | omega) only [WS, St.guard, St.put, evalO, reduceCtorEq, reduceIte, Nat.reduceAdd, Nat.reduceEqDiff]
  have gd1 : Good ⟨[], [some (sBlk [s.a, s.b] d), some (dBlk [s.a, s.b] false false), none, none, none]⟩ := ⟨sBlk_good (pair_labs (hla _) (hlb _)), dBlk_good, trivial⟩
  have vf : TView scEnc ⟨[], [some (sBlk [s.a, s.b] d), some (dBlk [s.a, s.b] false false), none, none, none]⟩ (.own (.l 1) 2 0 1 2 (some 1)) [s] := own_viewC (j := 1) rfl rfl rfl (by omega) (by simp)
  rw [WP_p (x := .bool (fewOK [s])) (by exact few_spec H.few (vf.into) (show 1 ≤ maxLen by decide)) gd1]
  have aw : ∀ G, Ev prog (.call "haberdash/haberdashlaw11.awake" [] G) (.ret (.v (.bool true)) G) := fun G => awake11_spec H
  cases hfew : fewOK [s]
  · simp (disch := first | (simp only [ne_eq, reduceCtorEq, not_false_eq_true, implies_true]; done) | omega) only [WS, St.guard, St.put, evalO, reduceCtorEq, reduceIte, Nat.reduceAdd, Nat.reduceEqDiff]
    rw [WP_p (x := .bool true) (by exact aw _) gd1]
    simp (disch := first | (simp only [ne_eq, reduceCtorEq, not_false_eq_true, implies_true]; done) | omega) only [WS, St.guard, St.put, evalO, reduceCtorEq, reduceIte, Nat.reduceAdd, Nat.reduceEqDiff, fin_tmp, leave_v]
    simp
  simp (disch := first | (simp only [ne_eq, reduceCtorEq, not_false_eq_true, implies_true]; done) | omega) only [WS, St.guard, St.put, evalO, reduceCtorEq, reduceIte, Nat.reduceAdd, Nat.reduceEqDiff, (vt _).lenSlice]
  by_cases h40 : (xs.length : Int) > 40
  · simp (disch := first | (simp only [ne_eq, reduceCtorEq, not_false_eq_true, implies_true]; done) | omega) only [WS, St.guard, St.put, evalO, reduceCtorEq, reduceIte, Nat.reduceAdd, Nat.reduceEqDiff, h40, decide_true]
    rw [WP_p (x := .bool true) (by exact aw _) gd1]
    simp (disch := first | (simp only [ne_eq, reduceCtorEq, not_false_eq_true, implies_true]; done) | omega) only [WS, St.guard, St.put, evalO, reduceCtorEq, reduceIte, Nat.reduceAdd, Nat.reduceEqDiff, fin_tmp, leave_v]
    simp
  simp (disch := first | (simp only [ne_eq, reduceCtorEq, not_false_eq_true, implies_true]; done) | omega) only [WS, St.guard, St.put, evalO, reduceCtorEq, reduceIte, Nat.reduceAdd, Nat.reduceEqDiff, h40, decide_false]
  obtain ⟨hn40, hc40⟩ : s.n.length ≤ 40 ∧ s.c.length ≤ 40 := by simpa [fewOK] using hfew
  have hr1 : (s.n.length + 3) * 16 ≤ room := by unfold room; omega
  have hr2 : (s.c.length + 3) * 16 ≤ room := by unfold room; omega
  rw [WDP_loadU (by simp) gd1, ld20 rfl]
  simp (disch := first | (simp only [ne_eq, reduceCtorEq, not_false_eq_true, implies_true]; done) | omega) only [WS, St.guard, St.put, evalO, reduceCtorEq, reduceIte, Nat.reduceAdd, Nat.reduceEqDiff]
  have hsp : AV.v (.string ⟨#[115, 112, 111, 105, 108, 116]⟩) = .v (str [115, 112, 111, 105, 108, 116]) := rfl
  obtain ⟨sp, hsp2⟩ : ∃ sp : Txt, sp = [115, 112, 111, 105, 108, 116] := ⟨_, rfl⟩
  rw [hsp, ← hsp2]
  refine WDP_oneU (fun X hX => by exact ownS H sp ((s.va _).into) hr1) (by simp) gd1 rfl ?_
  simp (disch := first | (simp only [ne_eq, reduceCtorEq, not_false_eq_true, implies_true]; done) | omega) only [WS, St.guard, St.put, evalO, reduceCtorEq, reduceIte, Nat.reduceAdd, Nat.reduceEqDiff]
  obtain ⟨o2, ho2⟩ : ∃ o, o = AV.own (.l 2) (s.n.length + 3) 0 s.n.length 1 (some (s.n.length + 3)) := ⟨_, rfl⟩
  rw [← ho2]
  have gd2 : ∀ B3, (∀ B, B3 = some B → B.labs = []) → Good ⟨[], [some (sBlk [s.a, s.b] d), some (dBlk [s.a, s.b] false false), some (dBlk (sEnc.row (s.n ++ [sp, sp, sp])) false false), B3, none]⟩ := fun B3 h3 =>
    ⟨sBlk_good (pair_labs (hla _) (hlb _)), dBlk_good, dBlk_good, goodL_opt (fun B h => by rw [h3 B h]; rfl) trivial⟩
  rw [WDP_loadU (by simp) (gd2 none (by simp)), ld21 rfl]
  simp (disch := first | (simp only [ne_eq, reduceCtorEq, not_false_eq_true, implies_true]; done) | omega) only [WS, St.guard, St.put, evalO, reduceCtorEq, reduceIte, Nat.reduceAdd, Nat.reduceEqDiff]
  refine WDP_oneU (fun X hX => by exact ownS H sp ((s.vb _).into) hr2) (by simp) (gd2 none (by simp)) rfl ?_
  simp (disch := first | (simp only [ne_eq, reduceCtorEq, not_false_eq_true, implies_true]; done) | omega) only [WS, St.guard, St.put, evalO, reduceCtorEq, reduceIte, Nat.reduceAdd, Nat.reduceEqDiff]
  obtain ⟨o3, ho3⟩ : ∃ o, o = AV.own (.l 3) (s.c.length + 3) 0 s.c.length 1 (some (s.c.length + 3)) := ⟨_, rfl⟩
  rw [← ho3]
  have dl : ∀ (cs : List AV) (B : Blk), some (dBlk cs false false) = some B → B.labs = [] := by intro cs B h; cases h; rfl
  refine (WDR_eq (.agg [o2, o3]) (by rw [ho2, ho3]; rfl)).2 ?_
  simp (disch := first | (simp only [ne_eq, reduceCtorEq, not_false_eq_true, implies_true]; done) | omega) only [WS, St.guard, St.put, evalO, reduceCtorEq, reduceIte, Nat.reduceAdd, Nat.reduceEqDiff]
  have gd3 : ∀ B4, (∀ B, B4 = some B → B.labs.all (refLt 0 4) = true) → Good ⟨[], [some (sBlk [s.a, s.b] d), some (dBlk [s.a, s.b] false false), some (dBlk (sEnc.row (s.n ++ [sp, sp, sp])) false false), some (dBlk (sEnc.row (s.c ++ [sp, sp, sp])) false false), B4]⟩ := fun B4 h4 =>
    ⟨sBlk_good (pair_labs (hla _) (hlb _)), dBlk_good, dBlk_good, dBlk_good, goodL_opt h4 trivial⟩
  refine WDP_beside (fun X _ => alloc_s (L := [some (sBlk [s.a, s.b] d), some (dBlk [s.a, s.b] false false), X 2, X 3, none]) rfl) (gd3 none (by simp))
    (h' := ⟨[], [some (sBlk [s.a, s.b] d), some (dBlk [s.a, s.b] false false), some (dBlk (sEnc.row (s.n ++ [sp, sp, sp])) false false), some (dBlk (sEnc.row (s.c ++ [sp, sp, sp])) false false), some (sBlk [.v (.slice none 0 0), .v (.slice none 0 0)] true)]⟩) (gd3 _ (by intro B h; cases h; rfl)) (by exact rfl) (by simp) ?_
  simp (disch := first | (simp only [ne_eq, reduceCtorEq, not_false_eq_true, implies_true]; done) | omega) only [WS, St.guard, St.put, evalO, reduceCtorEq, reduceIte, Nat.reduceAdd, Nat.reduceEqDiff]
  have ho : ∀ k, 3 < k → (AV.labs.labss [o2, o3]).all (refLt 0 k) = true := fun k hk => by rw [ho2, ho3]; simp [AV.labs.labss, AV.labs, refLt]; omega
  refine WDP_good (pair_store rfl) (gd3 _ (by intro B h; cases h; rfl)) (by exact gd3 _ (by intro B h; cases h; exact sBlk_good (ho _ (by omega)))) rfl (by exact quiet_set (by simp)) ?_
  simp (disch := first | (simp only [ne_eq, reduceCtorEq, not_false_eq_true, implies_true]; done) | omega) only [WS, St.guard, St.put, evalO, reduceCtorEq, reduceIte, Nat.reduceAdd, Nat.reduceEqDiff]
  generalize AV.lf.lfs [o2, o3] = e
  have gd : Good ⟨[], [some (sBlk [s.a, s.b] d), some (dBlk [s.a, s.b] false false), some (dBlk (sEnc.row (s.n ++ [sp, sp, sp])) false false), some (dBlk (sEnc.row (s.c ++ [sp, sp, sp])) false false), some (sBlk [o2, o3] e)]⟩ :=
    gd3 _ (by intro B h; cases h; exact sBlk_good (ho _ (by omega)))
  have v2 : ∀ (b0 b1 : Option Blk) T, TView sEnc ⟨[], b0 :: b1 :: some (dBlk (sEnc.row (s.n ++ [sp, sp, sp])) false false) :: T⟩ o2 s.n := fun b0 b1 T => by rw [ho2]; exact copy_view (j := 2) rfl rfl
  have v3 : ∀ (b0 b1 b2 : Option Blk) T, TView sEnc ⟨[], b0 :: b1 :: b2 :: some (dBlk (sEnc.row (s.c ++ [sp, sp, sp])) false false) :: T⟩ o3 s.c := fun b0 b1 b2 T => by rw [ho3]; exact copy_view (j := 3) rfl rfl
  have lp0 : ∀ L, prim ⟨[], some (sBlk [s.a, s.b] d) :: L⟩ (.load 2 true) [.ptr (.l 0) 2 0] = some (.agg [s.a, s.b], ⟨[], some (sBlk [s.a, s.b] d) :: L⟩) := fun L => pair_load rfl
  have lp4 : ∀ b0 b1 b2 b3 L, prim ⟨[], b0 :: b1 :: b2 :: b3 :: some (sBlk [o2, o3] e) :: L⟩ (.load 2 true) [.ptr (.l 4) 2 0] = some (.agg [o2, o3], ⟨[], b0 :: b1 :: b2 :: b3 :: some (sBlk [o2, o3] e) :: L⟩) := fun _ _ _ _ _ => pair_load rfl
  refine WDP_r (r := .v (.bool true)) (fun X _ => aw _) rfl gd ?_
  simp (disch := first | (simp only [ne_eq, reduceCtorEq, not_false_eq_true, implies_true]; done) | omega) only [WS, St.guard, St.put, evalO, reduceCtorEq, reduceIte, Nat.reduceAdd, Nat.reduceEqDiff, lp4]
  refine WDP_r (r := .v (.bool (scopeOK s.n s.c))) (fun X _ => by exact Right_spec H.toScopeLib ((v2 _ _ _).into) ((v3 _ _ _ _).into) s.ln s.lc) rfl gd ?_
  simp (disch := first | (simp only [ne_eq, reduceCtorEq, not_false_eq_true, implies_true]; done) | omega) only [WS, St.guard, St.put, evalO, reduceCtorEq, reduceIte, Nat.reduceAdd, Nat.reduceEqDiff, lp0]
  refine WDP_r (r := .v (.bool (scopeOK s.n s.c))) (fun X _ => by exact refScope_spec H.toScopeLib ((s.va _).into) ((s.vb _).into) s.ln s.lc s.tn s.tc) rfl gd ?_
  simp (disch := first | (simp only [ne_eq, reduceCtorEq, not_false_eq_true, implies_true]; done) | omega) only [WS, St.guard, St.put, evalO, reduceCtorEq, reduceIte, Nat.reduceAdd, Nat.reduceEqDiff, bne_self_eq_false]
  refine WC_count (fun i => ⟨f_law11_ScopeAll_H0 t (.ptr (.l 0) 2 0) (.ptr (.l 4) 2 0) (.v (.int .i64 (i : Nat))), ⟨[], [some (sBlk [s.a, s.b] d), some (dBlk [s.a, s.b] false false), some (dBlk (sEnc.row (s.n ++ [sp, sp, sp])) false false), some (dBlk (sEnc.row (s.c ++ [sp, sp, sp])) false false), some (sBlk [o2, o3] e)]⟩⟩) xs.length ?_ (fun i hi => ?_) ?_
  · simp only [clear_nil, List.foldl_cons, List.foldl_nil, Option.some.injEq, List.map_cons, List.map_nil, List.getD_cons_zero, List.getD_cons_succ, List.set_cons_zero, List.set_cons_succ, Option.map_some, Option.bind_some, ne_eq, reduceCtorEq, not_false_eq_true, implies_true, beq_self_eq_true, BEq.rfl, if_true, if_false, Bool.false_eq_true, not_true_eq_false, Option.some.injEq, reduceIte, Bool.not_true, Bool.not_false, beq_true, beq_false, Bool.true_and, Bool.and_true, Bool.false_and, Bool.and_false, true_and, List.getElem?_cons_zero, List.getElem?_cons_succ, List.length_cons, List.length_nil, Nat.reduceAdd]; rfl
  · have hlt' : (i : Int) < (xs.length : Int) := by omega
    have hx : xs[i]? = some xs[i] := List.getElem?_eq_getElem hi
    have vi : ∀ h : Hp, prim h (.indexAddr 4) [t, .v (.int .i64 (i : Int))] = some (elemPtr t 4 i, h) := fun h => (vt h).index hi
    have vl : ∀ h : Hp, prim h (.load 4 true) [elemPtr t 4 i] = some (.agg xs[i].cells, h) := fun h => (vt h).load hx
    simp (disch := first | (simp only [ne_eq, reduceCtorEq, not_false_eq_true, implies_true]; done) | omega) only [f_law11_ScopeAll_L0, f_law11_ScopeAll_H0, WS, St.guard, St.put, evalO, reduceCtorEq, reduceIte, Nat.reduceAdd, Nat.reduceEqDiff, (vt _).lenSlice, hlt', decide_true, lp4, vi, vl]
    refine WDP_r (r := .v (.bool (hasI s.n s.c xs[i]))) (fun X _ => by exact Has_spec H.toScopeLib ((v2 _ _ _).into) ((v3 _ _ _ _).into) (by omega) (by omega)) rfl gd ?_
    simp (disch := first | (simp only [ne_eq, reduceCtorEq, not_false_eq_true, implies_true]; done) | omega) only [WS, St.guard, St.put, evalO, reduceCtorEq, reduceIte, Nat.reduceAdd, Nat.reduceEqDiff, lp0, vi, vl]
    refine WDP_r (r := .v (.bool (hasI s.n s.c xs[i]))) (fun X _ => by exact refHas_spec H.toScopeLib ((s.va _).into) ((s.vb _).into) s.ln s.lc) rfl gd ?_
    simp (disch := first | (simp only [ne_eq, reduceCtorEq, not_false_eq_true, implies_true]; done) | omega) only [WS, St.guard, St.put, evalO, reduceCtorEq, reduceIte, Nat.reduceAdd, Nat.reduceEqDiff, bne_self_eq_false, vBin_add_i64, clear_nil, List.foldl_cons, List.foldl_nil, Option.some.injEq]
    rfl
  · simp (disch := first | (simp only [ne_eq, reduceCtorEq, not_false_eq_true, implies_true]; done) | omega) only [f_law11_ScopeAll_L0, f_law11_ScopeAll_H0, WS, St.guard, St.put, evalO, reduceCtorEq, reduceIte, Nat.reduceAdd, Nat.reduceEqDiff, (vt _).lenSlice, decide_false]
    rw [ld20 rfl]
    simp (disch := first | (simp only [ne_eq, reduceCtorEq, not_false_eq_true, implies_true]; done) | omega) only [WS, St.guard, St.put, evalO, reduceCtorEq, reduceIte, Nat.reduceAdd, Nat.reduceEqDiff]
    rw [ld20 rfl]
    simp (disch := first | (simp only [ne_eq, reduceCtorEq, not_false_eq_true, implies_true]; done) | omega) only [WS, St.guard, St.put, evalO, reduceCtorEq, reduceIte, Nat.reduceAdd, Nat.reduceEqDiff]
    rw [WP_p (x := .bool true) (by rw [ho2]; exact keptS H (p := 2) sp rfl ((s.va _).into) (by omega)) gd]
    simp (disch := first | (simp only [ne_eq, reduceCtorEq, not_false_eq_true, implies_true]; done) | omega) only [WS, St.guard, St.put, evalO, reduceCtorEq, reduceIte, Nat.reduceAdd, Nat.reduceEqDiff]
    rw [ld21 rfl]
    simp (disch := first | (simp only [ne_eq, reduceCtorEq, not_false_eq_true, implies_true]; done) | omega) only [WS, St.guard, St.put, evalO, reduceCtorEq, reduceIte, Nat.reduceAdd, Nat.reduceEqDiff]
    rw [ld21 rfl]
    simp (disch := first | (simp only [ne_eq, reduceCtorEq, not_false_eq_true, implies_true]; done) | omega) only [WS, St.guard, St.put, evalO, reduceCtorEq, reduceIte, Nat.reduceAdd, Nat.reduceEqDiff]
    rw [WP_p (x := .bool true) (by rw [ho3]; exact keptS H (p := 3) sp rfl ((s.vb _).into) (by omega)) gd]
    simp (disch := first | (simp only [ne_eq, reduceCtorEq, not_false_eq_true, implies_true]; done) | omega) only [WS, St.guard, St.put, evalO, reduceCtorEq, reduceIte, Nat.reduceAdd, Nat.reduceEqDiff, fin_tmp, leave_v]
    simp
end Go.AM
