import Derived.Test.YtikbagggffehkaaKeysC
set_option linter.unusedVariables false
set_option linter.unusedSimpArgs false
namespace Go.AM
variable {prog : String → Option IFn}
structure Law26A (prog : String → Option IFn) : Prop extends Law26 prog where
  few : prog "haberdash/haberdashlaw26.few" = some f_law26_few
  same : prog "haberdash/haberdashhelp.Same[haberdash/api.Seen]" = some f_help_Same_api_Seen_
  seen : prog "haberdash/haberdashhelp.Seen" = some f_help_Seen
  mod : prog "haberdash/haberdashplay.Mod" = some f_play_Mod
theorem kput_same {xs : List SeenD} {x : SeenD} : same2 seenEq (kputP xs x) (kputR xs x) = true := by
  unfold kputP kputR
  split
  · exact same2_clone _
  · rfl
theorem kputP_len {xs : List SeenD} {x : SeenD} : (kputP xs x).length ≤ xs.length + 1 := by
  unfold kputP; split
  · rw [List.length_map, insK_len]; exact Nat.le_refl _
  · simp
theorem kputR_len {xs : List SeenD} {x : SeenD} : (kputR xs x).length ≤ xs.length + 1 := by
  unfold kputR; split
  · rw [insK_len]; exact Nat.le_refl _
  · simp
theorem fewK_iff {xs : List SeenD} (h : fewK xs = true) : xs.length ≤ 60 ∧ ∀ x ∈ xs, x.q.b.length ≤ 300 ∧ x.t.b.length ≤ 300 := by
  unfold fewK at h
  simp only [Bool.and_eq_true, List.all_eq_true, decide_eq_true_eq] at h
  exact ⟨h.2, h.1⟩
theorem agg_ren {x : SeenD} {ρ} : (AV.agg x.cells).ren ρ = .agg x.cells := ren_id fun ℓ hℓ => by rw [lf_of_labs_nil (show (AV.agg x.cells).lf = true from x.lf)] at hℓ; cases hℓ
theorem str_ren {k : Txt} {ρ} : (AV.v (str k)).ren ρ = .v (str k) := rfl
theorem KeysRaw_law (H : Law26A prog) (hp : prog "haberdash/haberdashlaw26.KeysRaw" = some f_law26_KeysRaw) {as} (h : IsAll [.slice seenTy, seenTy, .slice (.int .u8), .int .i64] as) :
    ∃ G2, Ev prog (.call "haberdash/haberdashlaw26.KeysRaw" as []) (.ret (.v (.bool true)) G2) := by
  rcases as with _ | ⟨a0, _ | ⟨a1, _ | ⟨a2, _ | ⟨a3, _ | _⟩⟩⟩⟩ <;> try (simp [IsAll] at h; done)
  obtain ⟨⟨c0, h0, rfl⟩, ⟨c1, h1, rfl⟩, ⟨c2, h2, rfl⟩, ⟨c3, h3, rfl⟩, _⟩ := h
  obtain ⟨a, xs, nb, rfl, va, hna, hnb, hxl, hren, hks⟩ := is_seens h0
  obtain ⟨x, rfl, hxk, hxq, hxt⟩ := is_seen h1
  obtain ⟨q, rfl, hql⟩ := is_byt h2
  obtain ⟨n, rfl, hn⟩ := is_i64 h3
  have hroom : room = 140737488355328 := rfl
  have hmx : maxLen = 9223372036854775807 := rfl
  refine ⟨[], call_of_fin hp ?_⟩
  have aw : ∀ G, G.length = 6 → Ev prog (.call "haberdash/haberdashlaw26.awake" [] G) (.ret (.v (.bool true)) G) := fun G h => awake26 H.toLaw26 (.inr (.inl h))
  have hi : ∀ n : Int, (n == n) = true := fun n => by simp
  have hb : ∀ b : Bool, (b == b) = true := fun b => by cases b <;> rfl
  have bx : ∀ L (j : Nat), L[j]? = some none → prim ⟨[], L⟩ (.box j) [.agg x.cells] = some (.ptr (.l j) 3 0, ⟨[], L.set j (some (sBlk x.cells true))⟩) := fun L j hL => box_T (T := seenE) hL
  have ld0 : ∀ R, prim ⟨[], some (sBlk x.cells true) :: R⟩ (.load 1 false) [.ptr (.l 0) 3 0] = some (.v (str x.k), ⟨[], some (sBlk x.cells true) :: R⟩) := fun R => rfl
  have ld3 : ∀ R, prim ⟨[], some (sBlk x.cells true) :: R⟩ (.load 3 true) [.ptr (.l 0) 3 0] = some (.agg x.cells, ⟨[], some (sBlk x.cells true) :: R⟩) := fun R => rfl
  have bs : prim ⟨[], [some (sBlk x.cells true), none, none, none, none, none]⟩ (.buildSlice 1 false 3 1 [.string ⟨#[]⟩, .slice none 0 0, .slice none 0 0] [(0, 3)]) [.agg x.cells] =
      some (.own (.l 1) 3 0 1 3 (some 1), ⟨[], [some (sBlk x.cells true), some (dBlk x.cells false false), none, none, none, none]⟩) := by
    have : newBlk x.cells = dBlk x.cells false false := newBlk_data x.lf
    show some ((_ : AV), (⟨[], [some (sBlk x.cells true), some (newBlk x.cells), none, none, none, none]⟩ : Hp)) = _
    rw [this]
  have gx : Good ⟨[], [some (sBlk x.cells true), none, none, none, none, none]⟩ := ⟨rfl, trivial⟩
  have gx1 : Good ⟨[], [some (sBlk x.cells true), some (dBlk x.cells false false), none, none, none, none]⟩ := ⟨rfl, dBlk_good, trivial⟩
  have lenA : ∀ {h : Hp}, prim h .lenSlice [a] = some (.v (.int .i64 (xs.length : Nat)), h) := fun {h} => (va h).lenSlice
  have lenQ : ∀ {h : Hp}, prim h .lenSlice [q.a] = some (.v (.int .i64 (q.b.length : Nat)), h) := fun {h} => (q.view h).lenSlice
  simp only [f_law26_KeysRaw_B, enter, List.length_cons, List.length_nil, List.replicate, Nat.reduceAdd, Nat.reduceSub, List.cons_append, List.nil_append, Ty.arg, intAV]
  simp (disch := first | (simp only [DS, reduceCtorEq]; done) | omega) only [WS, St.guard, St.put, evalO, reduceCtorEq, reduceIte, Nat.reduceAdd, Nat.reduceEqDiff, bx, new_s, virtBlk_eq, box_s, box_vs, box_vi, box_vb, px_load_l, px_load_o, loadB_s, storeX, storeB_s, alloc_s, lay, whole, Option.join_some, List.drop_zero, List.drop_succ_cons, List.take_succ_cons, List.take_zero, List.drop_nil, List.nil_append, List.cons_append, Nat.reduceLeDiff, Nat.zero_add, and_self, and_true, cells_int, cells_bool, cells_str, cells_string, cells_agg, cells_own, cells_ro, cells_ptr, cells_nil, AV.lf.lfs, AV.lf, px_build, fills, build_string, build_str, build_int, WDR_some, Nat.reduceLeDiff, Nat.le_refl, Bool.and_self]
  have mapA : ∀ ρ, [a].map (AV.ren ρ) = [a] := fun ρ => by rw [List.map_cons, List.map_nil, hren]
  refine (WP_p (x := .bool (fewK xs)) (by rw [mapA]; exact few26_spec H.few (fun L => va _) hxl) (by exact gx)).2 ?_
  cases hf1 : fewK xs
  · simp (disch := first | (simp only [DS, reduceCtorEq]; done) | omega) only [WS, St.guard, St.put, evalO, reduceCtorEq, reduceIte, Nat.reduceAdd, Nat.reduceEqDiff]
    refine (WP_p (x := .bool true) (by exact aw _ rfl) (by exact gx)).2 ?_
    simp (disch := first | (simp only [DS, reduceCtorEq]; done) | omega) only [WS, St.guard, St.put, evalO, reduceCtorEq, reduceIte, Nat.reduceAdd, Nat.reduceEqDiff, fin_tmp, leave_v]
    simp
  simp (disch := first | (simp only [DS, reduceCtorEq]; done) | omega) only [WS, St.guard, St.put, evalO, reduceCtorEq, reduceIte, Nat.reduceAdd, Nat.reduceEqDiff, ld3, bs]
  have v1 : ∀ A B C D E, TView seenE ⟨[], [A, some (dBlk x.cells false false), B, C, D, E]⟩ (.own (.l 1) 3 0 1 3 (some 1)) [x] := fun A B C D E =>
    own_T (T := seenE) (xs := [x]) (j := 1) (o := false) (v := false) (by show some (some (dBlk x.cells false false)) = some (some (dBlk (x.cells ++ []) false false)); rw [List.append_nil]) (fun c h => by cases h; exact Nat.le_refl _)
  refine (WP_p (x := .bool (fewK [x])) (by exact few26_spec H.few ((v1 _ _ _ _ _).into) (by show 1 ≤ maxLen; rw [hmx]; omega)) (by exact gx1)).2 ?_
  cases hf2 : fewK [x]
  · simp (disch := first | (simp only [DS, reduceCtorEq]; done) | omega) only [WS, St.guard, St.put, evalO, reduceCtorEq, reduceIte, Nat.reduceAdd, Nat.reduceEqDiff]
    refine (WP_p (x := .bool true) (by exact aw _ rfl) (by exact gx1)).2 ?_
    simp (disch := first | (simp only [DS, reduceCtorEq]; done) | omega) only [WS, St.guard, St.put, evalO, reduceCtorEq, reduceIte, Nat.reduceAdd, Nat.reduceEqDiff, fin_tmp, leave_v]
    simp
  by_cases hf3 : (q.b.length : Int) > 300
  · simp (disch := first | (simp only [DS, reduceCtorEq]; done) | omega) only [WS, St.guard, St.put, evalO, reduceCtorEq, reduceIte, Nat.reduceAdd, Nat.reduceEqDiff, lenQ, hf3, decide_true]
    refine (WP_p (x := .bool true) (by exact aw _ rfl) (by exact gx1)).2 ?_
    simp (disch := first | (simp only [DS, reduceCtorEq]; done) | omega) only [WS, St.guard, St.put, evalO, reduceCtorEq, reduceIte, Nat.reduceAdd, Nat.reduceEqDiff, fin_tmp, leave_v]
    simp
  obtain ⟨hl60, hsm⟩ := fewK_iff hf1
  obtain ⟨_, hsx⟩ := fewK_iff hf2
  have hx3 := hsx x (by simp)
  have hkq : smallKQ (x :: xs) := fun y hy => by
    rcases List.mem_cons.1 hy with rfl | hy
    · have := hx3.1; omega
    · have := (hsm y hy).1; omega
  have hkt : smallKT (x :: xs) := fun y hy => by
    rcases List.mem_cons.1 hy with rfl | hy
    · have := hx3.2; omega
    · have := (hsm y hy).2; omega
  have hkt' : smallKT xs := fun y hy => hkt y (by simp [hy])
  have hkk : smallK (x :: xs) := fun y hy => by
    rcases List.mem_cons.1 hy with rfl | hy
    · exact hxk
    · exact hks y hy
  have hkk' : smallK xs := fun y hy => hkk y (by simp [hy])
  have r2 : vBin .rem (.int .i64 n) (.int .i64 2) = some (.int .i64 (n.tmod 2)) := rfl
  simp (disch := first | (simp only [DS, reduceCtorEq]; done) | omega) only [WS, St.guard, St.put, evalO, reduceCtorEq, reduceIte, Nat.reduceAdd, Nat.reduceEqDiff, lenQ, hf3, decide_false, new_s, virtBlk_eq, box_s, box_vs, box_vi, box_vb, px_load_l, px_load_o, loadB_s, storeX, storeB_s, alloc_s, lay, whole, Option.join_some, List.drop_zero, List.drop_succ_cons, List.take_succ_cons, List.take_zero, List.drop_nil, List.nil_append, List.cons_append, Nat.reduceLeDiff, Nat.zero_add, and_self, and_true, cells_int, cells_bool, cells_str, cells_string, cells_agg, cells_own, cells_ro, cells_ptr, cells_nil, AV.lf.lfs, AV.lf, px_build, fills, build_string, build_str, build_int, WDR_some, Nat.reduceLeDiff, Nat.le_refl, Bool.and_self, ld0, lenA]
  have hcase : ((xs.length : Int) > 0 ∧ ((n.tmod 2 == 0) = true)) ∨ ((xs.length : Int) > 0 ∧ ((n.tmod 2 == 0) = false)) ∨ ¬ (xs.length : Int) > 0 := by
    by_cases h1 : (xs.length : Int) > 0
    · cases h2 : (n.tmod 2 == 0)
      · exact .inr (.inl ⟨h1, rfl⟩)
      · exact .inl ⟨h1, rfl⟩
    · exact .inr (.inr h1)
  rcases hcase with hc | hc | hc
  case' inl =>
    obtain ⟨hc1, hc2⟩ := hc
    simp (disch := first | (simp only [DS, reduceCtorEq]; done) | omega) only [WS, St.guard, St.put, evalO, reduceCtorEq, reduceIte, Nat.reduceAdd, Nat.reduceEqDiff, hc1, decide_true, r2, hc2, lenA, vBin_eql]
    refine (WP_p (x := .int .i64 (umod n xs.length : Nat)) (by exact Mod_spec H.mod xs.length rfl (by omega) (by omega)) (by exact gx1)).2 ?_
    have hm : umod n xs.length < xs.length := umod_lt (by omega)
    have qq := fun h => sn_at (va h) (List.getElem?_eq_getElem hm)
    generalize xs[umod n xs.length] = y at *
    simp (disch := first | (simp only [DS, reduceCtorEq]; done) | omega) only [WS, St.guard, St.put, evalO, reduceCtorEq, reduceIte, Nat.reduceAdd, Nat.reduceEqDiff, (qq _).ix, (qq _).f0, (qq _).l0]
    generalize y.k = kk
  case' inr.inl =>
    obtain ⟨hc1, hc2⟩ := hc
    simp (disch := first | (simp only [DS, reduceCtorEq]; done) | omega) only [WS, St.guard, St.put, evalO, reduceCtorEq, reduceIte, Nat.reduceAdd, Nat.reduceEqDiff, hc1, decide_true, r2, hc2, vBin_eql]
    generalize hkk0 : x.k = kk
  case' inr.inr =>
    simp (disch := first | (simp only [DS, reduceCtorEq]; done) | omega) only [WS, St.guard, St.put, evalO, reduceCtorEq, reduceIte, Nat.reduceAdd, Nat.reduceEqDiff, hc, decide_false]
    generalize hkk0 : x.k = kk
  all_goals
    simp (disch := first | (simp only [DS, reduceCtorEq]; done) | omega) only [WS, St.guard, St.put, evalO, reduceCtorEq, reduceIte, Nat.reduceAdd, Nat.reduceEqDiff, ld3]
    obtain ⟨u1, B1, ev1, K1⟩ := op_put (prog := prog) (f := "haberdash/keys.Put") (args := [a, .agg x.cells]) (site := 2) (G := []) (L := [some (sBlk x.cells true), some (dBlk x.cells false false), none, none, none, none]) (us := kputP xs x) (e := kputE xs x)
      (by rw [List.map_cons, List.map_cons, List.map_nil, hren, agg_ren]; exact keysPut_spec H.toKeysLib2 (fun L => va _) (fun L => hna _) hnb (by omega) hkq hkt) rfl gx1
    refine WP_of (by exact ev1) ?_
    simp (disch := first | (simp only [DS, reduceCtorEq]; done) | omega) only [WS, St.guard, St.put, evalO, reduceCtorEq, reduceIte, Nat.reduceAdd, Nat.reduceEqDiff, ld3]
    have gx2 : Good ⟨[], [some (sBlk x.cells true), some (dBlk x.cells false false), B1, none, none, none]⟩ := ⟨rfl, dBlk_good, K1.good trivial⟩
    obtain ⟨u2, B2, ev2, K2⟩ := op_put (prog := prog) (f := "haberdash/haberdashref25.Put") (args := [a, .agg x.cells]) (site := 3) (G := []) (L := [some (sBlk x.cells true), some (dBlk x.cells false false), B1, none, none, none]) (us := kputR xs x) (e := kputE xs x)
      (by rw [List.map_cons, List.map_cons, List.map_nil, hren, agg_ren]; exact refPut_spec H.toKeysLib2 (fun L => va _) hxl hkk) rfl gx2
    refine WP_of (by exact ev2) ?_
    simp (disch := first | (simp only [DS, reduceCtorEq]; done) | omega) only [WS, St.guard, St.put, evalO, reduceCtorEq, reduceIte, Nat.reduceAdd, Nat.reduceEqDiff]
    have gx3 : Good ⟨[], [some (sBlk x.cells true), some (dBlk x.cells false false), B1, B2, none, none]⟩ := ⟨rfl, dBlk_good, K1.good (K2.good trivial)⟩
    obtain ⟨w, hw⟩ : ∃ w, w = askK xs kk q.b := ⟨_, rfl⟩
    refine WP_slice (esz := 1) (len := w.1.length) (cells := w.1.map byteAV) (fun r => .tup [r, .v (.int .i64 w.2)]) (fun _ _ => rfl) (by
      rw [List.map_cons, List.map_cons, List.map_cons, List.map_nil, hren, q.ren, str_ren, hw]
      exact keysAsk_spec H.toKeysLib (fun L => va _) (fun L => q.view _) (by omega) hkt') (by exact gx3) rfl fun b B4 hat4 => ?_
    simp (disch := first | (simp only [DS, reduceCtorEq]; done) | omega) only [WS, St.guard, St.put, evalO, reduceCtorEq, reduceIte, Nat.reduceAdd, Nat.reduceEqDiff]
    have gx4 : Good ⟨[], [some (sBlk x.cells true), some (dBlk x.cells false false), B1, B2, B4, none]⟩ := ⟨rfl, dBlk_good, K1.good (K2.good (goodL_opt (fun B hB => hat4.good hB) trivial))⟩
    refine WP_slice (esz := 1) (len := w.1.length) (cells := w.1.map byteAV) (fun r => .tup [r, .v (.int .i64 w.2)]) (fun _ _ => rfl) (by
      rw [List.map_cons, List.map_cons, List.map_cons, List.map_nil, hren, q.ren, str_ren, hw]
      exact refAsk_spec H.toKeysLib (fun L => va _) (fun L => q.view _) hxl hkt') (by exact gx4) rfl fun b5 B5 hat5 => ?_
    simp (disch := first | (simp only [DS, reduceCtorEq]; done) | omega) only [WS, St.guard, St.put, evalO, reduceCtorEq, reduceIte, Nat.reduceAdd, Nat.reduceEqDiff]
    have gx5 : Good ⟨[], [some (sBlk x.cells true), some (dBlk x.cells false false), B1, B2, B4, B5]⟩ := ⟨rfl, dBlk_good, K1.good (K2.good (goodL_opt (fun B hB => hat4.good hB) (goodL_opt (fun B hB => hat5.good hB) trivial)))⟩
    refine (WP_p (x := .bool true) (by exact aw _ rfl) (by exact gx5)).2 ?_
    simp (disch := first | (simp only [DS, reduceCtorEq]; done) | omega) only [WS, St.guard, St.put, evalO, reduceCtorEq, reduceIte, Nat.reduceAdd, Nat.reduceEqDiff]
    refine (WP_p (x := .bool (rightK xs)) (by rw [mapA]; exact keysRight_spec H.toKeysLib (fun L => va _) hxl) (by exact gx5)).2 ?_
    simp (disch := first | (simp only [DS, reduceCtorEq]; done) | omega) only [WS, St.guard, St.put, evalO, reduceCtorEq, reduceIte, Nat.reduceAdd, Nat.reduceEqDiff]
    refine (WP_p (x := .bool (rightK xs)) (by rw [mapA]; exact refKeys_spec H.toKeysLib (fun L => va _) hxl hkk') (by exact gx5)).2 ?_
    simp (disch := first | (simp only [DS, reduceCtorEq]; done) | omega) only [WS, St.guard, St.put, evalO, reduceCtorEq, reduceIte, Nat.reduceAdd, Nat.reduceEqDiff, hb]
    have l1 := kputP_len (xs := xs) (x := x)
    have l2 := kputR_len (xs := xs) (x := x)
    refine (WP_p (x := .bool true) (by
      rw [← kput_same (xs := xs) (x := x)]
      exact sameSeen_spec H.same H.seen H.bytes ((K1.into rfl).1) ((K2.into rfl).1) (by omega) (by omega)) (by exact gx5)).2 ?_
    simp (disch := first | (simp only [DS, reduceCtorEq]; done) | omega) only [WS, St.guard, St.put, evalO, reduceCtorEq, reduceIte, Nat.reduceAdd, Nat.reduceEqDiff, vBin_eql, hi]
    refine (WP_p (x := .bool true) (by
      have : decide (w.1 = w.1) = true := decide_eq_true rfl
      rw [← this]
      exact Bytes_spec H.bytes ((hat4.view rfl).into bytes_lfs) ((hat5.view rfl).into bytes_lfs)) (by exact gx5)).2 ?_
    simp (disch := first | (simp only [DS, reduceCtorEq]; done) | omega) only [WS, St.guard, St.put, evalO, reduceCtorEq, reduceIte, Nat.reduceAdd, Nat.reduceEqDiff, vBin_eql, hi, fin_tmp, leave_v]
    simp
end Go.AM
