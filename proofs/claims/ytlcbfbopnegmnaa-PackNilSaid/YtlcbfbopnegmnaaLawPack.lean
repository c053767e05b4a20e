import Derived.Test.YtlcbfbopnegmnaaPackA
set_option linter.unusedVariables false
set_option linter.unusedSimpArgs false
namespace Go.AM
variable {prog : String → Option IFn}
abbrev stepTy : Ty := .fcons (.int .i64) (.fcons (.int .i64) (.fcons (.int .i64) (.fcons (.int .i64) (.fcons .str (.fcons .bool .fnil)))))
theorem is_steps {cs : List AV} (h : (Ty.slice stepTy).Is cs) : ∃ a, ∃ xs : List StepD, cs = [a] ∧ (∀ h, TView stEnc h a xs) ∧ xs.length ≤ maxLen ∧ ∀ x ∈ xs, I64 x.n ∧ I64 x.least ∧ I64 x.most := by
  rcases h with rfl | ⟨es, rfl, h, hl⟩
  · exact ⟨_, [], rfl, fun h => view_nil' (by decide), by simp, by simp⟩
  · obtain ⟨xs, hb, hs⟩ : ∃ xs : List StepD, es = xs.map stEnc.E ∧ ∀ x ∈ xs, I64 x.n ∧ I64 x.least ∧ I64 x.most := by
      clear hl
      induction es with
      | nil => exact ⟨[], rfl, by simp⟩
      | cons e es ih =>
        obtain ⟨xs, hb, hs⟩ := ih fun x hx => h x (by simp [hx])
        obtain ⟨c1, r1, he, h1, c2, r2, rfl, h2, c3, r3, rfl, h3, c4, r4, rfl, h4, c5, r5, rfl, h5, c6, r6, rfl, h6, h7⟩ := h e (by simp)
        obtain ⟨n1, rfl, i1⟩ := is_i64 h1
        obtain ⟨n2, rfl, i2⟩ := is_i64 h2
        obtain ⟨n3, rfl, i3⟩ := is_i64 h3
        obtain ⟨n4, rfl, i4⟩ := is_i64 h4
        obtain ⟨s, rfl, hs5⟩ := is_str h5
        obtain ⟨b, rfl⟩ := h6
        refine ⟨⟨n1, n2, n3, n4, s, b⟩ :: xs, by rw [hb, he, show r6 = [] from h7]; rfl, fun y hy => ?_⟩
        rcases List.mem_cons.1 hy with rfl | hy
        · exact ⟨i4, i2, i3⟩
        · exact hs y hy
    subst hb
    have e : (xs.map stEnc.E).flatten = stEnc.row xs := by rw [Enc.row, List.flatMap_def]
    refine ⟨_, xs, rfl, fun h => ?_, by simpa using hl, hs⟩
    rw [e, List.length_map]
    exact view_ro (by decide) (stEnc.row_len xs)
def wL (bs : Txt) : Option Blk := some (sBlk [.own (.l 0) bs.length 0 bs.length 1 none] false)
structure LawW (prog : String → Option IFn) : Prop extends Law4 prog where
  spoil : prog "haberdash/haberdashhelp.Spoil[byte]" = some f_help_Spoil_byte_
theorem PackWrites_law (H : LawW prog) (hp : prog "haberdash/haberdashlaw04.PackWrites" = some f_law04_PackWrites) {as} (h : IsAll [.slice stepTy] as) :
    ∃ G2, Ev prog (.call "haberdash/haberdashlaw04.PackWrites" as []) (.ret (.v (.bool true)) G2) := by
  rcases as with _ | ⟨a0, _ | _⟩ <;> try (simp [IsAll] at h; done)
  obtain ⟨⟨c0', h0, rfl⟩, _⟩ := h
  obtain ⟨a, xs, rfl, va, hl, hI⟩ := is_steps h0
  have hroom : room = 140737488355328 := rfl
  have na : ∀ ks, noRef ks a = true := fun ks => noRef_out (View.out (va ⟨[], []⟩))
  refine ⟨[], call_of_fin hp ?_⟩
  simp only [f_law04_PackWrites_B, enter, List.length_cons, List.length_nil, List.replicate, Nat.reduceAdd, Nat.reduceSub, List.cons_append, List.nil_append, Ty.arg]
  simp (disch := first | (simp only [ne_eq, reduceCtorEq, not_false_eq_true, implies_true, List.getElem?_cons_zero, List.getElem?_cons_succ]; done) | omega) only [WS, St.guard, St.put, evalO, reduceCtorEq, reduceIte, Nat.reduceAdd, Nat.reduceEqDiff, new_s, virtBlk_eq, box_s, box_vs, box_vi, box_vb, px_load_l, px_load_o, loadB_s, storeX, storeB_s, alloc_s, lay, whole, Option.join_some, List.drop_zero, List.drop_succ_cons, List.take_succ_cons, List.take_zero, List.drop_nil, List.nil_append, List.cons_append, Nat.reduceLeDiff, Nat.zero_add, and_self, and_true, cells_int, cells_bool, cells_str, cells_string, cells_agg, cells_own, cells_ro, cells_ptr, cells_nil, AV.lf.lfs, AV.lf, px_build, fills, build_string, build_str, build_int, WDR_some, Nat.reduceLeDiff, Nat.le_refl, Bool.and_self]
  refine (WP_p (x := .bool (fewB xs)) (by exact few4_spec H.few ((va _).into) hl) (by exact trivial)).2 ?_
  cases hfew : fewB xs
  · simp (disch := first | (simp only [ne_eq, reduceCtorEq, not_false_eq_true, implies_true, List.getElem?_cons_zero, List.getElem?_cons_succ]; done) | omega) only [WS, St.guard, St.put, evalO, reduceCtorEq, reduceIte, Nat.reduceAdd, Nat.reduceEqDiff]
    refine (WP_p (x := .bool true) (by exact awake4 H.toLaw4 (.inr (.inr (.inl rfl)))) (by exact trivial)).2 ?_
    simp (disch := first | (simp only [ne_eq, reduceCtorEq, not_false_eq_true, implies_true, List.getElem?_cons_zero, List.getElem?_cons_succ]; done) | omega) only [WS, St.guard, St.put, evalO, reduceCtorEq, reduceIte, Nat.reduceAdd, Nat.reduceEqDiff, fin_tmp, leave_v]
    simp
  obtain ⟨h40, h300⟩ : xs.length ≤ 40 ∧ ∀ x ∈ xs, x.s.length ≤ 300 := by
    simp only [fewB, Bool.and_eq_true, decide_eq_true_eq, List.all_eq_true] at hfew
    exact hfew
  have hok : ∀ x ∈ xs, okStep x := fun x hx => ⟨by have := (hI x hx).1; unfold I64 at this; omega, h300 x hx⟩
  simp (disch := first | (simp only [ne_eq, reduceCtorEq, not_false_eq_true, implies_true, List.getElem?_cons_zero, List.getElem?_cons_succ]; done) | omega) only [WS, St.guard, St.put, evalO, reduceCtorEq, reduceIte, Nat.reduceAdd, Nat.reduceEqDiff, new_s, virtBlk_eq, box_s, box_vs, box_vi, box_vb, px_load_l, px_load_o, loadB_s, storeX, storeB_s, alloc_s, lay, whole, Option.join_some, List.drop_zero, List.drop_succ_cons, List.take_succ_cons, List.take_zero, List.drop_nil, List.nil_append, List.cons_append, Nat.reduceLeDiff, Nat.zero_add, and_self, and_true, cells_int, cells_bool, cells_str, cells_string, cells_agg, cells_own, cells_ro, cells_ptr, cells_nil, AV.lf.lfs, AV.lf, px_build, fills, build_string, build_str, build_int, WDR_some, Nat.reduceLeDiff, Nat.le_refl, Bool.and_self]
  have bk : prim ⟨[], [none, none, none, none, none, none]⟩ (.boxK 1 [(0, 0, 1)]) [.agg [.v (.slice none 0 0)]] = some (.ptr (.l 1) 1 0, ⟨[], [byteB [], wL [], none, none, none, none]⟩) := rfl
  refine (WR_eq bk).2 ?_
  simp (disch := first | (simp only [ne_eq, reduceCtorEq, not_false_eq_true, implies_true, List.getElem?_cons_zero, List.getElem?_cons_succ]; done) | omega) only [WS, St.guard, St.put, evalO, reduceCtorEq, reduceIte, Nat.reduceAdd, Nat.reduceEqDiff, new_s, virtBlk_eq, box_s, box_vs, box_vi, box_vb, px_load_l, px_load_o, loadB_s, storeX, storeB_s, alloc_s, lay, whole, Option.join_some, List.drop_zero, List.drop_succ_cons, List.take_succ_cons, List.take_zero, List.drop_nil, List.nil_append, List.cons_append, Nat.reduceLeDiff, Nat.zero_add, and_self, and_true, cells_int, cells_bool, cells_str, cells_string, cells_agg, cells_own, cells_ro, cells_ptr, cells_nil, AV.lf.lfs, AV.lf, px_build, fills, build_string, build_str, build_int, WDR_some, Nat.reduceLeDiff, Nat.le_refl, Bool.and_self]
  refine WC_count (fun i => ⟨f_law04_PackWrites_H0 a (.ptr (.l 1) 1 0) (.v (.int .i64 (i : Nat))), ⟨[], [byteB (writeB (xs.take i)), wL (writeB (xs.take i)), none, none, none, none]⟩⟩) xs.length ?_ (fun i hi => ?_) ?_
  · exact clear_fre (by simp only [clear_nil, List.foldl_cons, List.foldl_nil, Option.some.injEq, List.map_cons, List.map_nil, List.getD_cons_zero, List.getD_cons_succ, List.set_cons_zero, List.set_cons_succ, Option.map_some, Option.bind_some, ne_eq, reduceCtorEq, not_false_eq_true, implies_true, beq_self_eq_true, BEq.rfl, if_true, if_false, Bool.false_eq_true, not_true_eq_false, Option.some.injEq, reduceIte, Bool.not_true, Bool.not_false, beq_true, beq_false, Bool.true_and, Bool.and_true, Bool.false_and, Bool.and_false, true_and, List.getElem?_cons_zero, List.getElem?_cons_succ, List.length_cons, List.length_nil, Nat.reduceAdd] <;> rfl) (by rfl) (by simp only [f_law04_PackWrites_H0, List.all_cons, List.all_nil, noRef_v, noRef_dead, noRef_own, noRef_ptr, noRef_nil, Bool.and_true, Bool.true_and, Bool.and_self, List.contains_cons, List.contains_nil, Bool.or_false, Nat.reduceBEq, Bool.not_false, na]) (by rfl)
  · have hlt' : (i : Int) < (xs.length : Int) := by omega
    have hxi : xs[i]? = some xs[i] := List.getElem?_eq_getElem hi
    have hokx := hok _ (List.mem_of_getElem? hxi)
    generalize xs[i] = x at *
    have q := fun h => st_at (va h) hxi
    have hn := hokx.1
    have hs := hokx.2
    have hnext : writeB (xs.take (i + 1)) = writeB (xs.take i) ++ stepB x := by unfold writeB; rw [List.take_add_one, hxi, List.flatMap_append]; simp
    have hlen : (writeB (xs.take i)).length ≤ 309 * 40 := Nat.le_trans (writeB_len fun y hy => hok y (List.mem_of_mem_take hy)) (by rw [List.length_take]; omega)
    generalize writeB (xs.take i) = out at *
    have gW : ∀ o, Good ⟨[], [byteB o, wL o, none, none, none, none]⟩ := fun o => ⟨dBlk_good, sBlk_good rfl, trivial⟩
    simp (disch := first | (simp only [ne_eq, reduceCtorEq, not_false_eq_true, implies_true, List.getElem?_cons_zero, List.getElem?_cons_succ]; done) | omega) only [f_law04_PackWrites_L0, f_law04_PackWrites_H0, WS, St.guard, St.put, evalO, reduceCtorEq, reduceIte, Nat.reduceAdd, Nat.reduceEqDiff, (va _).lenSlice, hlt', decide_true, (q _).ix, (q _).ld]
    refine (WP_p (x := .int .i64 (umod x.kind 3 : Nat)) (by exact kind_spec H.kind) (by exact gW _)).2 ?_
    have h3 := umod_lt (c := x.kind) (n := 3) (by omega)
    have hsb : stepB x = if umod x.kind 3 = 0 then numB x.n.toNat else if umod x.kind 3 = 1 then textB x.s else flagB x.is := rfl
    rw [hnext]
    generalize umod x.kind 3 = k at *
    rcases (show k = 0 ∨ k = 1 ∨ k = 2 by omega) with rfl | rfl | rfl
    · rw [if_pos rfl] at hsb
      simp (disch := first | (simp only [ne_eq, reduceCtorEq, not_false_eq_true, implies_true, List.getElem?_cons_zero, List.getElem?_cons_succ]; done) | omega) only [WS, St.guard, St.put, evalO, reduceCtorEq, reduceIte, Nat.reduceAdd, Nat.reduceEqDiff, Int.reduceBEq, (q _).ix, (q _).f3, (q _).l3]
      refine WP_of (op_turn ⟨[], [byteB (out ++ stepB x), wL (out ++ stepB x), none, none, none, none]⟩ (by
        rw [hsb]
        exact wNum_spec H.toPackLib (G := [none, none, none, none, none, none]) (p := 1) (q := 0) (bs := out) hn (by decide) (by decide) (by omega)) rfl rfl rfl (gW _) (gW _)) ?_
      simp (disch := first | (simp only [ne_eq, reduceCtorEq, not_false_eq_true, implies_true, List.getElem?_cons_zero, List.getElem?_cons_succ]; done) | omega) only [WS, St.guard, St.put, evalO, reduceCtorEq, reduceIte, Nat.reduceAdd, Nat.reduceEqDiff, vBin_add_i64]
      exact clear_fre (by simp only [clear_nil, List.foldl_cons, List.foldl_nil, Option.some.injEq, List.map_cons, List.map_nil, List.getD_cons_zero, List.getD_cons_succ, List.set_cons_zero, List.set_cons_succ, Option.map_some, Option.bind_some, ne_eq, reduceCtorEq, not_false_eq_true, implies_true, beq_self_eq_true, BEq.rfl, if_true, if_false, Bool.false_eq_true, not_true_eq_false, Option.some.injEq, reduceIte, Bool.not_true, Bool.not_false, beq_true, beq_false, Bool.true_and, Bool.and_true, Bool.false_and, Bool.and_false, true_and, List.getElem?_cons_zero, List.getElem?_cons_succ, List.length_cons, List.length_nil, Nat.reduceAdd] <;> rfl) (by rfl) (by simp only [f_law04_PackWrites_H0, List.all_cons, List.all_nil, noRef_v, noRef_dead, noRef_own, noRef_ptr, noRef_nil, Bool.and_true, Bool.true_and, Bool.and_self, List.contains_cons, List.contains_nil, Bool.or_false, Nat.reduceBEq, Bool.not_false, na]) (by rfl)
    · rw [if_neg (by omega), if_pos rfl] at hsb
      simp (disch := first | (simp only [ne_eq, reduceCtorEq, not_false_eq_true, implies_true, List.getElem?_cons_zero, List.getElem?_cons_succ]; done) | omega) only [WS, St.guard, St.put, evalO, reduceCtorEq, reduceIte, Nat.reduceAdd, Nat.reduceEqDiff, Int.reduceBEq, (q _).ix, (q _).f4, (q _).l4]
      refine WP_of (op_turn ⟨[], [byteB (out ++ stepB x), wL (out ++ stepB x), none, none, none, none]⟩ (by
        rw [hsb]
        exact wText_spec H.toPackLib (G := [none, none, none, none, none, none]) (p := 1) (q := 0) (bs := out) hs (by decide) (by decide) (by omega)) rfl rfl rfl (gW _) (gW _)) ?_
      simp (disch := first | (simp only [ne_eq, reduceCtorEq, not_false_eq_true, implies_true, List.getElem?_cons_zero, List.getElem?_cons_succ]; done) | omega) only [WS, St.guard, St.put, evalO, reduceCtorEq, reduceIte, Nat.reduceAdd, Nat.reduceEqDiff, vBin_add_i64]
      exact clear_fre (by simp only [clear_nil, List.foldl_cons, List.foldl_nil, Option.some.injEq, List.map_cons, List.map_nil, List.getD_cons_zero, List.getD_cons_succ, List.set_cons_zero, List.set_cons_succ, Option.map_some, Option.bind_some, ne_eq, reduceCtorEq, not_false_eq_true, implies_true, beq_self_eq_true, BEq.rfl, if_true, if_false, Bool.false_eq_true, not_true_eq_false, Option.some.injEq, reduceIte, Bool.not_true, Bool.not_false, beq_true, beq_false, Bool.true_and, Bool.and_true, Bool.false_and, Bool.and_false, true_and, List.getElem?_cons_zero, List.getElem?_cons_succ, List.length_cons, List.length_nil, Nat.reduceAdd] <;> rfl) (by rfl) (by simp only [f_law04_PackWrites_H0, List.all_cons, List.all_nil, noRef_v, noRef_dead, noRef_own, noRef_ptr, noRef_nil, Bool.and_true, Bool.true_and, Bool.and_self, List.contains_cons, List.contains_nil, Bool.or_false, Nat.reduceBEq, Bool.not_false, na]) (by rfl)
    · rw [if_neg (by omega), if_neg (by omega)] at hsb
      simp (disch := first | (simp only [ne_eq, reduceCtorEq, not_false_eq_true, implies_true, List.getElem?_cons_zero, List.getElem?_cons_succ]; done) | omega) only [WS, St.guard, St.put, evalO, reduceCtorEq, reduceIte, Nat.reduceAdd, Nat.reduceEqDiff, Int.reduceBEq, (q _).ix, (q _).f5, (q _).l5]
      refine WP_of (op_turn ⟨[], [byteB (out ++ stepB x), wL (out ++ stepB x), none, none, none, none]⟩ (by
        rw [hsb]
        exact wFlag_spec H.toPackLib (G := [none, none, none, none, none, none]) (p := 1) (q := 0) (bs := out) (by decide) (by decide) (by omega)) rfl rfl rfl (gW _) (gW _)) ?_
      simp (disch := first | (simp only [ne_eq, reduceCtorEq, not_false_eq_true, implies_true, List.getElem?_cons_zero, List.getElem?_cons_succ]; done) | omega) only [WS, St.guard, St.put, evalO, reduceCtorEq, reduceIte, Nat.reduceAdd, Nat.reduceEqDiff, vBin_add_i64]
      exact clear_fre (by simp only [clear_nil, List.foldl_cons, List.foldl_nil, Option.some.injEq, List.map_cons, List.map_nil, List.getD_cons_zero, List.getD_cons_succ, List.set_cons_zero, List.set_cons_succ, Option.map_some, Option.bind_some, ne_eq, reduceCtorEq, not_false_eq_true, implies_true, beq_self_eq_true, BEq.rfl, if_true, if_false, Bool.false_eq_true, not_true_eq_false, Option.some.injEq, reduceIte, Bool.not_true, Bool.not_false, beq_true, beq_false, Bool.true_and, Bool.and_true, Bool.false_and, Bool.and_false, true_and, List.getElem?_cons_zero, List.getElem?_cons_succ, List.length_cons, List.length_nil, Nat.reduceAdd] <;> rfl) (by rfl) (by simp only [f_law04_PackWrites_H0, List.all_cons, List.all_nil, noRef_v, noRef_dead, noRef_own, noRef_ptr, noRef_nil, Bool.and_true, Bool.true_and, Bool.and_self, List.contains_cons, List.contains_nil, Bool.or_false, Nat.reduceBEq, Bool.not_false, na]) (by rfl)
  · simp (disch := first | (simp only [ne_eq, reduceCtorEq, not_false_eq_true, implies_true, List.getElem?_cons_zero, List.getElem?_cons_succ]; done) | omega) only [f_law04_PackWrites_L0, f_law04_PackWrites_H0, WS, St.guard, St.put, evalO, reduceCtorEq, reduceIte, Nat.reduceAdd, Nat.reduceEqDiff, (va _).lenSlice, decide_false, List.take_length]
    have hlen := writeB_len hok
    have hwr : ∀ {G : List (Option Blk)} {b}, (∀ L, TView stEnc ⟨G, L⟩ b xs) → Ev prog (.call "haberdash/haberdashlaw04.write" [b] G) (.ret (.own (.o G.length) (writeB xs).length 0 (writeB xs).length 1 none) (G ++ [byteB (writeB xs)])) := fun v => write_spec H.toWrite4 v h40 hok
    have hl2 : (writeB xs).length ≤ 309 * 40 := by omega
    generalize writeB xs = out at *
    by_cases h0 : out.length = 0
    · have ho : out = [] := List.eq_nil_of_length_eq_zero h0
      subst ho
      have g2 : ∀ b4, (∀ B, b4 = some B → B.labs = []) → Good ⟨[], [byteB [], wL [], none, none, b4, none]⟩ := fun b4 h4 => ⟨dBlk_good, sBlk_good rfl, goodD (b := none) (by simp) (goodD (b := none) (by simp) (goodD h4 trivial))⟩
      refine WP_of (op_none (by exact wBytes_nil H.toPackLib (G := [byteB [], wO 0 [], none, none, none, none]) (p := 1) (q := 0) rfl rfl (by decide)) (by decide) rfl (g2 _ (by simp))) ?_
      simp (disch := first | (simp only [ne_eq, reduceCtorEq, not_false_eq_true, implies_true, List.getElem?_cons_zero, List.getElem?_cons_succ]; done) | omega) only [WS, St.guard, St.put, evalO, reduceCtorEq, reduceIte, Nat.reduceAdd, Nat.reduceEqDiff]
      rw [append_nil0 (esz := 1) (view_nil' (by omega))]
      simp (disch := first | (simp only [ne_eq, reduceCtorEq, not_false_eq_true, implies_true, List.getElem?_cons_zero, List.getElem?_cons_succ]; done) | omega) only [WS, St.guard, St.put, evalO, reduceCtorEq, reduceIte, Nat.reduceAdd, Nat.reduceEqDiff]
      refine (WP_r (r := .tup []) (by exact Spoil_nil H.spoil) rfl (by exact g2 _ (by simp))).2 ?_
      simp (disch := first | (simp only [ne_eq, reduceCtorEq, not_false_eq_true, implies_true, List.getElem?_cons_zero, List.getElem?_cons_succ]; done) | omega) only [WS, St.guard, St.put, evalO, reduceCtorEq, reduceIte, Nat.reduceAdd, Nat.reduceEqDiff]
      refine (WP_p (x := .bool true) (by exact awake4 H.toLaw4 (.inr (.inr (.inl rfl)))) (by exact g2 _ (by simp))).2 ?_
      simp (disch := first | (simp only [ne_eq, reduceCtorEq, not_false_eq_true, implies_true, List.getElem?_cons_zero, List.getElem?_cons_succ]; done) | omega) only [WS, St.guard, St.put, evalO, reduceCtorEq, reduceIte, Nat.reduceAdd, Nat.reduceEqDiff]
      refine WP_news (by exact hwr ((va _).into)) (data1 dBlk_l) rfl (by decide) rfl (by exact g2 _ (by simp)) (by exact ren_own1) ?_
      simp (disch := first | (simp only [ne_eq, reduceCtorEq, not_false_eq_true, implies_true, List.getElem?_cons_zero, List.getElem?_cons_succ]; done) | omega) only [WS, St.guard, St.put, evalO, reduceCtorEq, reduceIte, Nat.reduceAdd, Nat.reduceEqDiff, putAll]
      have vx : ∀ b0 b1 b2 b3 b5, View ⟨[], [b0, b1, b2, b3, byteB [], b5]⟩ (.own (.l 4) 0 0 0 1 none) 1 ([] : Txt).length (([] : Txt).map byteAV) := fun _ _ _ _ _ => own_view1 (j := 4) rfl (by simp) (by simp)
      refine (WP_p (x := .bool (decide (([] : Txt) = []))) (by exact Bytes_spec H.bytes (fun L => view_nil' (by omega)) ((vx _ _ _ _ _).into bytes_lfs)) (by exact g2 _ dBlk_l)).2 ?_
      rw [decide_eq_true rfl]
      simp (disch := first | (simp only [ne_eq, reduceCtorEq, not_false_eq_true, implies_true, List.getElem?_cons_zero, List.getElem?_cons_succ]; done) | omega) only [WS, St.guard, St.put, evalO, reduceCtorEq, reduceIte, Nat.reduceAdd, Nat.reduceEqDiff]
      refine WP_of (op_none (by exact wBytes_nil H.toPackLib (G := [byteB [], wO 0 [], none, none, byteB [], none]) (p := 1) (q := 0) rfl rfl (by decide)) (by decide) rfl (g2 _ dBlk_l)) ?_
      simp (disch := first | (simp only [ne_eq, reduceCtorEq, not_false_eq_true, implies_true, List.getElem?_cons_zero, List.getElem?_cons_succ]; done) | omega) only [WS, St.guard, St.put, evalO, reduceCtorEq, reduceIte, Nat.reduceAdd, Nat.reduceEqDiff]
      refine (WP_p (x := .bool (decide (([] : Txt) = []))) (by exact Bytes_spec H.bytes (fun L => view_nil' (by omega)) (fun L => view_nil' (by omega))) (by exact g2 _ dBlk_l)).2 ?_
      rw [decide_eq_true rfl]
      simp (disch := first | (simp only [ne_eq, reduceCtorEq, not_false_eq_true, implies_true, List.getElem?_cons_zero, List.getElem?_cons_succ]; done) | omega) only [WS, St.guard, St.put, evalO, reduceCtorEq, reduceIte, Nat.reduceAdd, Nat.reduceEqDiff, fin_tmp, leave_v]
      simp
    · refine WP_news (by exact wBytes_spec H.toPackLib (G := [byteB out, wO 0 out, none, none, none, none]) (p := 1) (q := 0) rfl rfl (by omega) (by omega) (show 1 < 6 by omega) (show 0 < 6 by omega)) (data1 dBlk_l) rfl (by decide) rfl (by exact ⟨dBlk_good, sBlk_good rfl, trivial⟩) (by exact ren_own1) ?_
      simp (disch := first | (simp only [ne_eq, reduceCtorEq, not_false_eq_true, implies_true, List.getElem?_cons_zero, List.getElem?_cons_succ]; done) | omega) only [WS, St.guard, St.put, evalO, reduceCtorEq, reduceIte, Nat.reduceAdd, Nat.reduceEqDiff, putAll]
      refine (WR_eq (append_nil (esz := 1) (len := out.length) (by exact own_view1 (j := 2) rfl (by simp) (by simp)) bytes_lfs (by exact rfl) (by omega) (by omega))).2 ?_
      simp (disch := first | (simp only [ne_eq, reduceCtorEq, not_false_eq_true, implies_true, List.getElem?_cons_zero, List.getElem?_cons_succ]; done) | omega) only [WS, St.guard, St.put, evalO, reduceCtorEq, reduceIte, Nat.reduceAdd, Nat.reduceEqDiff, Nat.mul_one]
      have g2 : ∀ b2 b3 b4 b5, (∀ B, b2 = some B → B.labs = []) → (∀ B, b3 = some B → B.labs = []) → (∀ B, b4 = some B → B.labs = []) → (∀ B, b5 = some B → B.labs = []) → Good ⟨[], [byteB out, wL out, b2, b3, b4, b5]⟩ := fun b2 b3 b4 b5 h2 h3 h4 h5 => ⟨dBlk_good, sBlk_good rfl, goodD h2 (goodD h3 (goodD h4 (goodD h5 trivial)))⟩
      refine WP_of (op_turn ⟨[], [byteB out, wL out, some (dBlk ((List.replicate out.length 0).map byteAV) true false), some (dBlk (out.map byteAV) true false), none, none]⟩ (by
        exact Spoil_spec H.spoil (p := 2) (bs := out) (o := true) (v := false) rfl (by omega)) rfl rfl rfl (g2 _ _ _ _ dBlk_l dBlk_l (by simp) (by simp)) (g2 _ _ _ _ dBlk_l dBlk_l (by simp) (by simp))) ?_
      simp (disch := first | (simp only [ne_eq, reduceCtorEq, not_false_eq_true, implies_true, List.getElem?_cons_zero, List.getElem?_cons_succ]; done) | omega) only [WS, St.guard, St.put, evalO, reduceCtorEq, reduceIte, Nat.reduceAdd, Nat.reduceEqDiff]
      refine (WP_p (x := .bool true) (by exact awake4 H.toLaw4 (.inr (.inr (.inl rfl)))) (by exact g2 _ _ _ _ dBlk_l dBlk_l (by simp) (by simp))).2 ?_
      simp (disch := first | (simp only [ne_eq, reduceCtorEq, not_false_eq_true, implies_true, List.getElem?_cons_zero, List.getElem?_cons_succ]; done) | omega) only [WS, St.guard, St.put, evalO, reduceCtorEq, reduceIte, Nat.reduceAdd, Nat.reduceEqDiff]
      refine WP_news (by exact hwr ((va _).into)) (data1 dBlk_l) rfl (by decide) rfl (by exact g2 _ _ _ _ dBlk_l dBlk_l (by simp) (by simp)) (by exact ren_own1) ?_
      simp (disch := first | (simp only [ne_eq, reduceCtorEq, not_false_eq_true, implies_true, List.getElem?_cons_zero, List.getElem?_cons_succ]; done) | omega) only [WS, St.guard, St.put, evalO, reduceCtorEq, reduceIte, Nat.reduceAdd, Nat.reduceEqDiff, putAll]
      have vw : ∀ b0 b1 b2 b4 b5, View ⟨[], [b0, b1, b2, some (dBlk (out.map byteAV) true false), b4, b5]⟩ (.own (.l 3) out.length 0 out.length 1 none) 1 out.length (out.map byteAV) := fun _ _ _ _ _ => own_view1 (j := 3) rfl (by simp) (by simp)
      have vx : ∀ b0 b1 b2 b3 b5, View ⟨[], [b0, b1, b2, b3, byteB out, b5]⟩ (.own (.l 4) out.length 0 out.length 1 none) 1 out.length (out.map byteAV) := fun _ _ _ _ _ => own_view1 (j := 4) rfl (by simp) (by simp)
      refine (WP_p (x := .bool (decide (out = out))) (by exact Bytes_spec H.bytes ((vw _ _ _ _ _).into bytes_lfs) ((vx _ _ _ _ _).into bytes_lfs)) (by exact g2 _ _ _ _ dBlk_l dBlk_l dBlk_l (by simp))).2 ?_
      rw [decide_eq_true rfl]
      simp (disch := first | (simp only [ne_eq, reduceCtorEq, not_false_eq_true, implies_true, List.getElem?_cons_zero, List.getElem?_cons_succ]; done) | omega) only [WS, St.guard, St.put, evalO, reduceCtorEq, reduceIte, Nat.reduceAdd, Nat.reduceEqDiff]
      refine WP_news (by exact wBytes_spec H.toPackLib (G := [byteB out, wO 0 out, some (dBlk ((List.replicate out.length 0).map byteAV) true false), some (dBlk (out.map byteAV) true false), byteB out, none]) (p := 1) (q := 0) rfl rfl (by omega) (by omega) (show 1 < 6 by omega) (show 0 < 6 by omega)) (data1 dBlk_l) rfl (by decide) rfl (by exact g2 _ _ _ _ dBlk_l dBlk_l dBlk_l (by simp)) (by exact ren_own1) ?_
      simp (disch := first | (simp only [ne_eq, reduceCtorEq, not_false_eq_true, implies_true, List.getElem?_cons_zero, List.getElem?_cons_succ]; done) | omega) only [WS, St.guard, St.put, evalO, reduceCtorEq, reduceIte, Nat.reduceAdd, Nat.reduceEqDiff, putAll]
      have vy : ∀ b0 b1 b2 b3 b4, View ⟨[], [b0, b1, b2, b3, b4, some (dBlk (out.map byteAV) true false)]⟩ (.own (.l 5) out.length 0 out.length 1 none) 1 out.length (out.map byteAV) := fun _ _ _ _ _ => own_view1 (j := 5) rfl (by simp) (by simp)
      refine (WP_p (x := .bool (decide (out = out))) (by exact Bytes_spec H.bytes ((vy _ _ _ _ _).into bytes_lfs) ((vw _ _ _ _ _).into bytes_lfs)) (by exact g2 _ _ _ _ dBlk_l dBlk_l dBlk_l dBlk_l)).2 ?_
      rw [decide_eq_true rfl]
      simp (disch := first | (simp only [ne_eq, reduceCtorEq, not_false_eq_true, implies_true, List.getElem?_cons_zero, List.getElem?_cons_succ]; done) | omega) only [WS, St.guard, St.put, evalO, reduceCtorEq, reduceIte, Nat.reduceAdd, Nat.reduceEqDiff, fin_tmp, leave_v]
      simp
end Go.AM
