import Derived.Test.YtphknfgiljkjaaaNearA
set_option linter.unusedVariables false
set_option linter.unusedSimpArgs false
namespace Go.AM
variable {prog : String → Option IFn}
def subs {α : Type} : List α → List (List α)
  | [] => [[]]
  | a :: l => subs l ++ (subs l).map (a :: ·)
theorem mem_subs {α : Type} {l m : List α} (h : l.Sublist m) : l ∈ subs m := by
  induction h with
  | slnil => simp [subs]
  | cons a _ ih => simp [subs, ih]
  | cons_cons a _ ih => simp [subs, ih]
theorem someL_sub {xs most n nm} : ∀ i, (someL xs most n nm i).Sublist ((List.range i).map nm)
  | 0 => by simp [someL]
  | i + 1 => by
    unfold someL
    rw [List.range_succ, List.map_append]
    split
    · exact (someL_sub i).append (List.Sublist.refl _)
    · exact (someL_sub i).trans (List.sublist_append_left _ _)
def goodT (l : List Txt) : Bool := namesOK l && l.all fun t => decide (t.length ≤ 100)
theorem pSkus_ok (n : List Txt) : goodT (pSkus n) = true := by
  have h := mem_subs (someL_sub (xs := n) (most := 3) (n := 8) (nm := skuN) 8)
  have : (subs ((List.range 8).map skuN)).all goodT = true := by decide +kernel
  exact List.all_eq_true.1 this _ h
theorem pCats_ok (n : List Txt) : goodT (pCats n) = true := by
  have h := mem_subs (someL_sub (xs := n) (most := 2) (n := 3) (nm := catN) 3)
  have : (subs ((List.range 3).map catN)).all goodT = true := by decide +kernel
  exact List.all_eq_true.1 this _ h
theorem goodT_parts {l : List Txt} (h : goodT l = true) : namesOK l = true ∧ l.length ≤ 20 ∧ ∀ x ∈ l, x.length ≤ maxLen := by
  unfold goodT at h
  rw [Bool.and_eq_true] at h
  refine ⟨h.1, ?_, fun x hx => ?_⟩
  · have := h.1
    unfold namesOK at this
    rw [Bool.and_eq_true, decide_eq_true_eq] at this
    exact this.1
  · have := List.all_eq_true.1 h.2 x hx
    rw [decide_eq_true_eq] at this
    unfold maxLen; omega
def roN (l : List Txt) : AV := .ro (decide (l.length = 0)) 1 l.length (sEnc.row l)
theorem roN_view (l : List Txt) : ∀ h, TView sEnc h (roN l) l := fun h => view_ro (by decide) (sEnc.row_len l)
def pSc (s : ScopeV) : ScopeV := ⟨roN (pSkus s.n), roN (pCats s.c), pSkus s.n, pCats s.c, roN_view _, roN_view _,
  Nat.le_trans (goodT_parts (pSkus_ok _)).2.1 (by decide), Nat.le_trans (goodT_parts (pCats_ok _)).2.1 (by decide), (goodT_parts (pSkus_ok _)).2.2, (goodT_parts (pCats_ok _)).2.2⟩
theorem pSc_ok (s : ScopeV) : scopeOK (pSc s).n (pSc s).c = true := by
  unfold scopeOK
  rw [show (pSc s).n = pSkus s.n from rfl, show (pSc s).c = pCats s.c from rfl, (goodT_parts (pSkus_ok _)).1, (goodT_parts (pCats_ok _)).1]; rfl
def pScs (ss : List ScopeV) (k : Nat) : List ScopeV := (ss.take k).map pSc
theorem pScs_len {ss k} (h : k ≤ ss.length) : (pScs ss k).length = k := by unfold pScs; rw [List.length_map, List.length_take]; omega
theorem pScs_succ {ss : List ScopeV} {k s} (h : ss[k]? = some s) : pScs ss (k + 1) = pScs ss k ++ [pSc s] := by
  unfold pScs; rw [List.take_add_one, h, List.map_append]; rfl
theorem pScs_mem {ss k s} (h : s ∈ pScs ss k) : s.n.length ≤ 1000000 ∧ s.c.length ≤ 1000000 := by
  unfold pScs at h
  obtain ⟨t, _, rfl⟩ := List.mem_map.1 h
  exact ⟨Nat.le_trans (goodT_parts (pSkus_ok _)).2.1 (by decide), Nat.le_trans (goodT_parts (pCats_ok _)).2.1 (by decide)⟩
theorem app_scope {T : List (Option Blk)} {s : ScopeV} {xs : List ScopeV} {v : Bool} (hr : (xs.length + 1) * 48 ≤ room) :
    prim ⟨[], some (dBlk (scEnc.row xs) true v) :: someB (pCats s.c) :: someB (pSkus s.n) :: some { dBlk [.own (.l 2) (pSkus s.n).length 0 (pSkus s.n).length 1 none, .own (.l 1) (pCats s.c).length 0 (pCats s.c).length 1 none] false false with data := false } :: T⟩ (.append 4 true 2 48)
      [.own (.l 0) (xs.length * 2) 0 xs.length 2 none, .own (.l 3) 2 0 1 2 (some 1)] =
      some (.own (.l 0) ((xs.length + 1) * 2) 0 (xs.length + 1) 2 none, ⟨[], some (dBlk (scEnc.row (xs ++ [pSc s])) true false) :: some { dBlk (sEnc.row (pCats s.c)) true (decide ((pCats s.c).length = 0)) with wr := false } ::
        some { dBlk (sEnc.row (pSkus s.n)) true (decide ((pSkus s.n).length = 0)) with wr := false } :: some { dBlk [.own (.l 2) (pSkus s.n).length 0 (pSkus s.n).length 1 none, .own (.l 1) (pCats s.c).length 0 (pCats s.c).length 1 none] false false with data := false } :: T⟩) := by
  have h1 : (sEnc.row (pSkus s.n)).length = (pSkus s.n).length := by rw [sEnc.row_len, show sEnc.esz = 1 from rfl, Nat.mul_one]
  have h2 : (sEnc.row (pCats s.c)).length = (pCats s.c).length := by rw [sEnc.row_len, show sEnc.esz = 1 from rfl, Nat.mul_one]
  have hl : (scEnc.row xs).length = xs.length * 2 := scEnc.row_len xs
  have e : scEnc.row (xs ++ [pSc s]) = scEnc.row xs ++ [roN (pSkus s.n), roN (pCats s.c)] := scEnc.row_append _ _
  have hf : (⟨[], some (dBlk (scEnc.row xs) true v) :: someB (pCats s.c) :: someB (pSkus s.n) :: some { dBlk [.own (.l 2) (pSkus s.n).length 0 (pSkus s.n).length 1 none, .own (.l 1) (pCats s.c).length 0 (pCats s.c).length 1 none] false false with data := false } :: T⟩ : Hp).freezes
      [.own (.l 2) (pSkus s.n).length 0 (pSkus s.n).length 1 none, .own (.l 1) (pCats s.c).length 0 (pCats s.c).length 1 none] =
      some ([roN (pSkus s.n), roN (pCats s.c)], ⟨[], some (dBlk (scEnc.row xs) true v) :: some { dBlk (sEnc.row (pCats s.c)) true (decide ((pCats s.c).length = 0)) with wr := false } ::
        some { dBlk (sEnc.row (pSkus s.n)) true (decide ((pSkus s.n).length = 0)) with wr := false } :: some { dBlk [.own (.l 2) (pSkus s.n).length 0 (pSkus s.n).length 1 none, .own (.l 1) (pCats s.c).length 0 (pCats s.c).length 1 none] false false with data := false } :: T⟩) := by
    generalize pSkus s.n = ns at *
    generalize pCats s.c = cs at *
    simp only [Hp.freezes, Hp.freeze, Hp.get, Hp.put, someB, List.getElem?_cons_succ, List.getElem?_cons_zero, Option.join_some, dBlk_cells, h1, h2, Nat.mul_one, List.drop_zero, show ∀ a b c, (dBlk a b c).data = true from fun _ _ _ => rfl, and_self, if_true, Option.bind_some, List.set_cons_succ, List.set_cons_zero, Option.map_some]
    rw [List.take_of_length_le (by omega), List.take_of_length_le (by omega)]
    rfl
  rw [px_append]
  have hs : ∀ B : Blk, B.cells = [.own (.l 2) (pSkus s.n).length 0 (pSkus s.n).length 1 none, .own (.l 1) (pCats s.c).length 0 (pCats s.c).length 1 none] →
      (⟨[], some (dBlk (scEnc.row xs) true v) :: someB (pCats s.c) :: someB (pSkus s.n) :: some B :: T⟩ : Hp).source (.own (.l 3) 2 0 1 2 (some 1)) = some (1, [.own (.l 2) (pSkus s.n).length 0 (pSkus s.n).length 1 none, .own (.l 1) (pCats s.c).length 0 (pCats s.c).length 1 none]) := fun B hB => by
    simp only [Hp.source, Hp.sees, lenOf, Hp.get, List.getElem?_cons_succ, List.getElem?_cons_zero, Option.join_some, hB, List.length_cons, List.length_nil]
    rfl
  rw [hs _ rfl, Option.bind_some]
  simp only [Hp.mayFreeze, if_true, hf, Option.bind_some]
  have hd : AV.lf.lfs [roN (pSkus s.n), roN (pCats s.c)] = true := rfl
  simp only [Hp.append, List.length_cons, List.length_nil, Hp.get, List.getElem?_cons_zero, Option.join_some, dBlk_cells]
  refine (if_pos (by decide)).trans ?_
  refine (if_pos ⟨hl, trivial, hr, rfl⟩).trans ?_
  rw [if_neg (by omega), if_neg (by simp [dBlk]), if_neg (by omega)]
  refine (if_pos ⟨trivial, rfl⟩).trans ?_
  rw [List.take_of_length_le (by omega), e]
  rfl
theorem build_pair {G L} {x y : AV} (hL : L[3]? = some none) (hd : AV.lf.lfs [x, y] = false) (hx : x.cellsOf = some [x]) (hy : y.cellsOf = some [y]) :
    prim ⟨G, L⟩ (.buildSlice 3 true 2 1 [.slice none 0 0, .slice none 0 0] [(0, 2)]) [.agg [x, y]] = some (.own (.l 3) 2 0 1 2 (some 1), ⟨G, L.set 3 (some { dBlk [x, y] false false with data := false })⟩) := by
  rw [px_buildSlice]
  simp only [Hp.mayFreeze, if_true, Hp.freezes, Hp.freeze, Option.bind_some, Option.map_some]
  have e : fills [(0, 2)] ((List.replicate 1 ([Value.slice none 0 0, Value.slice none 0 0].map AV.v)).flatten) [.agg [x, y]] = some [x, y] := rfl
  rw [e]
  simp only [Option.bind_some]
  refine (if_pos rfl).trans ?_
  simp only [Hp.new, hL, Option.map_some, newBlk, hd]
  rfl
end Go.AM
namespace Go.AM
variable {prog : String → Option IFn}
theorem is_scopes {cs : List AV} (h : (Ty.slice scopeTy).Is cs) : ∃ a, ∃ xs : List ScopeV, cs = [a] ∧ (∀ h, TView scEnc h a xs) ∧ xs.length ≤ maxLen := by
  rcases h with rfl | ⟨es, rfl, h, hl⟩
  · exact ⟨_, [], rfl, fun h => view_nil' (by decide), by simp⟩
  · obtain ⟨xs, hb⟩ : ∃ xs : List ScopeV, es = xs.map scEnc.E := by
      clear hl
      induction es with
      | nil => exact ⟨[], rfl⟩
      | cons e es ih =>
        obtain ⟨xs, hb⟩ := ih fun x hx => h x (by simp [hx])
        obtain ⟨s, he⟩ := is_scope (h e (by simp))
        exact ⟨s :: xs, by rw [hb, he]; rfl⟩
    subst hb
    have e : (xs.map scEnc.E).flatten = scEnc.row xs := by rw [Enc.row, List.flatMap_def]
    refine ⟨_, xs, rfl, fun h => ?_, by simpa using hl⟩
    rw [e, List.length_map]
    exact view_ro (by decide) (scEnc.row_len xs)
theorem idx_same (xs : List ItemD) (ss : List ScopeV) : ((xs.map fun x => numO (whoK x ss ss.length)).map (·.l)) = (rrows xs ss xs.length).map (·.l) := by
  unfold rrows
  rw [List.take_length, List.map_map, List.map_map]
  rfl
theorem items_len (xs : List ItemD) : (itemsP xs).length = 8 := by simp [itemsP]
theorem few_parts {ss : List ScopeV} (h : fewOK ss = true) : ss.length ≤ 20 ∧ ∀ s ∈ ss, s.n.length ≤ 40 ∧ s.c.length ≤ 40 := by
  unfold fewOK at h
  simp only [Bool.and_eq_true, decide_eq_true_eq, List.all_eq_true] at h
  exact h
theorem who_small {x : ItemD} {ss : List ScopeV} (h : ss.length ≤ 1000) : (whoK x ss ss.length).length ≤ 2 ^ 40 := by
  have := whoK_len (x := x) (ss := ss) (k := ss.length)
  omega
set_option maxHeartbeats 4000000 in
theorem ScopeNear_law (H : NearLib prog) (hp : prog "haberdash/haberdashlaw11.ScopeNear" = some f_law11_ScopeNear) {as} (h : IsAll [(.slice scopeTy), (.slice itemTy)] as) :
    ∃ G2, Ev prog (.call "haberdash/haberdashlaw11.ScopeNear" as []) (.ret (.v (.bool true)) G2) := by
  rcases as with _ | ⟨a0, _ | ⟨a1, _ | _⟩⟩ <;> try (simp [IsAll] at h; done)
  obtain ⟨⟨c0', h0, rfl⟩, ⟨c1', h1, rfl⟩, _⟩ := h
  obtain ⟨a, ss, rfl, va, la⟩ := is_scopes h0
  obtain ⟨b, xs, rfl, vb, lb⟩ := is_items h1
  refine ⟨[], call_of_fin hp ?_⟩
  have na : ∀ ks, noRef ks a = true := fun ks => noRef_out (View.out (va ⟨[], []⟩))
  have nb : ∀ ks, noRef ks b = true := fun ks => noRef_out (View.out (vb ⟨[], []⟩))
  have aw : ∀ G, Ev prog (.call "haberdash/haberdashlaw11.awake" [] G) (.ret (.v (.bool true)) G) := fun G => awake11_spec H.toScope11
  simp only [f_law11_ScopeNear_B, enter, List.length_cons, List.length_nil, List.replicate, Nat.reduceAdd, Nat.reduceSub, List.cons_append, List.nil_append, Ty.arg]
  simp (disch := first | (simp only [DS, reduceCtorEq]; done) | omega) only [WS, St.guard, St.put, evalO, reduceCtorEq, reduceIte, Nat.reduceAdd, Nat.reduceEqDiff, new_s, virtBlk_eq, box_s, box_vs, box_vi, box_vb, px_load_l, px_load_o, loadB_s, storeX, storeB_s, alloc_s, lay, whole, Option.join_some, List.drop_zero, List.drop_succ_cons, List.take_succ_cons, List.take_zero, List.drop_nil, List.nil_append, List.cons_append, Nat.reduceLeDiff, Nat.zero_add, and_self, and_true, cells_int, cells_bool, cells_str, cells_string, cells_agg, cells_own, cells_ro, cells_ptr, cells_nil, AV.lf.lfs, AV.lf, px_build, fills, build_string, build_str, build_int, WDR_some, Nat.reduceLeDiff, Nat.le_refl, Bool.and_self]
  refine (WP_p (x := .bool (fewOK ss)) (by exact few_spec H.few ((va _).into) la) (by unfold Good; dsimp only; repeat (first | exact trivial | rw [goodN] | refine ⟨dBlk_good, ?_⟩ | refine goodD (by assumption) ?_ | refine ⟨sBlk_good (by first | rfl | assumption | (simp [AV.labs.labss, AV.labs, refLt]; done)), ?_⟩))).2 ?_
  cases hfew : fewOK ss
  · simp (disch := first | (simp only [DS, reduceCtorEq]; done) | omega) only [WS, St.guard, St.put, evalO, reduceCtorEq, reduceIte, Nat.reduceAdd, Nat.reduceEqDiff, new_s, virtBlk_eq, box_s, box_vs, box_vi, box_vb, px_load_l, px_load_o, loadB_s, storeX, storeB_s, alloc_s, lay, whole, Option.join_some, List.drop_zero, List.drop_succ_cons, List.take_succ_cons, List.take_zero, List.drop_nil, List.nil_append, List.cons_append, Nat.reduceLeDiff, Nat.zero_add, and_self, and_true, cells_int, cells_bool, cells_str, cells_string, cells_agg, cells_own, cells_ro, cells_ptr, cells_nil, AV.lf.lfs, AV.lf, px_build, fills, build_string, build_str, build_int, WDR_some, Nat.reduceLeDiff, Nat.le_refl, Bool.and_self]
    refine (WP_p (x := .bool true) (by exact aw _) (by unfold Good; dsimp only; repeat (first | exact trivial | rw [goodN] | refine ⟨dBlk_good, ?_⟩ | refine goodD (by assumption) ?_ | refine ⟨sBlk_good (by first | rfl | assumption | (simp [AV.labs.labss, AV.labs, refLt]; done)), ?_⟩))).2 ?_
    simp (disch := first | (simp only [DS, reduceCtorEq]; done) | omega) only [WS, St.guard, St.put, evalO, reduceCtorEq, reduceIte, Nat.reduceAdd, Nat.reduceEqDiff, fin_tmp, leave_v]
    simp
  obtain ⟨hs20, hs40⟩ := few_parts hfew
  simp (disch := first | (simp only [DS, reduceCtorEq]; done) | omega) only [WS, St.guard, St.put, evalO, reduceCtorEq, reduceIte, Nat.reduceAdd, Nat.reduceEqDiff, new_s, virtBlk_eq, box_s, box_vs, box_vi, box_vb, px_load_l, px_load_o, loadB_s, storeX, storeB_s, alloc_s, lay, whole, Option.join_some, List.drop_zero, List.drop_succ_cons, List.take_succ_cons, List.take_zero, List.drop_nil, List.nil_append, List.cons_append, Nat.reduceLeDiff, Nat.zero_add, and_self, and_true, cells_int, cells_bool, cells_str, cells_string, cells_agg, cells_own, cells_ro, cells_ptr, cells_nil, AV.lf.lfs, AV.lf, px_build, fills, build_string, build_str, build_int, WDR_some, Nat.reduceLeDiff, Nat.le_refl, Bool.and_self, (vb _).lenSlice]
  by_cases h40 : (xs.length : Int) > 40
  · simp (disch := first | (simp only [DS, reduceCtorEq]; done) | omega) only [WS, St.guard, St.put, evalO, reduceCtorEq, reduceIte, Nat.reduceAdd, Nat.reduceEqDiff, new_s, virtBlk_eq, box_s, box_vs, box_vi, box_vb, px_load_l, px_load_o, loadB_s, storeX, storeB_s, alloc_s, lay, whole, Option.join_some, List.drop_zero, List.drop_succ_cons, List.take_succ_cons, List.take_zero, List.drop_nil, List.nil_append, List.cons_append, Nat.reduceLeDiff, Nat.zero_add, and_self, and_true, cells_int, cells_bool, cells_str, cells_string, cells_agg, cells_own, cells_ro, cells_ptr, cells_nil, AV.lf.lfs, AV.lf, px_build, fills, build_string, build_str, build_int, WDR_some, Nat.reduceLeDiff, Nat.le_refl, Bool.and_self, h40, decide_true]
    refine (WP_p (x := .bool true) (by exact aw _) (by unfold Good; dsimp only; repeat (first | exact trivial | rw [goodN] | refine ⟨dBlk_good, ?_⟩ | refine goodD (by assumption) ?_ | refine ⟨sBlk_good (by first | rfl | assumption | (simp [AV.labs.labss, AV.labs, refLt]; done)), ?_⟩))).2 ?_
    simp (disch := first | (simp only [DS, reduceCtorEq]; done) | omega) only [WS, St.guard, St.put, evalO, reduceCtorEq, reduceIte, Nat.reduceAdd, Nat.reduceEqDiff, fin_tmp, leave_v]
    simp
  simp (disch := first | (simp only [DS, reduceCtorEq]; done) | omega) only [WS, St.guard, St.put, evalO, reduceCtorEq, reduceIte, Nat.reduceAdd, Nat.reduceEqDiff, new_s, virtBlk_eq, box_s, box_vs, box_vi, box_vb, px_load_l, px_load_o, loadB_s, storeX, storeB_s, alloc_s, lay, whole, Option.join_some, List.drop_zero, List.drop_succ_cons, List.take_succ_cons, List.take_zero, List.drop_nil, List.nil_append, List.cons_append, Nat.reduceLeDiff, Nat.zero_add, and_self, and_true, cells_int, cells_bool, cells_str, cells_string, cells_agg, cells_own, cells_ro, cells_ptr, cells_nil, AV.lf.lfs, AV.lf, px_build, fills, build_string, build_str, build_int, WDR_some, Nat.reduceLeDiff, Nat.le_refl, Bool.and_self, h40, decide_false]
  refine WC_count (fun k => ⟨f_law11_ScopeNear_H0 a b (.own (.l 0) ((pScs ss k).length * 2) 0 (pScs ss k).length 2 none) (.v (.int .i64 (k : Nat))), ⟨[], [some (dBlk (scEnc.row (pScs ss k)) true (decide (k = 0))), none, none, none, none, none, none, none, none, none]⟩⟩) ss.length ?_ (fun k hk => ?_) ?_
  · exact clear_fre (by simp only [clear_nil, List.foldl_cons, List.foldl_nil, Option.some.injEq, LS, reduceCtorEq, reduceIte, Nat.reduceAdd]; rfl) (by rfl) (by simp only [f_law11_ScopeNear_H0, List.all_cons, List.all_nil, noRef_v, noRef_dead, noRef_own, noRef_ptr, noRef_nil, Bool.and_true, Bool.true_and, Bool.and_self, List.contains_cons, List.contains_nil, Bool.or_false, Nat.reduceBEq, Bool.not_false, na, nb]) (by rfl)
  · have hlt' : (k : Int) < (ss.length : Int) := by omega
    obtain ⟨s, hsk⟩ : ∃ s, ss[k]? = some s := ⟨_, List.getElem?_eq_getElem hk⟩
    have hl := pScs_len (Nat.le_of_lt hk)
    have hl1 : (pScs ss (k + 1)).length = k + 1 := pScs_len (Nat.succ_le_of_lt hk)
    have ix : ∀ L, prim ⟨[], L⟩ (.indexAddr 2) [a, .v (.int .i64 (k : Nat))] = some (elemPtr a 2 k, ⟨[], L⟩) := fun L => (va ⟨[], L⟩).index hk
    have ld : ∀ L, prim ⟨[], L⟩ (.load 2 true) [elemPtr a 2 k] = some (.agg [s.a, s.b], ⟨[], L⟩) := fun L => (va ⟨[], L⟩).load hsk
    simp (disch := first | (simp only [DS, reduceCtorEq]; done) | omega) only [f_law11_ScopeNear_L0, f_law11_ScopeNear_H0, WS, St.guard, St.put, evalO, reduceCtorEq, reduceIte, Nat.reduceAdd, Nat.reduceEqDiff, new_s, virtBlk_eq, box_s, box_vs, box_vi, box_vb, px_load_l, px_load_o, loadB_s, storeX, storeB_s, alloc_s, lay, whole, Option.join_some, List.drop_zero, List.drop_succ_cons, List.take_succ_cons, List.take_zero, List.drop_nil, List.nil_append, List.cons_append, Nat.reduceLeDiff, Nat.zero_add, and_self, and_true, cells_int, cells_bool, cells_str, cells_string, cells_agg, cells_own, cells_ro, cells_ptr, cells_nil, AV.lf.lfs, AV.lf, px_build, fills, build_string, build_str, build_int, WDR_some, Nat.reduceLeDiff, Nat.le_refl, Bool.and_self, (va _).lenSlice, hlt', decide_true, ix, ld]
    refine WP_news (by exact Scope_spec H.play ((s.va _).into) ((s.vb _).into) s.ln s.lc) (data2 dBlk_l dBlk_l) rfl (by decide) rfl (by unfold Good; dsimp only; repeat (first | exact trivial | rw [goodN] | refine ⟨dBlk_good, ?_⟩ | refine goodD (by assumption) ?_ | refine ⟨sBlk_good (by first | rfl | assumption | (simp [AV.labs.labss, AV.labs, refLt]; done)), ?_⟩)) (by exact ren_pair) ?_
    simp (disch := first | (simp only [DS, reduceCtorEq]; done) | omega) only [WS, St.guard, St.put, evalO, reduceCtorEq, reduceIte, Nat.reduceAdd, Nat.reduceEqDiff, new_s, virtBlk_eq, box_s, box_vs, box_vi, box_vb, px_load_l, px_load_o, loadB_s, storeX, storeB_s, alloc_s, lay, whole, Option.join_some, List.drop_zero, List.drop_succ_cons, List.take_succ_cons, List.take_zero, List.drop_nil, List.nil_append, List.cons_append, Nat.reduceLeDiff, Nat.zero_add, and_self, and_true, cells_int, cells_bool, cells_str, cells_string, cells_agg, cells_own, cells_ro, cells_ptr, cells_nil, AV.lf.lfs, AV.lf, px_build, fills, build_string, build_str, build_int, WDR_some, Nat.reduceLeDiff, Nat.le_refl, Bool.and_self, putAll]
    refine (WR_eq (build_pair (x := .own (.l 2) (pSkus s.n).length 0 (pSkus s.n).length 1 none) (y := .own (.l 1) (pCats s.c).length 0 (pCats s.c).length 1 none) (by exact rfl) rfl rfl rfl)).2 ?_
    simp (disch := first | (simp only [DS, reduceCtorEq]; done) | omega) only [WS, St.guard, St.put, evalO, reduceCtorEq, reduceIte, Nat.reduceAdd, Nat.reduceEqDiff, new_s, virtBlk_eq, box_s, box_vs, box_vi, box_vb, px_load_l, px_load_o, loadB_s, storeX, storeB_s, alloc_s, lay, whole, Option.join_some, List.drop_zero, List.drop_succ_cons, List.take_succ_cons, List.take_zero, List.drop_nil, List.nil_append, List.cons_append, Nat.reduceLeDiff, Nat.zero_add, and_self, and_true, cells_int, cells_bool, cells_str, cells_string, cells_agg, cells_own, cells_ro, cells_ptr, cells_nil, AV.lf.lfs, AV.lf, px_build, fills, build_string, build_str, build_int, WDR_some, Nat.reduceLeDiff, Nat.le_refl, Bool.and_self]
    refine (WR_eq (app_scope (s := s) (xs := pScs ss k) (v := decide (k = 0)) (by rw [hl]; unfold room; omega))).2 ?_
    rw [← pScs_succ hsk, show (pScs ss k).length + 1 = (pScs ss (k + 1)).length by rw [hl, hl1]]
    have hvp : ∀ T, TView scEnc ⟨[], some (dBlk (scEnc.row (pScs ss (k + 1))) true false) :: T⟩ (.own (.l 0) ((pScs ss (k + 1)).length * 2) 0 (pScs ss (k + 1)).length 2 none) (pScs ss (k + 1)) := fun T => own_T (T := scEnc) (j := 0) rfl (by simp)
    have hpk : (pScs ss (k + 1))[k]? = some (pSc s) := by rw [pScs_succ hsk, List.getElem?_append_right (by omega), hl, Nat.sub_self]; rfl
    have ix2 : ∀ T, prim ⟨[], some (dBlk (scEnc.row (pScs ss (k + 1))) true false) :: T⟩ (.indexAddr 2) [.own (.l 0) ((pScs ss (k + 1)).length * 2) 0 (pScs ss (k + 1)).length 2 none, .v (.int .i64 (k : Nat))] = some (.ptr (.l 0) ((pScs ss (k + 1)).length * 2) (0 + k * 2), ⟨[], some (dBlk (scEnc.row (pScs ss (k + 1))) true false) :: T⟩) := fun T => (hvp T).index (by omega)
    have ld2 : ∀ T, prim ⟨[], some (dBlk (scEnc.row (pScs ss (k + 1))) true false) :: T⟩ (.load 2 true) [.ptr (.l 0) ((pScs ss (k + 1)).length * 2) (0 + k * 2)] = some (.agg [(pSc s).a, (pSc s).b], ⟨[], some (dBlk (scEnc.row (pScs ss (k + 1))) true false) :: T⟩) := fun T => (hvp T).load hpk
    generalize hps : pScs ss (k + 1) = ps at *
    simp (disch := first | (simp only [DS, reduceCtorEq]; done) | omega) only [WS, St.guard, St.put, evalO, reduceCtorEq, reduceIte, Nat.reduceAdd, Nat.reduceEqDiff, ix2]
    simp (disch := first | (simp only [DS, reduceCtorEq]; done) | omega) only [WS, St.guard, St.put, evalO, reduceCtorEq, reduceIte, Nat.reduceAdd, Nat.reduceEqDiff, ld2]
    have hgood : ∀ (B0 B1 B2 B3 : Blk), B0.labs = [] → B1.labs = [] → B2.labs = [] → B3.labs.all (refLt 0 3) = true → Good ⟨[], [some B0, some B1, some B2, some B3, none, none, none, none, none, none]⟩ := fun B0 B1 B2 B3 h0 h1 h2 h3 => by
      refine goodL_opt (fun B h => by cases h; rw [h0]; rfl) (goodL_opt (fun B h => by cases h; rw [h1]; rfl) (goodL_opt (fun B h => by cases h; rw [h2]; rfl) (goodL_opt (fun B h => by cases h; exact h3) trivial)))
    refine (WP_p (x := .bool (scopeOK (pSc s).n (pSc s).c)) (by exact Right_spec H.toScopeLib (((pSc s).va _).into) (((pSc s).vb _).into) (pSc s).ln (pSc s).lc) (hgood _ _ _ _ rfl rfl rfl rfl)).2 ?_
    rw [pSc_ok]
    simp (disch := first | (simp only [DS, reduceCtorEq]; done) | omega) only [WS, St.guard, St.put, evalO, reduceCtorEq, reduceIte, Nat.reduceAdd, Nat.reduceEqDiff, vBin_add_i64]
    exact clear_fre (by simp only [clear_nil, List.foldl_cons, List.foldl_nil, Option.some.injEq, LS, reduceCtorEq, reduceIte, Nat.reduceAdd]; rfl) (by rfl) (by simp only [f_law11_ScopeNear_H0, List.all_cons, List.all_nil, noRef_v, noRef_dead, noRef_own, noRef_ptr, noRef_nil, Bool.and_true, Bool.true_and, Bool.and_self, List.contains_cons, List.contains_nil, Bool.or_false, Nat.reduceBEq, Bool.not_false, na, nb]) (by rfl)
  · simp (disch := first | (simp only [DS, reduceCtorEq]; done) | omega) only [f_law11_ScopeNear_L0, f_law11_ScopeNear_H0, WS, St.guard, St.put, evalO, reduceCtorEq, reduceIte, Nat.reduceAdd, Nat.reduceEqDiff, new_s, virtBlk_eq, box_s, box_vs, box_vi, box_vb, px_load_l, px_load_o, loadB_s, storeX, storeB_s, alloc_s, lay, whole, Option.join_some, List.drop_zero, List.drop_succ_cons, List.take_succ_cons, List.take_zero, List.drop_nil, List.nil_append, List.cons_append, Nat.reduceLeDiff, Nat.zero_add, and_self, and_true, cells_int, cells_bool, cells_str, cells_string, cells_agg, cells_own, cells_ro, cells_ptr, cells_nil, AV.lf.lfs, AV.lf, px_build, fills, build_string, build_str, build_int, WDR_some, Nat.reduceLeDiff, Nat.le_refl, Bool.and_self, (va _).lenSlice, decide_false]
    obtain ⟨ps, hps⟩ : ∃ ps, ps = pScs ss ss.length := ⟨_, rfl⟩
    have hpl : ps.length = ss.length := by rw [hps]; exact pScs_len (Nat.le_refl _)
    have hpn : ∀ s ∈ ps, s.n.length ≤ 1000000 ∧ s.c.length ≤ 1000000 := fun s hs => by rw [hps] at hs; exact pScs_mem hs
    rw [← hps]
    clear hps
    refine WP_news (by exact Items_spec H.play.toPlayBase H.items H.mod64 ((vb _).into)) (data1 dBlk_l) rfl (by decide) rfl (by unfold Good; dsimp only; repeat (first | exact trivial | rw [goodN] | refine ⟨dBlk_good, ?_⟩ | refine goodD (by assumption) ?_ | refine ⟨sBlk_good (by first | rfl | assumption | (simp [AV.labs.labss, AV.labs, refLt]; done)), ?_⟩)) (by exact ren_own1) ?_
    simp (disch := first | (simp only [DS, reduceCtorEq]; done) | omega) only [WS, St.guard, St.put, evalO, reduceCtorEq, reduceIte, Nat.reduceAdd, Nat.reduceEqDiff, new_s, virtBlk_eq, box_s, box_vs, box_vi, box_vb, px_load_l, px_load_o, loadB_s, storeX, storeB_s, alloc_s, lay, whole, Option.join_some, List.drop_zero, List.drop_succ_cons, List.take_succ_cons, List.take_zero, List.drop_nil, List.nil_append, List.cons_append, Nat.reduceLeDiff, Nat.zero_add, and_self, and_true, cells_int, cells_bool, cells_str, cells_string, cells_agg, cells_own, cells_ro, cells_ptr, cells_nil, AV.lf.lfs, AV.lf, px_build, fills, build_string, build_str, build_int, WDR_some, Nat.reduceLeDiff, Nat.le_refl, Bool.and_self, putAll]
    have hil := items_len xs
    generalize itemsP xs = is at *
    refine (WP_p (x := .bool true) (by exact aw _) (by unfold Good; dsimp only; repeat (first | exact trivial | rw [goodN] | refine ⟨dBlk_good, ?_⟩ | refine goodD (by assumption) ?_ | refine ⟨sBlk_good (by first | rfl | assumption | (simp [AV.labs.labss, AV.labs, refLt]; done)), ?_⟩))).2 ?_
    simp (disch := first | (simp only [DS, reduceCtorEq]; done) | omega) only [WS, St.guard, St.put, evalO, reduceCtorEq, reduceIte, Nat.reduceAdd, Nat.reduceEqDiff, new_s, virtBlk_eq, box_s, box_vs, box_vi, box_vb, px_load_l, px_load_o, loadB_s, storeX, storeB_s, alloc_s, lay, whole, Option.join_some, List.drop_zero, List.drop_succ_cons, List.take_succ_cons, List.take_zero, List.drop_nil, List.nil_append, List.cons_append, Nat.reduceLeDiff, Nat.zero_add, and_self, and_true, cells_int, cells_bool, cells_str, cells_string, cells_agg, cells_own, cells_ro, cells_ptr, cells_nil, AV.lf.lfs, AV.lf, px_build, fills, build_string, build_str, build_int, WDR_some, Nat.reduceLeDiff, Nat.le_refl, Bool.and_self]
    have hvi : ∀ A B C D E T, TView itEnc ⟨[], A :: B :: C :: D :: E :: some (dBlk (itEnc.row is) true false) :: T⟩ (.own (.l 5) 32 0 8 4 none) is := fun A B C D E T => by
      have := own_T (T := itEnc) (G := []) (L := A :: B :: C :: D :: E :: some (dBlk (itEnc.row is) true false) :: T) (j := 5) (xs := is) (o := true) (v := false) (cap := none) rfl (by simp)
      rw [hil] at this; exact this
    have hvs : ∀ T, TView scEnc ⟨[], some (dBlk (scEnc.row ps) true (decide (ss.length = 0))) :: T⟩ (.own (.l 0) (ps.length * 2) 0 ps.length 2 none) ps := fun T => own_T (T := scEnc) (j := 0) rfl (by simp)
    refine WP_news (Bs := [some (idxB is ps)]) (by exact xIdx_run H ((hvi _ _ _ _ _ _).into) ((hvs _).into) (by omega) (by omega) hpn) (data1 dBlk_l) rfl (by decide) rfl (by unfold Good; dsimp only; repeat (first | exact trivial | rw [goodN] | refine ⟨dBlk_good, ?_⟩ | refine goodD (by assumption) ?_ | refine ⟨sBlk_good (by first | rfl | assumption | (simp [AV.labs.labss, AV.labs, refLt]; done)), ?_⟩)) (by exact ren_own1) ?_
    simp (disch := first | (simp only [DS, reduceCtorEq]; done) | omega) only [WS, St.guard, St.put, evalO, reduceCtorEq, reduceIte, Nat.reduceAdd, Nat.reduceEqDiff, new_s, virtBlk_eq, box_s, box_vs, box_vi, box_vb, px_load_l, px_load_o, loadB_s, storeX, storeB_s, alloc_s, lay, whole, Option.join_some, List.drop_zero, List.drop_succ_cons, List.take_succ_cons, List.take_zero, List.drop_nil, List.nil_append, List.cons_append, Nat.reduceLeDiff, Nat.zero_add, and_self, and_true, cells_int, cells_bool, cells_str, cells_string, cells_agg, cells_own, cells_ro, cells_ptr, cells_nil, AV.lf.lfs, AV.lf, px_build, fills, build_string, build_str, build_int, WDR_some, Nat.reduceLeDiff, Nat.le_refl, Bool.and_self, putAll]
    refine WP_news (by exact refIndex_spec H ((hvi _ _ _ _ _ _).into) ((hvs _).into) (by omega) (by omega)) (data1 dBlk_l) rfl (by decide) rfl (by unfold Good; dsimp only; repeat (first | exact trivial | rw [goodN] | refine ⟨dBlk_good, ?_⟩ | refine goodD (by assumption) ?_ | refine ⟨sBlk_good (by first | rfl | assumption | (simp [AV.labs.labss, AV.labs, refLt]; done)), ?_⟩)) (by exact ren_own1) ?_
    simp (disch := first | (simp only [DS, reduceCtorEq]; done) | omega) only [WS, St.guard, St.put, evalO, reduceCtorEq, reduceIte, Nat.reduceAdd, Nat.reduceEqDiff, new_s, virtBlk_eq, box_s, box_vs, box_vi, box_vb, px_load_l, px_load_o, loadB_s, storeX, storeB_s, alloc_s, lay, whole, Option.join_some, List.drop_zero, List.drop_succ_cons, List.take_succ_cons, List.take_zero, List.drop_nil, List.nil_append, List.cons_append, Nat.reduceLeDiff, Nat.zero_add, and_self, and_true, cells_int, cells_bool, cells_str, cells_string, cells_agg, cells_own, cells_ro, cells_ptr, cells_nil, AV.lf.lfs, AV.lf, px_build, fills, build_string, build_str, build_int, WDR_some, Nat.reduceLeDiff, Nat.le_refl, Bool.and_self, putAll]
    have rl : (rrows is ps is.length).length = is.length := rrows_len (Nat.le_refl _)
    have hw1 : ∀ A B C D E F T, TView numE ⟨[], A :: B :: C :: D :: E :: F :: some (idxB is ps) :: T⟩ (.own (.l 6) is.length 0 is.length 1 (some is.length)) (is.map fun x => numO (whoK x ps ps.length)) := fun A B C D E F T => by
      have := own_T (T := numE) (G := []) (L := A :: B :: C :: D :: E :: F :: some (idxB is ps) :: T) (j := 6) (xs := is.map fun x => numO (whoK x ps ps.length)) (o := false) (v := false) (cap := some is.length) rfl (by simp)
      rw [List.length_map, show numE.esz = 1 from rfl, Nat.mul_one] at this; exact this
    have hw2 : ∀ A B C D E F X T, TView numE ⟨[], A :: B :: C :: D :: E :: F :: X :: some (dBlk (numE.row (rrows is ps is.length)) true (decide (is.length = 0))) :: T⟩ (.own (.l 7) (is.length * 1) 0 is.length 1 none) (rrows is ps is.length) := fun A B C D E F X T => by
      have := own_T (T := numE) (G := []) (L := A :: B :: C :: D :: E :: F :: X :: some (dBlk (numE.row (rrows is ps is.length)) true (decide (is.length = 0))) :: T) (j := 7) (xs := rrows is ps is.length) (o := true) (v := decide (is.length = 0)) (cap := none) rfl (by simp)
      rw [rl, show numE.esz = 1 from rfl] at this; exact this
    refine (WP_p (x := .bool true) (by
      exact lists_spec H ((hw1 _ _ _ _ _ _ _).into) ((hw2 _ _ _ _ _ _ _ _).into) (idx_same is ps) (by rw [List.length_map]; omega) (fun z hz => by obtain ⟨x, _, rfl⟩ := List.mem_map.1 hz; exact who_small (by omega))) (by unfold Good; dsimp only; repeat (first | exact trivial | rw [goodN] | refine ⟨dBlk_good, ?_⟩ | refine goodD (by assumption) ?_ | refine ⟨sBlk_good (by first | rfl | assumption | (simp [AV.labs.labss, AV.labs, refLt]; done)), ?_⟩))).2 ?_
    simp (disch := first | (simp only [DS, reduceCtorEq]; done) | omega) only [WS, St.guard, St.put, evalO, reduceCtorEq, reduceIte, Nat.reduceAdd, Nat.reduceEqDiff, new_s, virtBlk_eq, box_s, box_vs, box_vi, box_vb, px_load_l, px_load_o, loadB_s, storeX, storeB_s, alloc_s, lay, whole, Option.join_some, List.drop_zero, List.drop_succ_cons, List.take_succ_cons, List.take_zero, List.drop_nil, List.nil_append, List.cons_append, Nat.reduceLeDiff, Nat.zero_add, and_self, and_true, cells_int, cells_bool, cells_str, cells_string, cells_agg, cells_own, cells_ro, cells_ptr, cells_nil, AV.lf.lfs, AV.lf, px_build, fills, build_string, build_str, build_int, WDR_some, Nat.reduceLeDiff, Nat.le_refl, Bool.and_self]
    refine WP_news (Bs := [some (idxB xs ss)]) (by exact xIdx_run H ((vb _).into) ((va _).into) (by omega) (by omega) (fun s hs => by have := hs40 s hs; omega)) (data1 dBlk_l) rfl (by decide) rfl (by unfold Good; dsimp only; repeat (first | exact trivial | rw [goodN] | refine ⟨dBlk_good, ?_⟩ | refine goodD (by assumption) ?_ | refine ⟨sBlk_good (by first | rfl | assumption | (simp [AV.labs.labss, AV.labs, refLt]; done)), ?_⟩)) (by exact ren_own1) ?_
    simp (disch := first | (simp only [DS, reduceCtorEq]; done) | omega) only [WS, St.guard, St.put, evalO, reduceCtorEq, reduceIte, Nat.reduceAdd, Nat.reduceEqDiff, new_s, virtBlk_eq, box_s, box_vs, box_vi, box_vb, px_load_l, px_load_o, loadB_s, storeX, storeB_s, alloc_s, lay, whole, Option.join_some, List.drop_zero, List.drop_succ_cons, List.take_succ_cons, List.take_zero, List.drop_nil, List.nil_append, List.cons_append, Nat.reduceLeDiff, Nat.zero_add, and_self, and_true, cells_int, cells_bool, cells_str, cells_string, cells_agg, cells_own, cells_ro, cells_ptr, cells_nil, AV.lf.lfs, AV.lf, px_build, fills, build_string, build_str, build_int, WDR_some, Nat.reduceLeDiff, Nat.le_refl, Bool.and_self, putAll]
    refine WP_news (by exact refIndex_spec H ((vb _).into) ((va _).into) (by omega) (by omega)) (data1 dBlk_l) rfl (by decide) rfl (by unfold Good; dsimp only; repeat (first | exact trivial | rw [goodN] | refine ⟨dBlk_good, ?_⟩ | refine goodD (by assumption) ?_ | refine ⟨sBlk_good (by first | rfl | assumption | (simp [AV.labs.labss, AV.labs, refLt]; done)), ?_⟩)) (by exact ren_own1) ?_
    simp (disch := first | (simp only [DS, reduceCtorEq]; done) | omega) only [WS, St.guard, St.put, evalO, reduceCtorEq, reduceIte, Nat.reduceAdd, Nat.reduceEqDiff, new_s, virtBlk_eq, box_s, box_vs, box_vi, box_vb, px_load_l, px_load_o, loadB_s, storeX, storeB_s, alloc_s, lay, whole, Option.join_some, List.drop_zero, List.drop_succ_cons, List.take_succ_cons, List.take_zero, List.drop_nil, List.nil_append, List.cons_append, Nat.reduceLeDiff, Nat.zero_add, and_self, and_true, cells_int, cells_bool, cells_str, cells_string, cells_agg, cells_own, cells_ro, cells_ptr, cells_nil, AV.lf.lfs, AV.lf, px_build, fills, build_string, build_str, build_int, WDR_some, Nat.reduceLeDiff, Nat.le_refl, Bool.and_self, putAll]
    have rl2 : (rrows xs ss xs.length).length = xs.length := rrows_len (Nat.le_refl _)
    have hw3 : ∀ A B C D E F X Y T, TView numE ⟨[], A :: B :: C :: D :: E :: F :: X :: Y :: some (idxB xs ss) :: T⟩ (.own (.l 8) xs.length 0 xs.length 1 (some xs.length)) (xs.map fun x => numO (whoK x ss ss.length)) := fun A B C D E F X Y T => by
      have := own_T (T := numE) (G := []) (L := A :: B :: C :: D :: E :: F :: X :: Y :: some (idxB xs ss) :: T) (j := 8) (xs := xs.map fun x => numO (whoK x ss ss.length)) (o := false) (v := false) (cap := some xs.length) rfl (by simp)
      rw [List.length_map, show numE.esz = 1 from rfl, Nat.mul_one] at this; exact this
    have hw4 : ∀ A B C D E F X Y Z T, TView numE ⟨[], A :: B :: C :: D :: E :: F :: X :: Y :: Z :: some (dBlk (numE.row (rrows xs ss xs.length)) true (decide (xs.length = 0))) :: T⟩ (.own (.l 9) (xs.length * 1) 0 xs.length 1 none) (rrows xs ss xs.length) := fun A B C D E F X Y Z T => by
      have := own_T (T := numE) (G := []) (L := A :: B :: C :: D :: E :: F :: X :: Y :: Z :: some (dBlk (numE.row (rrows xs ss xs.length)) true (decide (xs.length = 0))) :: T) (j := 9) (xs := rrows xs ss xs.length) (o := true) (v := decide (xs.length = 0)) (cap := none) rfl (by simp)
      rw [rl2, show numE.esz = 1 from rfl] at this; exact this
    refine (WP_p (x := .bool true) (by
      exact lists_spec H ((hw3 _ _ _ _ _ _ _ _ _).into) ((hw4 _ _ _ _ _ _ _ _ _ _).into) (idx_same xs ss) (by rw [List.length_map]; omega) (fun z hz => by obtain ⟨x, _, rfl⟩ := List.mem_map.1 hz; exact who_small (by omega))) (by unfold Good; dsimp only; repeat (first | exact trivial | rw [goodN] | refine ⟨dBlk_good, ?_⟩ | refine goodD (by assumption) ?_ | refine ⟨sBlk_good (by first | rfl | assumption | (simp [AV.labs.labss, AV.labs, refLt]; done)), ?_⟩))).2 ?_
    simp (disch := first | (simp only [DS, reduceCtorEq]; done) | omega) only [WS, St.guard, St.put, evalO, reduceCtorEq, reduceIte, Nat.reduceAdd, Nat.reduceEqDiff, new_s, virtBlk_eq, box_s, box_vs, box_vi, box_vb, px_load_l, px_load_o, loadB_s, storeX, storeB_s, alloc_s, lay, whole, Option.join_some, List.drop_zero, List.drop_succ_cons, List.take_succ_cons, List.take_zero, List.drop_nil, List.nil_append, List.cons_append, Nat.reduceLeDiff, Nat.zero_add, and_self, and_true, cells_int, cells_bool, cells_str, cells_string, cells_agg, cells_own, cells_ro, cells_ptr, cells_nil, AV.lf.lfs, AV.lf, px_build, fills, build_string, build_str, build_int, WDR_some, Nat.reduceLeDiff, Nat.le_refl, Bool.and_self, fin_tmp, leave_v]
    simp
end Go.AM
