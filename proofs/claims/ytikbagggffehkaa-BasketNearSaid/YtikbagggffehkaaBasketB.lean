import Derived.Test.YtikbagggffehkaaBasketA
set_option linter.unusedVariables false
set_option linter.unusedSimpArgs false
namespace Go.AM
variable {prog : String → Option IFn}
def LAns {α : Type} (T : Enc α) (us : List α) (G : List (Option Blk)) (r : AV) (G2 : List (Option Blk)) : Prop :=
  (us = [] ∧ r = .v (.slice none 0 0) ∧ G2 = G) ∨ (∃ v, r = .own (.o G.length) (us.length * T.esz) 0 us.length T.esz none ∧ G2 = G ++ [some (dBlk (T.row us) true v)])
theorem op_list {α : Type} {T : Enc α} {us : List α} {f args} {site : Nat} {G L : List (Option Blk)} {r G2} (he : Ev prog (.call f (args.map (AV.ren (up G.length))) (⟨G, L⟩ : Hp).into) (.ret r G2)) (ha : LAns T us (⟨G, L⟩ : Hp).into r G2)
    (hL : L[site]? = some none) (hg : Good ⟨G, L⟩) : ∃ u B, Ev prog (.op (.call f [site]) args ⟨G, L⟩) (.val u ⟨G, L.set site B⟩) ∧ (∀ b, B = some b → b.labs = []) ∧ (∀ L', L'[site]? = some B → TView T ⟨G, L'⟩ u us) ∧ (∀ ks, ks.contains site = false → noRef ks u = true) := by
  have hfr : [site].all (free L) = true := by simp [free_of_get hL]
  rcases ha with ⟨rfl, rfl, rfl⟩ | ⟨v, rfl, rfl⟩
  · refine ⟨.v (.slice none 0 0), none, ?_, by simp, fun L' _ => view_nil' T.pos, fun ks h => rfl⟩
    have := op_none (h := ⟨G, L⟩) (sites := [site]) (xs := args) he (by simp) hfr hg
    rw [show L.set site none = L from by
      apply List.ext_getElem?
      intro k
      rw [List.getElem?_set]
      by_cases hk : site = k
      · subst hk; rw [if_pos rfl, if_pos (lt_of_get hL), hL]
      · rw [if_neg hk]]
    exact this
  · refine ⟨.own (.l site) (us.length * T.esz) 0 us.length T.esz none, some (dBlk (T.row us) true v), ?_, dBlk_l, fun L' h => own_T h (by simp), fun ks h => by rw [noRef_own, h]; rfl⟩
    exact op_news (h := ⟨G, L⟩) (Bs := [some (dBlk (T.row us) true v)]) he (data1 dBlk_l) rfl (by simp) hfr hg ren_own1
structure UnitD where
  line : Int
  net : Int
  opn : Bool
instance instDecUnitD : DecidableEq UnitD := fun a b =>
  if h : a.line = b.line ∧ (a.net = b.net ∧ a.opn = b.opn) then isTrue (by cases a; cases b; simp only at h; obtain ⟨rfl, rfl, rfl⟩ := h; rfl)
  else isFalse (by rintro rfl; exact h ⟨rfl, rfl, rfl⟩)
def UnitD.cells (x : UnitD) : List AV := [.v (.int .i64 x.line), .v (.int .i64 x.net), .v (.bool x.opn)]
def uE : Enc UnitD := ⟨UnitD.cells, 3, true, fun _ => rfl, by omega, .inl rfl, fun _ => rfl, fun h => by cases h⟩
theorem uE_av {x : UnitD} : uE.av x = .agg x.cells := rfl
theorem uc3 {x : UnitD} : x.cells.length = 3 := rfl
theorem ut3 {x : UnitD} : List.take 3 x.cells = x.cells := rfl
def unitsT : Nat → List LineD → List UnitD
  | _, [] => []
  | i, x :: xs => List.replicate x.qty.toNat ⟨i, x.price, true⟩ ++ unitsT (i + 1) xs
def unitsL (xs : List LineD) : List UnitD := if mayL xs then unitsT 0 xs else []
theorem xUnits_row : ∀ {xs : List LineD} {i : Nat}, xUnits i (lq xs) = uE.row (unitsT i xs)
  | [], i => rfl
  | x :: xs, i => by
    show (List.replicate x.qty.toNat (xUnit i x.price)).flatten ++ xUnits (i + 1) (lq xs) = uE.row (List.replicate x.qty.toNat ⟨i, x.price, true⟩ ++ unitsT (i + 1) xs)
    rw [uE.row_append, xUnits_row]
    congr 1
    unfold Enc.row
    rw [List.flatMap_def, List.map_replicate]; rfl
theorem xLines_row : ∀ {xs : List LineD}, xLines (lnE.row xs) = some (lq xs)
  | [] => rfl
  | x :: xs => by
    show xLines (.v (str x.sku) :: .v (.int .i64 x.qty) :: .v (.int .i64 x.price) :: lnE.row xs) = _
    show (xLines (lnE.row xs)).map ((x.qty, x.price) :: ·) = _
    rw [xLines_row]; rfl
theorem row_empty {us : List UnitD} : uE.row us = [] ↔ us = [] := by
  cases us with
  | nil => exact ⟨fun _ => rfl, fun _ => rfl⟩
  | cons u us => exact ⟨fun h => by simp [Enc.row, uE, UnitD.cells] at h, fun h => by cases h⟩
theorem Units_spec (hf : prog "haberdash/basket.Units" = some xFn) {G a} {xs : List LineD} (v : ∀ L, TView lnE ⟨G, L⟩ a xs) (hl : xs.length ≤ 1000000) :
    ∃ r G2, Ev prog (.call "haberdash/basket.Units" [a] G) (.ret r G2) ∧ LAns uE (unitsL xs) G r G2 := by
  have hv := v []
  have e : xCells "haberdash/basket.Units" [(xs.length, lnE.row xs)] = some (3, uE.row (unitsL xs)) := by
    unfold xCells
    rw [if_pos rfl]
    show (if (lnE.row xs).length = xs.length * 3 ∧ xs.length ≤ 1000000 then _ else _) = _
    rw [if_pos ⟨lnE.row_len xs, hl⟩, xLines_row, Option.map_some, mayL_x]
    unfold unitsL
    cases mayL xs
    · rfl
    · rw [if_pos rfl, if_pos rfl, xUnits_row]
  have hr : ∀ q : AV × List (Option Blk), (if uE.row (unitsL xs) = [] then some ((.v (.slice none 0 0), G) : AV × List (Option Blk))
      else some (.own (.o G.length) (uE.row (unitsL xs)).length 0 ((uE.row (unitsL xs)).length / 3) 3 none, G ++ [some { cells := uE.row (unitsL xs), opn := true, wr := true, data := true, virt := false }])) = some q → Ev prog (.call "haberdash/basket.Units" [a] G) (.ret q.1 q.2) := fun q hq => by
    refine .orc hf ?_
    unfold xRun
    have es : (⟨G, []⟩ : Hp).seesAll [a] = some [(xs.length, lnE.row xs)] := by
      show (lenOf a).bind _ = _
      rw [hv.hlen, Option.bind_some, hv.hsees]; rfl
    rw [es, Option.bind_some, e, Option.bind_some]
    exact hq
  by_cases h0 : unitsL xs = []
  · exact ⟨_, _, hr (.v (.slice none 0 0), G) (by rw [if_pos (row_empty.2 h0)]), .inl ⟨h0, rfl, rfl⟩⟩
  · refine ⟨_, _, hr _ (by rw [if_neg (fun h => h0 (row_empty.1 h))]), .inr ⟨false, ?_, rfl⟩⟩
    rw [uE.row_len]
    show AV.own _ _ 0 ((unitsL xs).length * 3 / 3) 3 none = _
    rw [Nat.mul_div_cancel _ (by omega)]; rfl
def uAt (xs : List LineD) (i : Nat) : List UnitD := match xs[i]? with
  | some x => List.replicate x.qty.toNat ⟨i, x.price, true⟩
  | none => []
def uTo (xs : List LineD) (i : Nat) : List UnitD := (List.range i).flatMap (uAt xs)
theorem uTo_succ {xs i} : uTo xs (i + 1) = uTo xs i ++ uAt xs i := by simp [uTo, List.range_succ]
theorem unitsT_eq : ∀ {ys xs : List LineD} {k : Nat}, (∀ j, ys[j]? = xs[k + j]?) → unitsT k ys = (List.range' k ys.length).flatMap (uAt xs)
  | [], xs, k, h => rfl
  | y :: ys, xs, k, h => by
    have h0 : xs[k]? = some y := (h 0).symm
    rw [List.length_cons, List.range'_succ, List.flatMap_cons]
    have : uAt xs k = List.replicate y.qty.toNat ⟨k, y.price, true⟩ := by unfold uAt; rw [h0]
    rw [this, ← unitsT_eq (ys := ys) (xs := xs) (k := k + 1) fun j => by
      have := h (j + 1)
      rw [List.getElem?_cons_succ] at this
      rw [this]; congr 1; omega]
    rfl
theorem uTo_all {xs : List LineD} : uTo xs xs.length = unitsT 0 xs := by
  rw [unitsT_eq (xs := xs) (fun j => by rw [Nat.zero_add]), uTo, List.range_eq_range']
theorem uTo_len {xs : List LineD} (ho : ∀ x ∈ xs, okL x = true) : ∀ {i : Nat}, i ≤ xs.length → ((uTo xs i).length : Int) = qs (xs.take i)
  | 0, _ => rfl
  | i + 1, h => by
    have hx : xs[i]? = some xs[i] := List.getElem?_eq_getElem (by omega)
    have hok := okL_iff.1 (ho _ (List.getElem_mem (show i < xs.length by omega)))
    have ih := uTo_len ho (i := i) (by omega)
    rw [uTo_succ, List.length_append, qs_take hx]
    have : (uAt xs i).length = (xs[i]).qty.toNat := by unfold uAt; rw [hx]; simp
    omega
def uRep (xs : List LineD) (i : Nat) (x : LineD) (j : Nat) : List UnitD := uTo xs i ++ List.replicate j ⟨i, x.price, true⟩
theorem uRep_zero {xs i x} : uRep xs i x 0 = uTo xs i := by simp [uRep]
theorem uRep_succ {xs i x j} : uRep xs i x (j + 1) = uRep xs i x j ++ [⟨(i : Int), x.price, true⟩] := by unfold uRep; rw [List.replicate_succ', List.append_assoc]
theorem uRep_len {xs i x j} : (uRep xs i x j).length = (uTo xs i).length + j := by simp [uRep]
theorem rUnits_spec (hf : prog "haberdash/haberdashref10.Units" = some f_ref10_Units) (hm : prog "haberdash/haberdashref10.may" = some f_ref10_may) (hin : prog "haberdash/haberdashref10.in" = some f_ref10_in) {G a} {xs : List LineD} (v : ∀ L, TView lnE ⟨G, L⟩ a xs) (hml : xs.length ≤ maxLen) :
    ∃ r G2, Ev prog (.call "haberdash/haberdashref10.Units" [a] G) (.ret r G2) ∧ LAns uE (unitsL xs) G r G2 := by
  have na : ∀ ks, noRef ks a = true := fun ks => noRef_out (View.out (v []))
  cases hb : mayL xs
  · refine ⟨_, _, call_of_fin hf (r := .v (.slice none 0 0)) (G2 := G) ?_, .inl ⟨by unfold unitsL; rw [hb]; rfl, rfl, rfl⟩⟩
    simp only [f_ref10_Units_B, enter, List.length_cons, List.length_nil, List.replicate, Nat.reduceAdd, Nat.reduceSub, List.cons_append, List.nil_append]
    simp (disch := first | (simp only [DS, reduceCtorEq]; done) | omega) only [WS, St.guard, St.put, evalO, reduceCtorEq, reduceIte, Nat.reduceAdd, Nat.reduceEqDiff, new_s, virtBlk_eq, box_s, box_vs, box_vi, box_vb, px_load_l, px_load_o, loadB_s, storeX, storeB_s, alloc_s, lay, whole, Option.join_some, List.drop_zero, List.drop_succ_cons, List.take_succ_cons, List.take_zero, List.drop_nil, List.nil_append, List.cons_append, Nat.reduceLeDiff, Nat.zero_add, and_self, and_true, cells_int, cells_bool, cells_str, cells_string, cells_agg, cells_own, cells_ro, cells_ptr, cells_nil, AV.lf.lfs, AV.lf, px_build, fills, build_string, build_str, build_int, WDR_some, Nat.reduceLeDiff, Nat.le_refl, Bool.and_self]
    refine (WP_p (x := .int .i64 (mayV xs)) (by exact rmay_spec hm hin ((v _).into) hml) (by unfold Good; dsimp only; repeat (first | exact trivial | rw [goodN] | refine ⟨dBlk_good, ?_⟩ | refine goodD (by assumption) ?_ | refine ⟨sBlk_good (by first | rfl | assumption | (simp [AV.labs.labss, AV.labs, refLt]; done)), ?_⟩))).2 ?_
    simp (disch := first | (simp only [DS, reduceCtorEq]; done) | omega) only [WS, St.guard, St.put, evalO, reduceCtorEq, reduceIte, Nat.reduceAdd, Nat.reduceEqDiff, new_s, virtBlk_eq, box_s, box_vs, box_vi, box_vb, px_load_l, px_load_o, loadB_s, storeX, storeB_s, alloc_s, lay, whole, Option.join_some, List.drop_zero, List.drop_succ_cons, List.take_succ_cons, List.take_zero, List.drop_nil, List.nil_append, List.cons_append, Nat.reduceLeDiff, Nat.zero_add, and_self, and_true, cells_int, cells_bool, cells_str, cells_string, cells_agg, cells_own, cells_ro, cells_ptr, cells_nil, AV.lf.lfs, AV.lf, px_build, fills, build_string, build_str, build_int, WDR_some, Nat.reduceLeDiff, Nat.le_refl, Bool.and_self, mayV_may, hb, fin_tmp, leave_v]
    simp
  obtain ⟨hl, ho, hq, _⟩ := mayL_iff.1 hb
  have eu : unitsL xs = uTo xs xs.length := by unfold unitsL; rw [hb, uTo_all]; rfl
  refine ⟨_, _, call_of_fin hf (r := .own (.o G.length) ((uTo xs xs.length).length * 3) 0 (uTo xs xs.length).length 3 none) (G2 := G ++ [some (dBlk (uE.row (uTo xs xs.length)) true (decide (uTo xs xs.length = [])))]) ?_, .inr ⟨decide (uTo xs xs.length = []), by rw [eu]; rfl, by rw [eu]⟩⟩
  simp only [f_ref10_Units_B, enter, List.length_cons, List.length_nil, List.replicate, Nat.reduceAdd, Nat.reduceSub, List.cons_append, List.nil_append]
  simp (disch := first | (simp only [DS, reduceCtorEq]; done) | omega) only [WS, St.guard, St.put, evalO, reduceCtorEq, reduceIte, Nat.reduceAdd, Nat.reduceEqDiff, new_s, virtBlk_eq, box_s, box_vs, box_vi, box_vb, px_load_l, px_load_o, loadB_s, storeX, storeB_s, alloc_s, lay, whole, Option.join_some, List.drop_zero, List.drop_succ_cons, List.take_succ_cons, List.take_zero, List.drop_nil, List.nil_append, List.cons_append, Nat.reduceLeDiff, Nat.zero_add, and_self, and_true, cells_int, cells_bool, cells_str, cells_string, cells_agg, cells_own, cells_ro, cells_ptr, cells_nil, AV.lf.lfs, AV.lf, px_build, fills, build_string, build_str, build_int, WDR_some, Nat.reduceLeDiff, Nat.le_refl, Bool.and_self]
  refine (WP_p (x := .int .i64 (mayV xs)) (by exact rmay_spec hm hin ((v _).into) hml) (by unfold Good; dsimp only; repeat (first | exact trivial | rw [goodN] | refine ⟨dBlk_good, ?_⟩ | refine goodD (by assumption) ?_ | refine ⟨sBlk_good (by first | rfl | assumption | (simp [AV.labs.labss, AV.labs, refLt]; done)), ?_⟩))).2 ?_
  simp (disch := first | (simp only [DS, reduceCtorEq]; done) | omega) only [WS, St.guard, St.put, evalO, reduceCtorEq, reduceIte, Nat.reduceAdd, Nat.reduceEqDiff, new_s, virtBlk_eq, box_s, box_vs, box_vi, box_vb, px_load_l, px_load_o, loadB_s, storeX, storeB_s, alloc_s, lay, whole, Option.join_some, List.drop_zero, List.drop_succ_cons, List.take_succ_cons, List.take_zero, List.drop_nil, List.nil_append, List.cons_append, Nat.reduceLeDiff, Nat.zero_add, and_self, and_true, cells_int, cells_bool, cells_str, cells_string, cells_agg, cells_own, cells_ro, cells_ptr, cells_nil, AV.lf.lfs, AV.lf, px_build, fills, build_string, build_str, build_int, WDR_some, Nat.reduceLeDiff, Nat.le_refl, Bool.and_self, mayV_may, hb]
  refine WC_count (fun i => ⟨f_ref10_Units_H1 a (.own (.l 0) ((uTo xs i).length * 3) 0 (uTo xs i).length 3 none) (.v (.int .i64 (i : Nat))), ⟨G, [some (dBlk (uE.row (uTo xs i)) true (decide (uTo xs i = []))), none, none]⟩⟩) xs.length ?_ (fun i hi => ?_) ?_
  · exact clear_fre (by simp only [clear_nil, List.foldl_cons, List.foldl_nil, Option.some.injEq, LS, reduceCtorEq, reduceIte, Nat.reduceAdd]; rfl) (by rfl) (by simp only [f_ref10_Units_H1, List.all_cons, List.all_nil, noRef_v, noRef_dead, noRef_own, noRef_ptr, noRef_nil, Bool.and_true, Bool.true_and, Bool.and_self, List.contains_cons, List.contains_nil, Bool.or_false, Nat.reduceBEq, Bool.not_false, na]) (by rfl)
  · have hlt' : (i : Int) < (xs.length : Int) := by omega
    have hx : xs[i]? = some xs[i] := List.getElem?_eq_getElem hi
    have hxo := ho _ (List.getElem_mem hi)
    have hle : qs (xs.take (i + 1)) ≤ qs xs := by
      have e1 : qs xs = qs (xs.take (i + 1)) + qs (xs.drop (i + 1)) := by rw [← qs_app, List.take_append_drop]
      have := (sums_le (xs := xs.drop (i + 1)) fun x hx => ho x (List.mem_of_mem_drop hx)).1
      omega
    rw [qs_take hx] at hle
    have hul := uTo_len ho (i := i) (by omega)
    generalize xs[i] = x at *
    have q := fun L => ln_at (v L) hx
    obtain ⟨o0, o1, _, _⟩ := okL_iff.1 hxo
    simp (disch := first | (simp only [DS, reduceCtorEq]; done) | omega) only [f_ref10_Units_L1, f_ref10_Units_H1, WS, St.guard, St.put, evalO, reduceCtorEq, reduceIte, Nat.reduceAdd, Nat.reduceEqDiff, new_s, virtBlk_eq, box_s, box_vs, box_vi, box_vb, px_load_l, px_load_o, loadB_s, storeX, storeB_s, alloc_s, lay, whole, Option.join_some, List.drop_zero, List.drop_succ_cons, List.take_succ_cons, List.take_zero, List.drop_nil, List.nil_append, List.cons_append, Nat.reduceLeDiff, Nat.zero_add, and_self, and_true, cells_int, cells_bool, cells_str, cells_string, cells_agg, cells_own, cells_ro, cells_ptr, cells_nil, AV.lf.lfs, AV.lf, px_build, fills, build_string, build_str, build_int, WDR_some, Nat.reduceLeDiff, Nat.le_refl, Bool.and_self, (v _).lenSlice, hlt', decide_true]
    refine WC_count (fun j => ⟨f_ref10_Units_H0 a (.own (.l 0) ((uRep xs i x j).length * 3) 0 (uRep xs i x j).length 3 none) (.v (.int .i64 (i : Nat))) (.v (.int .i64 (j : Nat))), ⟨G, [some (dBlk (uE.row (uRep xs i x j)) true (decide (uRep xs i x j = []))), none, none]⟩⟩) x.qty.toNat ?_ (fun j hj => ?_) ?_
    · exact clear_fre (by simp only [clear_nil, List.foldl_cons, List.foldl_nil, Option.some.injEq, LS, reduceCtorEq, reduceIte, Nat.reduceAdd, uRep_zero]; rfl) (by rw [uRep_zero]; rfl) (by simp only [f_ref10_Units_H0, List.all_cons, List.all_nil, noRef_v, noRef_dead, noRef_own, noRef_ptr, noRef_nil, Bool.and_true, Bool.true_and, Bool.and_self, List.contains_cons, List.contains_nil, Bool.or_false, Nat.reduceBEq, Bool.not_false, na]) (by rfl)
    · have hjq : (j : Int) < x.qty := by omega
      simp (disch := first | (simp only [DS, reduceCtorEq]; done) | omega) only [f_ref10_Units_L0, f_ref10_Units_H0, WS, St.guard, St.put, evalO, reduceCtorEq, reduceIte, Nat.reduceAdd, Nat.reduceEqDiff, new_s, virtBlk_eq, box_s, box_vs, box_vi, box_vb, px_load_l, px_load_o, loadB_s, storeX, storeB_s, alloc_s, lay, whole, Option.join_some, List.drop_zero, List.drop_succ_cons, List.take_succ_cons, List.take_zero, List.drop_nil, List.nil_append, List.cons_append, Nat.reduceLeDiff, Nat.zero_add, and_self, and_true, cells_int, cells_bool, cells_str, cells_string, cells_agg, cells_own, cells_ro, cells_ptr, cells_nil, AV.lf.lfs, AV.lf, px_build, fills, build_string, build_str, build_int, WDR_some, Nat.reduceLeDiff, Nat.le_refl, Bool.and_self, (q _).ix, (q _).f1, (q _).l1, (q _).f2, (q _).l2, hjq, decide_true]
      refine (WR_eq (build_T (T := uE) (x := ⟨i, x.price, true⟩) rfl rfl)).2 ?_
      simp (disch := first | (simp only [DS, reduceCtorEq]; done) | omega) only [WS, St.guard, St.put, evalO, reduceCtorEq, reduceIte, Nat.reduceAdd, Nat.reduceEqDiff, new_s, virtBlk_eq, box_s, box_vs, box_vi, box_vb, px_load_l, px_load_o, loadB_s, storeX, storeB_s, alloc_s, lay, whole, Option.join_some, List.drop_zero, List.drop_succ_cons, List.take_succ_cons, List.take_zero, List.drop_nil, List.nil_append, List.cons_append, Nat.reduceLeDiff, Nat.zero_add, and_self, and_true, cells_int, cells_bool, cells_str, cells_string, cells_agg, cells_own, cells_ro, cells_ptr, cells_nil, AV.lf.lfs, AV.lf, px_build, fills, build_string, build_str, build_int, WDR_some, Nat.reduceLeDiff, Nat.le_refl, Bool.and_self]
      refine (WR_eq (append_T (T := uE) (j := 0) (m := 1) (xs := uRep xs i x j) (x := ⟨i, x.price, true⟩) (by exact rfl) (by exact rfl) (by rw [uRep_len]; unfold room; omega) (by simp))).2 ?_
      have hs : uRep xs i x (j + 1) = uRep xs i x j ++ [⟨(i : Int), x.price, true⟩] := uRep_succ
      have hd : decide (uRep xs i x (j + 1) = []) = false := decide_eq_false (by rw [hs]; simp)
      have hsl : (uRep xs i x (j + 1)).length = (uRep xs i x j).length + 1 := by rw [hs]; simp
      simp (disch := first | (simp only [DS, reduceCtorEq]; done) | omega) only [WS, St.guard, St.put, evalO, reduceCtorEq, reduceIte, Nat.reduceAdd, Nat.reduceEqDiff, new_s, virtBlk_eq, box_s, box_vs, box_vi, box_vb, px_load_l, px_load_o, loadB_s, storeX, storeB_s, alloc_s, lay, whole, Option.join_some, List.drop_zero, List.drop_succ_cons, List.take_succ_cons, List.take_zero, List.drop_nil, List.nil_append, List.cons_append, Nat.reduceLeDiff, Nat.zero_add, and_self, and_true, cells_int, cells_bool, cells_str, cells_string, cells_agg, cells_own, cells_ro, cells_ptr, cells_nil, AV.lf.lfs, AV.lf, px_build, fills, build_string, build_str, build_int, WDR_some, Nat.reduceLeDiff, Nat.le_refl, Bool.and_self, vBin_add_i64]
      exact clear_fre (by simp only [clear_nil, List.foldl_cons, List.foldl_nil, Option.some.injEq, LS, reduceCtorEq, reduceIte, Nat.reduceAdd, hsl]; rfl) (by rw [hd, hs]; rfl) (by simp only [f_ref10_Units_H0, hsl, List.all_cons, List.all_nil, noRef_v, noRef_dead, noRef_own, noRef_ptr, noRef_nil, Bool.and_true, Bool.true_and, Bool.and_self, List.contains_cons, List.contains_nil, Bool.or_false, Nat.reduceBEq, Bool.not_false, na]) (by rfl)
    · have hjq : ¬ ((x.qty.toNat : Int) < x.qty) := by omega
      have ea : uRep xs i x x.qty.toNat = uTo xs (i + 1) := by rw [uTo_succ]; unfold uAt uRep; rw [hx]
      simp (disch := first | (simp only [DS, reduceCtorEq]; done) | omega) only [f_ref10_Units_L0, f_ref10_Units_H0, WS, St.guard, St.put, evalO, reduceCtorEq, reduceIte, Nat.reduceAdd, Nat.reduceEqDiff, new_s, virtBlk_eq, box_s, box_vs, box_vi, box_vb, px_load_l, px_load_o, loadB_s, storeX, storeB_s, alloc_s, lay, whole, Option.join_some, List.drop_zero, List.drop_succ_cons, List.take_succ_cons, List.take_zero, List.drop_nil, List.nil_append, List.cons_append, Nat.reduceLeDiff, Nat.zero_add, and_self, and_true, cells_int, cells_bool, cells_str, cells_string, cells_agg, cells_own, cells_ro, cells_ptr, cells_nil, AV.lf.lfs, AV.lf, px_build, fills, build_string, build_str, build_int, WDR_some, Nat.reduceLeDiff, Nat.le_refl, Bool.and_self, (q _).ix, (q _).f1, (q _).l1, hjq, decide_false, vBin_add_i64, ea, ne_eq, not_false_eq_true, true_and, not_true_eq_false]
      exact clear_fre (by simp only [clear_nil, List.foldl_cons, List.foldl_nil, Option.some.injEq, LS, reduceCtorEq, reduceIte, Nat.reduceAdd]; rfl) (by rfl) (by simp only [f_ref10_Units_H1, List.all_cons, List.all_nil, noRef_v, noRef_dead, noRef_own, noRef_ptr, noRef_nil, Bool.and_true, Bool.true_and, Bool.and_self, List.contains_cons, List.contains_nil, Bool.or_false, Nat.reduceBEq, Bool.not_false, na]) (by rfl)
  · simp (disch := first | (simp only [DS, reduceCtorEq]; done) | omega) only [f_ref10_Units_L1, f_ref10_Units_H1, WS, St.guard, St.put, evalO, reduceCtorEq, reduceIte, Nat.reduceAdd, Nat.reduceEqDiff, new_s, virtBlk_eq, box_s, box_vs, box_vi, box_vb, px_load_l, px_load_o, loadB_s, storeX, storeB_s, alloc_s, lay, whole, Option.join_some, List.drop_zero, List.drop_succ_cons, List.take_succ_cons, List.take_zero, List.drop_nil, List.nil_append, List.cons_append, Nat.reduceLeDiff, Nat.zero_add, and_self, and_true, cells_int, cells_bool, cells_str, cells_string, cells_agg, cells_own, cells_ro, cells_ptr, cells_nil, AV.lf.lfs, AV.lf, px_build, fills, build_string, build_str, build_int, WDR_some, Nat.reduceLeDiff, Nat.le_refl, Bool.and_self, (v _).lenSlice, decide_false, fin_tmp]
    refine ⟨by simp, leave_own1 (by rfl) (by rfl)⟩
end Go.AM
namespace Go.AM
variable {prog : String → Option IFn}
def fnd (is : List ItemD) (s : Txt) : Option ItemD := if findV (skus is) s ≥ 0 then is[(findV (skus is) s).toNat]? else none
theorem findV_lt {ss : List Txt} {s : Txt} : findV ss s < (ss.length : Int) ∧ -1 ≤ findV ss s := by
  unfold findV
  split
  · omega
  · omega
theorem fnd_some {is : List ItemD} {s : Txt} (h : findV (skus is) s ≥ 0) : ∃ k y, findV (skus is) s = ((k : Nat) : Int) ∧ k < is.length ∧ is[k]? = some y ∧ fnd is s = some y := by
  have hl := (findV_lt (ss := skus is) (s := s)).1
  have hs : (skus is).length = is.length := by simp [skus]
  have hk : (findV (skus is) s).toNat < is.length := by omega
  refine ⟨(findV (skus is) s).toNat, is[(findV (skus is) s).toNat], by omega, hk, List.getElem?_eq_getElem hk, ?_⟩
  unfold fnd
  rw [if_pos h, List.getElem?_eq_getElem hk]
def itTo (is : List ItemD) (xs : List LineD) : List ItemD := xs.filterMap fun x => fnd is x.sku
def itemsL (is : List ItemD) (xs : List LineD) : List ItemD := if xs.all (fun x => knI is x.sku) then itTo is xs else []
theorem itTo_len {is xs} : (itTo is xs).length ≤ xs.length := List.length_filterMap_le _ _
theorem itTo_take {is} {xs : List LineD} {i : Nat} {x : LineD} {y} (h : xs[i]? = some x) (hy : fnd is x.sku = some y) : itTo is (xs.take (i + 1)) = itTo is (xs.take i) ++ [y] := by
  rw [take_succ' h]; unfold itTo; rw [List.filterMap_append]; simp [hy]
theorem Items2_spec (H : FindLib prog) (hf : prog "haberdash/basket.Items" = some f_basket_Items) {G a b} {is : List ItemD} {xs : List LineD} (v : ∀ L, TView itEnc ⟨G, L⟩ a is) (w : ∀ L, TView lnE ⟨G, L⟩ b xs) (hi : is.length < 2 ^ 62) (hl : xs.length ≤ 1000000) :
    ∃ r G2, Ev prog (.call "haberdash/basket.Items" [a, b] G) (.ret r G2) ∧ LAns itEnc (itemsL is xs) G r G2 := by
  have na : ∀ ks, noRef ks a = true := fun ks => noRef_out (View.out (v []))
  have nb : ∀ ks, noRef ks b = true := fun ks => noRef_out (View.out (w []))
  obtain ⟨r, hr⟩ : ∃ r : AV × List (Option Blk), r = if xs.all (fun x => knI is x.sku) then (.own (.o G.length) ((itTo is xs).length * 4) 0 (itTo is xs).length 4 none, G ++ [some (dBlk (itEnc.row (itTo is xs)) true (decide (xs.length = 0)))]) else (.v (.slice none 0 0), G) := ⟨_, rfl⟩
  refine ⟨r.1, r.2, call_of_fin hf ?_, ?_⟩
  rotate_left
  · subst hr
    unfold itemsL
    cases xs.all (fun x => knI is x.sku)
    · exact .inl ⟨rfl, rfl, rfl⟩
    · exact .inr ⟨_, rfl, rfl⟩
  simp only [f_basket_Items_B, enter, List.length_cons, List.length_nil, List.replicate, Nat.reduceAdd, Nat.reduceSub, List.cons_append, List.nil_append]
  simp (disch := first | (simp only [DS, reduceCtorEq]; done) | omega) only [WS, St.guard, St.put, evalO, reduceCtorEq, reduceIte, Nat.reduceAdd, Nat.reduceEqDiff, new_s, virtBlk_eq, box_s, box_vs, box_vi, box_vb, px_load_l, px_load_o, loadB_s, storeX, storeB_s, alloc_s, lay, whole, Option.join_some, List.drop_zero, List.drop_succ_cons, List.take_succ_cons, List.take_zero, List.drop_nil, List.nil_append, List.cons_append, Nat.reduceLeDiff, Nat.zero_add, and_self, and_true, cells_int, cells_bool, cells_str, cells_string, cells_agg, cells_own, cells_ro, cells_ptr, cells_nil, AV.lf.lfs, AV.lf, px_build, fills, build_string, build_str, build_int, WDR_some, Nat.reduceLeDiff, Nat.le_refl, Bool.and_self, nilv_s, (w _).lenSlice]
  refine WC_countP (fun i => ∀ (j : Nat) x, j < i → xs[j]? = some x → knI is x.sku = true) (fun i => ⟨f_basket_Items_H0 a (.own (.l 0) ((itTo is (xs.take i)).length * 4) 0 (itTo is (xs.take i)).length 4 none) b (.v (.int .i64 (xs.length : Nat))) (.v (.int .i64 (i : Nat))), ⟨G, [some (dBlk (itEnc.row (itTo is (xs.take i))) true (decide (i = 0))), none, none, none]⟩⟩) xs.length ?_ (fun j x h => by omega) (fun i hi' hp => ?_) (fun hp => ?_)
  · exact clear_fre (by simp only [clear_nil, List.foldl_cons, List.foldl_nil, Option.some.injEq, LS, reduceCtorEq, reduceIte, Nat.reduceAdd]; rfl) (by rfl) (by simp only [f_basket_Items_H0, List.all_cons, List.all_nil, noRef_v, noRef_dead, noRef_own, noRef_ptr, noRef_nil, Bool.and_true, Bool.true_and, Bool.and_self, List.contains_cons, List.contains_nil, Bool.or_false, Nat.reduceBEq, Bool.not_false, na, nb]) (by rfl)
  · have hlt' : (i : Int) < (xs.length : Int) := by omega
    have hx : xs[i]? = some xs[i] := List.getElem?_eq_getElem hi'
    generalize xs[i] = x at *
    have q := fun L => ln_at (w L) hx
    simp (disch := first | (simp only [DS, reduceCtorEq]; done) | omega) only [f_basket_Items_L0, f_basket_Items_H0, WS, St.guard, St.put, evalO, reduceCtorEq, reduceIte, Nat.reduceAdd, Nat.reduceEqDiff, new_s, virtBlk_eq, box_s, box_vs, box_vi, box_vb, px_load_l, px_load_o, loadB_s, storeX, storeB_s, alloc_s, lay, whole, Option.join_some, List.drop_zero, List.drop_succ_cons, List.take_succ_cons, List.take_zero, List.drop_nil, List.nil_append, List.cons_append, Nat.reduceLeDiff, Nat.zero_add, and_self, and_true, cells_int, cells_bool, cells_str, cells_string, cells_agg, cells_own, cells_ro, cells_ptr, cells_nil, AV.lf.lfs, AV.lf, px_build, fills, build_string, build_str, build_int, WDR_some, Nat.reduceLeDiff, Nat.le_refl, Bool.and_self, hlt', decide_true, (q _).ix, (q _).ld, LineD.cells]
    refine (WP_p (x := .int .i64 (findV (skus is) x.sku)) (by exact Find_spec H ((v _).into) hi) (by unfold Good; dsimp only; repeat (first | exact trivial | rw [goodN] | refine ⟨dBlk_good, ?_⟩ | refine goodD (by assumption) ?_ | refine ⟨sBlk_good (by first | rfl | assumption | (simp [AV.labs.labss, AV.labs, refLt]; done)), ?_⟩))).2 ?_
    by_cases h0 : findV (skus is) x.sku < 0
    · have hk : knI is x.sku = false := decide_eq_false (by omega)
      rw [all_bad (p := fun x : LineD => knI is x.sku) hx hk, if_neg (by simp)] at hr
      subst hr
      simp (disch := first | (simp only [DS, reduceCtorEq]; done) | omega) only [WS, St.guard, St.put, evalO, reduceCtorEq, reduceIte, Nat.reduceAdd, Nat.reduceEqDiff, new_s, virtBlk_eq, box_s, box_vs, box_vi, box_vb, px_load_l, px_load_o, loadB_s, storeX, storeB_s, alloc_s, lay, whole, Option.join_some, List.drop_zero, List.drop_succ_cons, List.take_succ_cons, List.take_zero, List.drop_nil, List.nil_append, List.cons_append, Nat.reduceLeDiff, Nat.zero_add, and_self, and_true, cells_int, cells_bool, cells_str, cells_string, cells_agg, cells_own, cells_ro, cells_ptr, cells_nil, AV.lf.lfs, AV.lf, px_build, fills, build_string, build_str, build_int, WDR_some, Nat.reduceLeDiff, Nat.le_refl, Bool.and_self, h0, decide_true, fin_tmp, leave_v]
      simp
    obtain ⟨k, y, hk, hkl, hy, hf⟩ := fnd_some (is := is) (s := x.sku) (by omega)
    have qy := fun L => it_at (v L) hy
    have hkn : knI is x.sku = true := decide_eq_true (by omega)
    rw [hk] at h0 ⊢
    simp (disch := first | (simp only [DS, reduceCtorEq]; done) | omega) only [WS, St.guard, St.put, evalO, reduceCtorEq, reduceIte, Nat.reduceAdd, Nat.reduceEqDiff, new_s, virtBlk_eq, box_s, box_vs, box_vi, box_vb, px_load_l, px_load_o, loadB_s, storeX, storeB_s, alloc_s, lay, whole, Option.join_some, List.drop_zero, List.drop_succ_cons, List.take_succ_cons, List.take_zero, List.drop_nil, List.nil_append, List.cons_append, Nat.reduceLeDiff, Nat.zero_add, and_self, and_true, cells_int, cells_bool, cells_str, cells_string, cells_agg, cells_own, cells_ro, cells_ptr, cells_nil, AV.lf.lfs, AV.lf, px_build, fills, build_string, build_str, build_int, WDR_some, Nat.reduceLeDiff, Nat.le_refl, Bool.and_self, h0, decide_false, (qy _).ix, (qy _).ld]
    have htl : (itTo is (xs.take i)).length ≤ xs.length := Nat.le_trans itTo_len (by rw [List.length_take]; omega)
    refine (WR_eq (build_T (T := itEnc) (x := y) rfl rfl)).2 ?_
    simp (disch := first | (simp only [DS, reduceCtorEq]; done) | omega) only [WS, St.guard, St.put, evalO, reduceCtorEq, reduceIte, Nat.reduceAdd, Nat.reduceEqDiff, new_s, virtBlk_eq, box_s, box_vs, box_vi, box_vb, px_load_l, px_load_o, loadB_s, storeX, storeB_s, alloc_s, lay, whole, Option.join_some, List.drop_zero, List.drop_succ_cons, List.take_succ_cons, List.take_zero, List.drop_nil, List.nil_append, List.cons_append, Nat.reduceLeDiff, Nat.zero_add, and_self, and_true, cells_int, cells_bool, cells_str, cells_string, cells_agg, cells_own, cells_ro, cells_ptr, cells_nil, AV.lf.lfs, AV.lf, px_build, fills, build_string, build_str, build_int, WDR_some, Nat.reduceLeDiff, Nat.le_refl, Bool.and_self]
    refine (WR_eq (append_T (T := itEnc) (j := 0) (m := 2) (xs := itTo is (xs.take i)) (x := y) (by exact rfl) (by exact rfl) (by unfold room; omega) (by simp))).2 ?_
    have hs := itTo_take (is := is) hx hf
    have hsl : (itTo is (xs.take (i + 1))).length = (itTo is (xs.take i)).length + 1 := by rw [hs]; simp
    simp (disch := first | (simp only [DS, reduceCtorEq]; done) | omega) only [WS, St.guard, St.put, evalO, reduceCtorEq, reduceIte, Nat.reduceAdd, Nat.reduceEqDiff, new_s, virtBlk_eq, box_s, box_vs, box_vi, box_vb, px_load_l, px_load_o, loadB_s, storeX, storeB_s, alloc_s, lay, whole, Option.join_some, List.drop_zero, List.drop_succ_cons, List.take_succ_cons, List.take_zero, List.drop_nil, List.nil_append, List.cons_append, Nat.reduceLeDiff, Nat.zero_add, and_self, and_true, cells_int, cells_bool, cells_str, cells_string, cells_agg, cells_own, cells_ro, cells_ptr, cells_nil, AV.lf.lfs, AV.lf, px_build, fills, build_string, build_str, build_int, WDR_some, Nat.reduceLeDiff, Nat.le_refl, Bool.and_self, vBin_add_i64]
    refine ⟨clear_fre (by simp only [clear_nil, List.foldl_cons, List.foldl_nil, Option.some.injEq, LS, reduceCtorEq, reduceIte, Nat.reduceAdd, hsl]; rfl) (by rw [hs]; rfl) (by simp only [f_basket_Items_H0, hsl, List.all_cons, List.all_nil, noRef_v, noRef_dead, noRef_own, noRef_ptr, noRef_nil, Bool.and_true, Bool.true_and, Bool.and_self, List.contains_cons, List.contains_nil, Bool.or_false, Nat.reduceBEq, Bool.not_false, na, nb]) (by rfl), fun j z hj h1 => ?_⟩
    by_cases hji : j < i
    · exact hp j z hji h1
    · obtain rfl : j = i := by omega
      rw [hx] at h1; cases h1; exact hkn
  · have ha : xs.all (fun x => knI is x.sku) = true := all_of fun j x h => hp j x (lt_of_get h) h
    rw [ha, if_pos rfl] at hr
    subst hr
    simp (disch := first | (simp only [DS, reduceCtorEq]; done) | omega) only [f_basket_Items_L0, f_basket_Items_H0, WS, St.guard, St.put, evalO, reduceCtorEq, reduceIte, Nat.reduceAdd, Nat.reduceEqDiff, new_s, virtBlk_eq, box_s, box_vs, box_vi, box_vb, px_load_l, px_load_o, loadB_s, storeX, storeB_s, alloc_s, lay, whole, Option.join_some, List.drop_zero, List.drop_succ_cons, List.take_succ_cons, List.take_zero, List.drop_nil, List.nil_append, List.cons_append, Nat.reduceLeDiff, Nat.zero_add, and_self, and_true, cells_int, cells_bool, cells_str, cells_string, cells_agg, cells_own, cells_ro, cells_ptr, cells_nil, AV.lf.lfs, AV.lf, px_build, fills, build_string, build_str, build_int, WDR_some, Nat.reduceLeDiff, Nat.le_refl, Bool.and_self, decide_false, List.take_length, fin_tmp]
    refine ⟨by simp, leave_own1 (by rfl) (by rfl)⟩
theorem rItems2_spec (H : FindLib prog) (hf : prog "haberdash/haberdashref10.Items" = some f_ref10_Items) {G a b} {is : List ItemD} {xs : List LineD} (v : ∀ L, TView itEnc ⟨G, L⟩ a is) (w : ∀ L, TView lnE ⟨G, L⟩ b xs) (hi : is.length ≤ maxLen) (hl : xs.length ≤ 1000000) :
    ∃ r G2, Ev prog (.call "haberdash/haberdashref10.Items" [a, b] G) (.ret r G2) ∧ LAns itEnc (itemsL is xs) G r G2 := by
  have na : ∀ ks, noRef ks a = true := fun ks => noRef_out (View.out (v []))
  have nb : ∀ ks, noRef ks b = true := fun ks => noRef_out (View.out (w []))
  obtain ⟨r, hr⟩ : ∃ r : AV × List (Option Blk), r = if xs.all (fun x => knI is x.sku) then (.own (.o G.length) ((itTo is xs).length * 4) 0 (itTo is xs).length 4 none, G ++ [some (dBlk (itEnc.row (itTo is xs)) true (decide (xs.length = 0)))]) else (.v (.slice none 0 0), G) := ⟨_, rfl⟩
  refine ⟨r.1, r.2, call_of_fin hf ?_, ?_⟩
  rotate_left
  · subst hr
    unfold itemsL
    cases xs.all (fun x => knI is x.sku)
    · exact .inl ⟨rfl, rfl, rfl⟩
    · exact .inr ⟨_, rfl, rfl⟩
  simp only [f_ref10_Items_B, enter, List.length_cons, List.length_nil, List.replicate, Nat.reduceAdd, Nat.reduceSub, List.cons_append, List.nil_append]
  simp (disch := first | (simp only [DS, reduceCtorEq]; done) | omega) only [WS, St.guard, St.put, evalO, reduceCtorEq, reduceIte, Nat.reduceAdd, Nat.reduceEqDiff, new_s, virtBlk_eq, box_s, box_vs, box_vi, box_vb, px_load_l, px_load_o, loadB_s, storeX, storeB_s, alloc_s, lay, whole, Option.join_some, List.drop_zero, List.drop_succ_cons, List.take_succ_cons, List.take_zero, List.drop_nil, List.nil_append, List.cons_append, Nat.reduceLeDiff, Nat.zero_add, and_self, and_true, cells_int, cells_bool, cells_str, cells_string, cells_agg, cells_own, cells_ro, cells_ptr, cells_nil, AV.lf.lfs, AV.lf, px_build, fills, build_string, build_str, build_int, WDR_some, Nat.reduceLeDiff, Nat.le_refl, Bool.and_self, nilv_s, (w _).lenSlice]
  refine WC_countP (fun i => ∀ (j : Nat) x, j < i → xs[j]? = some x → knI is x.sku = true) (fun i => ⟨f_ref10_Items_H0 a b (.own (.l 0) ((itTo is (xs.take i)).length * 4) 0 (itTo is (xs.take i)).length 4 none) (.v (.int .i64 (i : Nat))), ⟨G, [some (dBlk (itEnc.row (itTo is (xs.take i))) true (decide (i = 0))), none, none]⟩⟩) xs.length ?_ (fun j x h => by omega) (fun i hi' hp => ?_) (fun hp => ?_)
  · exact clear_fre (by simp only [clear_nil, List.foldl_cons, List.foldl_nil, Option.some.injEq, LS, reduceCtorEq, reduceIte, Nat.reduceAdd]; rfl) (by rfl) (by simp only [f_ref10_Items_H0, List.all_cons, List.all_nil, noRef_v, noRef_dead, noRef_own, noRef_ptr, noRef_nil, Bool.and_true, Bool.true_and, Bool.and_self, List.contains_cons, List.contains_nil, Bool.or_false, Nat.reduceBEq, Bool.not_false, na, nb]) (by rfl)
  · have hlt' : (i : Int) < (xs.length : Int) := by omega
    have hx : xs[i]? = some xs[i] := List.getElem?_eq_getElem hi'
    generalize xs[i] = x at *
    have q := fun L => ln_at (w L) hx
    simp (disch := first | (simp only [DS, reduceCtorEq]; done) | omega) only [f_ref10_Items_L0, f_ref10_Items_H0, WS, St.guard, St.put, evalO, reduceCtorEq, reduceIte, Nat.reduceAdd, Nat.reduceEqDiff, new_s, virtBlk_eq, box_s, box_vs, box_vi, box_vb, px_load_l, px_load_o, loadB_s, storeX, storeB_s, alloc_s, lay, whole, Option.join_some, List.drop_zero, List.drop_succ_cons, List.take_succ_cons, List.take_zero, List.drop_nil, List.nil_append, List.cons_append, Nat.reduceLeDiff, Nat.zero_add, and_self, and_true, cells_int, cells_bool, cells_str, cells_string, cells_agg, cells_own, cells_ro, cells_ptr, cells_nil, AV.lf.lfs, AV.lf, px_build, fills, build_string, build_str, build_int, WDR_some, Nat.reduceLeDiff, Nat.le_refl, Bool.and_self, (w _).lenSlice, hlt', decide_true, (q _).ix, (q _).f0, (q _).l0]
    refine (WP_p (x := .int .i64 (findV (skus is) x.sku)) (by exact refFind_spec H ((v _).into) hi) (by unfold Good; dsimp only; repeat (first | exact trivial | rw [goodN] | refine ⟨dBlk_good, ?_⟩ | refine goodD (by assumption) ?_ | refine ⟨sBlk_good (by first | rfl | assumption | (simp [AV.labs.labss, AV.labs, refLt]; done)), ?_⟩))).2 ?_
    by_cases h0 : findV (skus is) x.sku < 0
    · have hk : knI is x.sku = false := decide_eq_false (by omega)
      rw [all_bad (p := fun x : LineD => knI is x.sku) hx hk, if_neg (by simp)] at hr
      subst hr
      simp (disch := first | (simp only [DS, reduceCtorEq]; done) | omega) only [WS, St.guard, St.put, evalO, reduceCtorEq, reduceIte, Nat.reduceAdd, Nat.reduceEqDiff, new_s, virtBlk_eq, box_s, box_vs, box_vi, box_vb, px_load_l, px_load_o, loadB_s, storeX, storeB_s, alloc_s, lay, whole, Option.join_some, List.drop_zero, List.drop_succ_cons, List.take_succ_cons, List.take_zero, List.drop_nil, List.nil_append, List.cons_append, Nat.reduceLeDiff, Nat.zero_add, and_self, and_true, cells_int, cells_bool, cells_str, cells_string, cells_agg, cells_own, cells_ro, cells_ptr, cells_nil, AV.lf.lfs, AV.lf, px_build, fills, build_string, build_str, build_int, WDR_some, Nat.reduceLeDiff, Nat.le_refl, Bool.and_self, h0, decide_true, fin_tmp, leave_v]
      simp
    obtain ⟨k, y, hk, hkl, hy, hf⟩ := fnd_some (is := is) (s := x.sku) (by omega)
    have qy := fun L => it_at (v L) hy
    have hkn : knI is x.sku = true := decide_eq_true (by omega)
    rw [hk] at h0 ⊢
    simp (disch := first | (simp only [DS, reduceCtorEq]; done) | omega) only [WS, St.guard, St.put, evalO, reduceCtorEq, reduceIte, Nat.reduceAdd, Nat.reduceEqDiff, new_s, virtBlk_eq, box_s, box_vs, box_vi, box_vb, px_load_l, px_load_o, loadB_s, storeX, storeB_s, alloc_s, lay, whole, Option.join_some, List.drop_zero, List.drop_succ_cons, List.take_succ_cons, List.take_zero, List.drop_nil, List.nil_append, List.cons_append, Nat.reduceLeDiff, Nat.zero_add, and_self, and_true, cells_int, cells_bool, cells_str, cells_string, cells_agg, cells_own, cells_ro, cells_ptr, cells_nil, AV.lf.lfs, AV.lf, px_build, fills, build_string, build_str, build_int, WDR_some, Nat.reduceLeDiff, Nat.le_refl, Bool.and_self, h0, decide_false, (qy _).ix, (qy _).ld]
    have htl : (itTo is (xs.take i)).length ≤ xs.length := Nat.le_trans itTo_len (by rw [List.length_take]; omega)
    refine (WR_eq (build_T (T := itEnc) (x := y) rfl rfl)).2 ?_
    simp (disch := first | (simp only [DS, reduceCtorEq]; done) | omega) only [WS, St.guard, St.put, evalO, reduceCtorEq, reduceIte, Nat.reduceAdd, Nat.reduceEqDiff, new_s, virtBlk_eq, box_s, box_vs, box_vi, box_vb, px_load_l, px_load_o, loadB_s, storeX, storeB_s, alloc_s, lay, whole, Option.join_some, List.drop_zero, List.drop_succ_cons, List.take_succ_cons, List.take_zero, List.drop_nil, List.nil_append, List.cons_append, Nat.reduceLeDiff, Nat.zero_add, and_self, and_true, cells_int, cells_bool, cells_str, cells_string, cells_agg, cells_own, cells_ro, cells_ptr, cells_nil, AV.lf.lfs, AV.lf, px_build, fills, build_string, build_str, build_int, WDR_some, Nat.reduceLeDiff, Nat.le_refl, Bool.and_self]
    refine (WR_eq (append_T (T := itEnc) (j := 0) (m := 1) (xs := itTo is (xs.take i)) (x := y) (by exact rfl) (by exact rfl) (by unfold room; omega) (by simp))).2 ?_
    have hs := itTo_take (is := is) hx hf
    have hsl : (itTo is (xs.take (i + 1))).length = (itTo is (xs.take i)).length + 1 := by rw [hs]; simp
    simp (disch := first | (simp only [DS, reduceCtorEq]; done) | omega) only [WS, St.guard, St.put, evalO, reduceCtorEq, reduceIte, Nat.reduceAdd, Nat.reduceEqDiff, new_s, virtBlk_eq, box_s, box_vs, box_vi, box_vb, px_load_l, px_load_o, loadB_s, storeX, storeB_s, alloc_s, lay, whole, Option.join_some, List.drop_zero, List.drop_succ_cons, List.take_succ_cons, List.take_zero, List.drop_nil, List.nil_append, List.cons_append, Nat.reduceLeDiff, Nat.zero_add, and_self, and_true, cells_int, cells_bool, cells_str, cells_string, cells_agg, cells_own, cells_ro, cells_ptr, cells_nil, AV.lf.lfs, AV.lf, px_build, fills, build_string, build_str, build_int, WDR_some, Nat.reduceLeDiff, Nat.le_refl, Bool.and_self, vBin_add_i64]
    refine ⟨clear_fre (by simp only [clear_nil, List.foldl_cons, List.foldl_nil, Option.some.injEq, LS, reduceCtorEq, reduceIte, Nat.reduceAdd, hsl]; rfl) (by rw [hs]; rfl) (by simp only [f_ref10_Items_H0, hsl, List.all_cons, List.all_nil, noRef_v, noRef_dead, noRef_own, noRef_ptr, noRef_nil, Bool.and_true, Bool.true_and, Bool.and_self, List.contains_cons, List.contains_nil, Bool.or_false, Nat.reduceBEq, Bool.not_false, na, nb]) (by rfl), fun j z hj h1 => ?_⟩
    by_cases hji : j < i
    · exact hp j z hji h1
    · obtain rfl : j = i := by omega
      rw [hx] at h1; cases h1; exact hkn
  · have ha : xs.all (fun x => knI is x.sku) = true := all_of fun j x h => hp j x (lt_of_get h) h
    rw [ha, if_pos rfl] at hr
    subst hr
    simp (disch := first | (simp only [DS, reduceCtorEq]; done) | omega) only [f_ref10_Items_L0, f_ref10_Items_H0, WS, St.guard, St.put, evalO, reduceCtorEq, reduceIte, Nat.reduceAdd, Nat.reduceEqDiff, new_s, virtBlk_eq, box_s, box_vs, box_vi, box_vb, px_load_l, px_load_o, loadB_s, storeX, storeB_s, alloc_s, lay, whole, Option.join_some, List.drop_zero, List.drop_succ_cons, List.take_succ_cons, List.take_zero, List.drop_nil, List.nil_append, List.cons_append, Nat.reduceLeDiff, Nat.zero_add, and_self, and_true, cells_int, cells_bool, cells_str, cells_string, cells_agg, cells_own, cells_ro, cells_ptr, cells_nil, AV.lf.lfs, AV.lf, px_build, fills, build_string, build_str, build_int, WDR_some, Nat.reduceLeDiff, Nat.le_refl, Bool.and_self, (w _).lenSlice, decide_false, List.take_length, fin_tmp]
    refine ⟨by simp, leave_own1 (by rfl) (by rfl)⟩
def lnZ : List Value := [.string ⟨#[]⟩, .int .i64 0, .int .i64 0]
theorem ownLn (H : prog "haberdash/haberdashhelp.Own[haberdash/api.Line]" = some f_help_Own_api_Line_) {G a} {xs : List LineD} (x0 : LineD) (v : ∀ L, TView lnE ⟨G, L⟩ a xs) (hr : (xs.length + 3) * 32 ≤ room) :
    Ev prog (.call "haberdash/haberdashhelp.Own[haberdash/api.Line]" [a, lnE.av x0] G) (.ret (.own (.o G.length) ((xs.length + 3) * 3) 0 xs.length 3 (some (xs.length + 3))) (G ++ [some (dBlk (ownCells lnE xs x0) false false)])) :=
  ownB_spec (prog := prog) (T := lnE) rfl (byt := 32) (z := lnZ) rfl (H.trans (congrArg some (by rfl))) x0 v (by omega) hr
theorem line_eq {a b : LineD} : decide (a = b) = (decide (a.sku = b.sku) && (a.qty == b.qty && a.price == b.price)) := by
  rw [Bool.eq_iff_iff]
  simp only [decide_eq_true_eq, Bool.and_eq_true, beq_iff_eq]
  constructor
  · rintro rfl; exact ⟨rfl, rfl, rfl⟩
  · cases a; cases b; simp only; rintro ⟨rfl, rfl, rfl⟩; rfl
theorem cells_line {x y : LineD} : cellsEq [.str, .int, .int] x.cells y.cells = some (decide (x = y)) := by
  have hs : ∀ a b : Txt, cellEq .str (.v (str a)) (.v (str b)) = some (decide (a = b)) := fun a b => by
    show some ((⟨a.toArray⟩ : ByteArray).toList == (⟨b.toArray⟩ : ByteArray).toList) = _
    rw [str_toList, str_toList]
    congr 1
    rw [Bool.eq_iff_iff]; simp
  have hi : ∀ a b : Int, cellEq .int (.v (.int .i64 a)) (.v (.int .i64 b)) = some (a == b) := fun a b => rfl
  unfold LineD.cells
  simp only [cellsEq, hs, hi, line_eq, Bool.and_true]
theorem unit_eq {a b : UnitD} : decide (a = b) = (a.line == b.line && (a.net == b.net && a.opn == b.opn)) := by
  rw [Bool.eq_iff_iff]
  simp only [decide_eq_true_eq, Bool.and_eq_true, beq_iff_eq]
  constructor
  · rintro rfl; exact ⟨rfl, rfl, rfl⟩
  · cases a; cases b; simp only; rintro ⟨rfl, rfl, rfl⟩; rfl
theorem cells_unit {x y : UnitD} : cellsEq [.int, .int, .bool] x.cells y.cells = some (decide (x = y)) := by
  have hi : ∀ a b : Int, cellEq .int (.v (.int .i64 a)) (.v (.int .i64 b)) = some (a == b) := fun a b => rfl
  have hb : ∀ a b : Bool, cellEq .bool (.v (.bool a)) (.v (.bool b)) = some (a == b) := fun a b => rfl
  unfold UnitD.cells
  simp only [cellsEq, hi, hb, unit_eq, Bool.and_true]
theorem eq_line {h neg} {x y : LineD} : prim h (.eq neg [.str, .int, .int]) [.agg x.cells, .agg y.cells] = some (.v (.bool (decide (x = y) != neg)), h) := by
  rw [px_eq, cells_line]; rfl
theorem unit_box {G L} {j : Nat} {x : UnitD} (hL : L[j]? = some none) : prim ⟨G, L⟩ (.box j) [.agg x.cells] = some (.ptr (.l j) 3 0, ⟨G, L.set j (some (sBlk x.cells true))⟩) := box_s hL
theorem plainLn (h1 : prog "haberdash/haberdashhelp.Plain[haberdash/api.Line]" = some f_help_Plain_api_Line_) (h2 : prog "haberdash/haberdashhelp.Same[haberdash/api.Line]" = some f_help_Same_api_Line_)
    (h3 : prog "haberdash/haberdashhelp.Plain[haberdash/api.Line]$1" = some f_help_Plain_api_Line__1) : PlainOK prog "haberdash/haberdashhelp.Plain[haberdash/api.Line]" lnE := by
  refine plain_ok (same := "haberdash/haberdashhelp.Same[haberdash/api.Line]") (one := "haberdash/haberdashhelp.Plain[haberdash/api.Line]$1") (h1.trans (congrArg some (by rfl))) (h2.trans (congrArg some (by rfl))) fun {G} x y => ?_
  refine call_of_fin h3 ?_
  simp only [f_help_Plain_api_Line__1_B, enter, List.length_cons, List.length_nil, List.replicate, Nat.reduceAdd, Nat.reduceSub, List.cons_append, List.nil_append, lnE_av]
  simp (disch := first | (simp only [DS, reduceCtorEq]; done) | omega) only [WS, St.guard, St.put, evalO, reduceCtorEq, reduceIte, Nat.reduceAdd, Nat.reduceEqDiff, new_s, virtBlk_eq, box_s, box_vs, box_vi, box_vb, px_load_l, px_load_o, loadB_s, storeX, storeB_s, alloc_s, lay, whole, Option.join_some, List.drop_zero, List.drop_succ_cons, List.take_succ_cons, List.take_zero, List.drop_nil, List.nil_append, List.cons_append, Nat.reduceLeDiff, Nat.zero_add, and_self, and_true, cells_int, cells_bool, cells_str, cells_string, cells_agg, cells_own, cells_ro, cells_ptr, cells_nil, AV.lf.lfs, AV.lf, px_build, fills, build_string, build_str, build_int, WDR_some, Nat.reduceLeDiff, Nat.le_refl, Bool.and_self, line_box, lc3, lt3, cells_line, fin_tmp, leave_v]
  simp
theorem plainU (h1 : prog "haberdash/haberdashhelp.Plain[haberdash/api.Unit]" = some f_help_Plain_api_Unit_) (h2 : prog "haberdash/haberdashhelp.Same[haberdash/api.Unit]" = some f_help_Same_api_Unit_)
    (h3 : prog "haberdash/haberdashhelp.Plain[haberdash/api.Unit]$1" = some f_help_Plain_api_Unit__1) : PlainOK prog "haberdash/haberdashhelp.Plain[haberdash/api.Unit]" uE := by
  refine plain_ok (same := "haberdash/haberdashhelp.Same[haberdash/api.Unit]") (one := "haberdash/haberdashhelp.Plain[haberdash/api.Unit]$1") (h1.trans (congrArg some (by rfl))) (h2.trans (congrArg some (by rfl))) fun {G} x y => ?_
  refine call_of_fin h3 ?_
  simp only [f_help_Plain_api_Unit__1_B, enter, List.length_cons, List.length_nil, List.replicate, Nat.reduceAdd, Nat.reduceSub, List.cons_append, List.nil_append, uE_av]
  simp (disch := first | (simp only [DS, reduceCtorEq]; done) | omega) only [WS, St.guard, St.put, evalO, reduceCtorEq, reduceIte, Nat.reduceAdd, Nat.reduceEqDiff, new_s, virtBlk_eq, box_s, box_vs, box_vi, box_vb, px_load_l, px_load_o, loadB_s, storeX, storeB_s, alloc_s, lay, whole, Option.join_some, List.drop_zero, List.drop_succ_cons, List.take_succ_cons, List.take_zero, List.drop_nil, List.nil_append, List.cons_append, Nat.reduceLeDiff, Nat.zero_add, and_self, and_true, cells_int, cells_bool, cells_str, cells_string, cells_agg, cells_own, cells_ro, cells_ptr, cells_nil, AV.lf.lfs, AV.lf, px_build, fills, build_string, build_str, build_int, WDR_some, Nat.reduceLeDiff, Nat.le_refl, Bool.and_self, unit_box, uc3, ut3, cells_unit, fin_tmp, leave_v]
  simp
theorem keptLn (hk : prog "haberdash/haberdashhelp.Kept[haberdash/api.Line]" = some f_help_Kept_api_Line_) (hpl : PlainOK prog "haberdash/haberdashhelp.Plain[haberdash/api.Line]" lnE) {G p b} {xs : List LineD} (x0 : LineD) (hp : G[p]? = some (some (dBlk (ownCells lnE xs x0) false false))) (w : ∀ L, TView lnE ⟨G, L⟩ b xs) (hx : xs.length < 2 ^ 61) :
    Ev prog (.call "haberdash/haberdashhelp.Kept[haberdash/api.Line]" [.own (.o p) ((xs.length + 3) * 3) 0 xs.length 3 (some (xs.length + 3)), b, lnE.av x0] G) (.ret (.v (.bool true)) G) :=
  keptB_spec (prog := prog) (T := lnE) (plain := "haberdash/haberdashhelp.Plain[haberdash/api.Line]") (cmp := .eq true [.str, .int, .int]) (x0 := x0) rfl (hk.trans (congrArg some (by rfl))) hpl rfl (fun h => by
    rw [lnE_av, eq_line]; simp) hp w hx
abbrev lineTy : Ty := .fcons .str (.fcons (.int .i64) (.fcons (.int .i64) .fnil))
theorem is_line {cs : List AV} (h : lineTy.Is cs) : ∃ x : LineD, cs = x.cells := by
  obtain ⟨c1, r1, rfl, h1, c2, r2, rfl, h2, c3, r3, rfl, h3, h5⟩ := h
  obtain ⟨s, rfl, hs⟩ := is_str h1
  obtain ⟨n, rfl, hn⟩ := is_i64 h2
  obtain ⟨m, rfl, hm⟩ := is_i64 h3
  exact ⟨⟨s, n, m⟩, by rw [show r3 = [] from h5]; rfl⟩
theorem is_lines {cs : List AV} (h : (Ty.slice lineTy).Is cs) : ∃ a, ∃ xs : List LineD, cs = [a] ∧ (∀ h, TView lnE h a xs) ∧ xs.length ≤ maxLen := by
  rcases h with rfl | ⟨es, rfl, h, hl⟩
  · exact ⟨_, [], rfl, fun h => view_nil' (by decide), by simp⟩
  · obtain ⟨xs, hb⟩ : ∃ xs : List LineD, es = xs.map lnE.E := by
      clear hl
      induction es with
      | nil => exact ⟨[], rfl⟩
      | cons e es ih =>
        obtain ⟨xs, hb⟩ := ih fun x hx => h x (by simp [hx])
        obtain ⟨x, rfl⟩ := is_line (h e (by simp))
        exact ⟨x :: xs, by rw [hb]; rfl⟩
    subst hb
    have e : (xs.map lnE.E).flatten = lnE.row xs := by rw [Enc.row, List.flatMap_def]
    refine ⟨_, xs, rfl, fun h => ?_, by simpa using hl⟩
    rw [e, List.length_map]
    exact view_ro (by decide) (lnE.row_len xs)
def capI (n : Int) : Int := if 3000 < n then 3000 else n
def cntS (c : Int) (x : LineD) : Int := if x.qty > 0 then capI (c + capI x.qty) else c
def cntL (xs : List LineD) : Int := xs.foldl cntS 0
theorem cntS_le {c x} (h : 0 ≤ c ∧ c ≤ 3000) : 0 ≤ cntS c x ∧ cntS c x ≤ 3000 := by
  unfold cntS capI
  split
  · split
    · omega
    · split <;> omega
  · exact h
theorem cntL_le : ∀ {xs : List LineD} {c : Int}, 0 ≤ c ∧ c ≤ 3000 → 0 ≤ xs.foldl cntS c ∧ xs.foldl cntS c ≤ 3000
  | [], c, h => h
  | x :: xs, c, h => cntL_le (xs := xs) (cntS_le h)
theorem lawUnits_spec (hf : prog "haberdash/haberdashlaw14.units" = some f_law14_units) {G a} {xs : List LineD} (v : ∀ L, TView lnE ⟨G, L⟩ a xs) (hml : xs.length ≤ maxLen) :
    Ev prog (.call "haberdash/haberdashlaw14.units" [a] G) (.ret (.v (.int .i64 (cntL xs))) G) := by
  have hm' : xs.length ≤ 9223372036854775807 := hml
  refine call_of_fin hf ?_
  simp only [f_law14_units_B, enter, List.length_cons, List.length_nil, List.replicate, Nat.reduceAdd, Nat.reduceSub, List.cons_append, List.nil_append]
  simp (disch := first | (simp only [DS, reduceCtorEq]; done) | omega) only [WS, St.guard, St.put, evalO, reduceCtorEq, reduceIte, Nat.reduceAdd, Nat.reduceEqDiff, new_s, virtBlk_eq, box_s, box_vs, box_vi, box_vb, px_load_l, px_load_o, loadB_s, storeX, storeB_s, alloc_s, lay, whole, Option.join_some, List.drop_zero, List.drop_succ_cons, List.take_succ_cons, List.take_zero, List.drop_nil, List.nil_append, List.cons_append, Nat.reduceLeDiff, Nat.zero_add, and_self, and_true, cells_int, cells_bool, cells_str, cells_string, cells_agg, cells_own, cells_ro, cells_ptr, cells_nil, AV.lf.lfs, AV.lf, px_build, fills, build_string, build_str, build_int, WDR_some, Nat.reduceLeDiff, Nat.le_refl, Bool.and_self]
  refine WC_count (fun i => ⟨f_law14_units_H0 a (.v (.int .i64 (cntL (xs.take i)))) (.v (.int .i64 (i : Nat))), ⟨G, []⟩⟩) xs.length ?_ (fun i hi => ?_) ?_
  · simp only [clear_nil, List.foldl_cons, List.foldl_nil, Option.some.injEq, LS, reduceCtorEq, reduceIte, Nat.reduceAdd]; rfl
  · have hlt' : (i : Int) < (xs.length : Int) := by omega
    have hx : xs[i]? = some xs[i] := List.getElem?_eq_getElem hi
    generalize xs[i] = x at *
    have q := fun L => ln_at (v L) hx
    have e : cntL (xs.take (i + 1)) = cntS (cntL (xs.take i)) x := by rw [take_succ' hx]; unfold cntL; rw [List.foldl_append]; rfl
    have hc : 0 ≤ cntL (xs.take i) ∧ cntL (xs.take i) ≤ 3000 := cntL_le ⟨by omega, by omega⟩
    by_cases h0 : x.qty > 0
    · have hw : IntKind.i64.wrap (cntL (xs.take i) + capI x.qty) = cntL (xs.take i) + capI x.qty := by
        have : 0 ≤ capI x.qty ∧ capI x.qty ≤ 3000 := by unfold capI; split <;> omega
        exact wrap_i64_of (by omega) (by omega)
      have ec : cntS (cntL (xs.take i)) x = capI (cntL (xs.take i) + capI x.qty) := if_pos h0
      have hc1 : 0 ≤ capI x.qty ∧ capI x.qty ≤ 3000 := by unfold capI; split <;> omega
      have m1 : ∀ n : Int, mins .i64 n [.v (.int .i64 3000)] = some (capI n) := fun n => rfl
      simp (disch := first | (simp only [DS, reduceCtorEq]; done) | omega) only [f_law14_units_L0, f_law14_units_H0, WS, St.guard, St.put, evalO, reduceCtorEq, reduceIte, Nat.reduceAdd, Nat.reduceEqDiff, new_s, virtBlk_eq, box_s, box_vs, box_vi, box_vb, px_load_l, px_load_o, loadB_s, storeX, storeB_s, alloc_s, lay, whole, Option.join_some, List.drop_zero, List.drop_succ_cons, List.take_succ_cons, List.take_zero, List.drop_nil, List.nil_append, List.cons_append, Nat.reduceLeDiff, Nat.zero_add, and_self, and_true, cells_int, cells_bool, cells_str, cells_string, cells_agg, cells_own, cells_ro, cells_ptr, cells_nil, AV.lf.lfs, AV.lf, px_build, fills, build_string, build_str, build_int, WDR_some, Nat.reduceLeDiff, Nat.le_refl, Bool.and_self, (v _).lenSlice, hlt', decide_true, (q _).ix, (q _).f1, (q _).l1, h0, m1, hw, vBin_add_i64, e, ec, clear_nil, List.foldl_cons, List.foldl_nil, Option.some.injEq]
      rfl
    · have ec : cntS (cntL (xs.take i)) x = cntL (xs.take i) := if_neg h0
      simp (disch := first | (simp only [DS, reduceCtorEq]; done) | omega) only [f_law14_units_L0, f_law14_units_H0, WS, St.guard, St.put, evalO, reduceCtorEq, reduceIte, Nat.reduceAdd, Nat.reduceEqDiff, new_s, virtBlk_eq, box_s, box_vs, box_vi, box_vb, px_load_l, px_load_o, loadB_s, storeX, storeB_s, alloc_s, lay, whole, Option.join_some, List.drop_zero, List.drop_succ_cons, List.take_succ_cons, List.take_zero, List.drop_nil, List.nil_append, List.cons_append, Nat.reduceLeDiff, Nat.zero_add, and_self, and_true, cells_int, cells_bool, cells_str, cells_string, cells_agg, cells_own, cells_ro, cells_ptr, cells_nil, AV.lf.lfs, AV.lf, px_build, fills, build_string, build_str, build_int, WDR_some, Nat.reduceLeDiff, Nat.le_refl, Bool.and_self, (v _).lenSlice, hlt', decide_true, decide_false, (q _).ix, (q _).f1, (q _).l1, h0, vBin_add_i64, e, ec, clear_nil, List.foldl_cons, List.foldl_nil, Option.some.injEq]
      rfl
  · simp (disch := first | (simp only [DS, reduceCtorEq]; done) | omega) only [f_law14_units_L0, f_law14_units_H0, WS, St.guard, St.put, evalO, reduceCtorEq, reduceIte, Nat.reduceAdd, Nat.reduceEqDiff, new_s, virtBlk_eq, box_s, box_vs, box_vi, box_vb, px_load_l, px_load_o, loadB_s, storeX, storeB_s, alloc_s, lay, whole, Option.join_some, List.drop_zero, List.drop_succ_cons, List.take_succ_cons, List.take_zero, List.drop_nil, List.nil_append, List.cons_append, Nat.reduceLeDiff, Nat.zero_add, and_self, and_true, cells_int, cells_bool, cells_str, cells_string, cells_agg, cells_own, cells_ro, cells_ptr, cells_nil, AV.lf.lfs, AV.lf, px_build, fills, build_string, build_str, build_int, WDR_some, Nat.reduceLeDiff, Nat.le_refl, Bool.and_self, (v _).lenSlice, decide_false, List.take_length, fin_tmp, leave_v]
    simp
def lineP (x : LineD) : LineD := ⟨skuAt (umod (pickV x.sku (min x.sku.length 8)) 8), (umod x.qty 10 : Nat), (umod x.price 4000 : Nat)⟩
def linesP (xs : List LineD) : List LineD := (xs.take 8).map lineP
def linesTo (xs : List LineD) (k : Nat) : List LineD := (xs.take k).map lineP
theorem linesTo_succ {xs : List LineD} {k : Nat} {x} (h : xs[k]? = some x) : linesTo xs (k + 1) = linesTo xs k ++ [lineP x] := by unfold linesTo; rw [take_succ' h]; simp
theorem linesTo_len {xs : List LineD} {k : Nat} (h : k ≤ xs.length) : (linesTo xs k).length = k := by unfold linesTo; simp; omega
theorem linesP_to {xs : List LineD} : linesP xs = linesTo xs (min xs.length 8) := by
  unfold linesP linesTo
  by_cases h : xs.length ≤ 8
  · rw [List.take_of_length_le h, Nat.min_eq_left h, List.take_length]
  · rw [Nat.min_eq_right (by omega)]
theorem linesP_len {xs : List LineD} : (linesP xs).length = min xs.length 8 := by rw [linesP_to, linesTo_len (by omega)]
theorem Lines_spec (H : PlayBase prog) (hf : prog "haberdash/haberdashplay.Lines" = some f_play_Lines) (h64 : prog "haberdash/haberdashplay.Mod64" = some f_play_Mod64) {G a} {xs : List LineD} (v : ∀ L, TView lnE ⟨G, L⟩ a xs) (hl : xs.length ≤ maxLen) :
    Ev prog (.call "haberdash/haberdashplay.Lines" [a] G) (.ret (.own (.o G.length) ((min xs.length 8) * 3) 0 (min xs.length 8) 3 none) (G ++ [some (dBlk (lnE.row (linesP xs)) true (decide (min xs.length 8 = 0)))])) := by
  have na : ∀ ks, noRef ks a = true := fun ks => noRef_out (View.out (v []))
  refine call_of_fin hf ?_
  simp only [f_play_Lines_B, enter, List.length_cons, List.length_nil, List.replicate, Nat.reduceAdd, Nat.reduceSub, List.cons_append, List.nil_append]
  simp (disch := first | (simp only [DS, reduceCtorEq]; done) | omega) only [WS, St.guard, St.put, evalO, reduceCtorEq, reduceIte, Nat.reduceAdd, Nat.reduceEqDiff, new_s, virtBlk_eq, box_s, box_vs, box_vi, box_vb, px_load_l, px_load_o, loadB_s, storeX, storeB_s, alloc_s, lay, whole, Option.join_some, List.drop_zero, List.drop_succ_cons, List.take_succ_cons, List.take_zero, List.drop_nil, List.nil_append, List.cons_append, Nat.reduceLeDiff, Nat.zero_add, and_self, and_true, cells_int, cells_bool, cells_str, cells_string, cells_agg, cells_own, cells_ro, cells_ptr, cells_nil, AV.lf.lfs, AV.lf, px_build, fills, build_string, build_str, build_int, WDR_some, Nat.reduceLeDiff, Nat.le_refl, Bool.and_self, nilv_s]
  refine WC_count (fun k => ⟨f_play_Lines_H0 a (.own (.l 0) (k * 3) 0 k 3 none) (.v (.int .i64 (k : Nat))), ⟨G, [some (dBlk (lnE.row (linesTo xs k)) true (decide (k = 0))), none, none]⟩⟩) (min xs.length 8) ?_ (fun k hk => ?_) ?_
  · exact clear_fre (by simp only [clear_nil, List.foldl_cons, List.foldl_nil, Option.some.injEq, LS, reduceCtorEq, reduceIte, Nat.reduceAdd]; rfl) (by rfl) (by simp only [f_play_Lines_H0, List.all_cons, List.all_nil, noRef_v, noRef_dead, noRef_own, noRef_ptr, noRef_nil, Bool.and_true, Bool.true_and, Bool.and_self, List.contains_cons, List.contains_nil, Bool.or_false, Nat.reduceBEq, Bool.not_false, na]) (by rfl)
  · have h8 : (k : Int) < 8 := by omega
    have hlt' : (k : Int) < (xs.length : Int) := by omega
    have hx : xs[k]? = some xs[k] := List.getElem?_eq_getElem (by omega)
    generalize xs[k] = x at *
    have q := fun L => ln_at (v L) hx
    simp (disch := first | (simp only [DS, reduceCtorEq]; done) | omega) only [f_play_Lines_L0, f_play_Lines_H0, WS, St.guard, St.put, evalO, reduceCtorEq, reduceIte, Nat.reduceAdd, Nat.reduceEqDiff, new_s, virtBlk_eq, box_s, box_vs, box_vi, box_vb, px_load_l, px_load_o, loadB_s, storeX, storeB_s, alloc_s, lay, whole, Option.join_some, List.drop_zero, List.drop_succ_cons, List.take_succ_cons, List.take_zero, List.drop_nil, List.nil_append, List.cons_append, Nat.reduceLeDiff, Nat.zero_add, and_self, and_true, cells_int, cells_bool, cells_str, cells_string, cells_agg, cells_own, cells_ro, cells_ptr, cells_nil, AV.lf.lfs, AV.lf, px_build, fills, build_string, build_str, build_int, WDR_some, Nat.reduceLeDiff, Nat.le_refl, Bool.and_self, (v _).lenSlice, hlt', h8, decide_true, (q _).ix, (q _).f0, (q _).l0]
    refine WDP_r (r := .v (.int .i64 (pickV x.sku (min x.sku.length 8)))) (fun X _ => by exact pick_spec H.pick) rfl (by unfold Good; dsimp only; repeat (first | exact trivial | rw [goodN] | refine ⟨dBlk_good, ?_⟩ | refine goodD (by assumption) ?_ | refine ⟨sBlk_good (by first | rfl | assumption | (simp [AV.labs.labss, AV.labs, refLt]; done)), ?_⟩)) ?_
    simp (disch := first | (simp only [DS, reduceCtorEq]; done) | omega) only [WS, St.guard, St.put, evalO, reduceCtorEq, reduceIte, Nat.reduceAdd, Nat.reduceEqDiff, new_s, virtBlk_eq, box_s, box_vs, box_vi, box_vb, px_load_l, px_load_o, loadB_s, storeX, storeB_s, alloc_s, lay, whole, Option.join_some, List.drop_zero, List.drop_succ_cons, List.take_succ_cons, List.take_zero, List.drop_nil, List.nil_append, List.cons_append, Nat.reduceLeDiff, Nat.zero_add, and_self, and_true, cells_int, cells_bool, cells_str, cells_string, cells_agg, cells_own, cells_ro, cells_ptr, cells_nil, AV.lf.lfs, AV.lf, px_build, fills, build_string, build_str, build_int, WDR_some, Nat.reduceLeDiff, Nat.le_refl, Bool.and_self]
    refine WDP_r (r := .v (str (skuAt (umod (pickV x.sku (min x.sku.length 8)) 8)))) (fun X _ => by exact Sku_spec H.sku H.mod) rfl (by unfold Good; dsimp only; repeat (first | exact trivial | rw [goodN] | refine ⟨dBlk_good, ?_⟩ | refine goodD (by assumption) ?_ | refine ⟨sBlk_good (by first | rfl | assumption | (simp [AV.labs.labss, AV.labs, refLt]; done)), ?_⟩)) ?_
    simp (disch := first | (simp only [DS, reduceCtorEq]; done) | omega) only [WS, St.guard, St.put, evalO, reduceCtorEq, reduceIte, Nat.reduceAdd, Nat.reduceEqDiff, new_s, virtBlk_eq, box_s, box_vs, box_vi, box_vb, px_load_l, px_load_o, loadB_s, storeX, storeB_s, alloc_s, lay, whole, Option.join_some, List.drop_zero, List.drop_succ_cons, List.take_succ_cons, List.take_zero, List.drop_nil, List.nil_append, List.cons_append, Nat.reduceLeDiff, Nat.zero_add, and_self, and_true, cells_int, cells_bool, cells_str, cells_string, cells_agg, cells_own, cells_ro, cells_ptr, cells_nil, AV.lf.lfs, AV.lf, px_build, fills, build_string, build_str, build_int, WDR_some, Nat.reduceLeDiff, Nat.le_refl, Bool.and_self, (q _).ix, (q _).f1, (q _).l1]
    refine WDP_r (r := .v (.int .i64 (umod x.qty 10 : Nat))) (fun X _ => by exact Mod_spec H.mod 10 rfl (by omega) (by omega)) rfl (by unfold Good; dsimp only; repeat (first | exact trivial | rw [goodN] | refine ⟨dBlk_good, ?_⟩ | refine goodD (by assumption) ?_ | refine ⟨sBlk_good (by first | rfl | assumption | (simp [AV.labs.labss, AV.labs, refLt]; done)), ?_⟩)) ?_
    simp (disch := first | (simp only [DS, reduceCtorEq]; done) | omega) only [WS, St.guard, St.put, evalO, reduceCtorEq, reduceIte, Nat.reduceAdd, Nat.reduceEqDiff, new_s, virtBlk_eq, box_s, box_vs, box_vi, box_vb, px_load_l, px_load_o, loadB_s, storeX, storeB_s, alloc_s, lay, whole, Option.join_some, List.drop_zero, List.drop_succ_cons, List.take_succ_cons, List.take_zero, List.drop_nil, List.nil_append, List.cons_append, Nat.reduceLeDiff, Nat.zero_add, and_self, and_true, cells_int, cells_bool, cells_str, cells_string, cells_agg, cells_own, cells_ro, cells_ptr, cells_nil, AV.lf.lfs, AV.lf, px_build, fills, build_string, build_str, build_int, WDR_some, Nat.reduceLeDiff, Nat.le_refl, Bool.and_self, (q _).ix, (q _).f2, (q _).l2]
    refine WDP_r (r := .v (.int .i64 (umod x.price 4000 : Nat))) (fun X _ => by exact Mod64_spec h64 4000 rfl (by omega) (by omega)) rfl (by unfold Good; dsimp only; repeat (first | exact trivial | rw [goodN] | refine ⟨dBlk_good, ?_⟩ | refine goodD (by assumption) ?_ | refine ⟨sBlk_good (by first | rfl | assumption | (simp [AV.labs.labss, AV.labs, refLt]; done)), ?_⟩)) ?_
    simp (disch := first | (simp only [DS, reduceCtorEq]; done) | omega) only [WS, St.guard, St.put, evalO, reduceCtorEq, reduceIte, Nat.reduceAdd, Nat.reduceEqDiff, new_s, virtBlk_eq, box_s, box_vs, box_vi, box_vb, px_load_l, px_load_o, loadB_s, storeX, storeB_s, alloc_s, lay, whole, Option.join_some, List.drop_zero, List.drop_succ_cons, List.take_succ_cons, List.take_zero, List.drop_nil, List.nil_append, List.cons_append, Nat.reduceLeDiff, Nat.zero_add, and_self, and_true, cells_int, cells_bool, cells_str, cells_string, cells_agg, cells_own, cells_ro, cells_ptr, cells_nil, AV.lf.lfs, AV.lf, px_build, fills, build_string, build_str, build_int, WDR_some, Nat.reduceLeDiff, Nat.le_refl, Bool.and_self]
    have hb : ∀ L, L[1]? = some none → prim ⟨G, L⟩ (.buildSlice 1 false 3 1 [.string ⟨#[]⟩, .int .i64 0, .int .i64 0] [(0, 3)]) [.agg [.v (str (skuAt (umod (pickV x.sku (min x.sku.length 8)) 8))), .v (.int .i64 (umod x.qty 10 : Nat)), .v (.int .i64 (umod x.price 4000 : Nat))]] =
        some (.own (.l 1) 3 0 1 3 (some 1), ⟨G, L.set 1 (some (dBlk (lineP x).cells false false))⟩) := fun L hL => build_T (T := lnE) (zs := lnZ) (x := lineP x) rfl hL
    have ha : prim ⟨G, [some (dBlk (lnE.row (linesTo xs k)) true (decide (k = 0))), some (dBlk (lineP x).cells false false), none]⟩ (.append 2 false 3 32) [.own (.l 0) (k * 3) 0 k 3 none, .own (.l 1) 3 0 1 3 (some 1)] =
        some (.own (.l 0) ((k + 1) * 3) 0 (k + 1) 3 none, ⟨G, [some (dBlk (lnE.row (linesTo xs (k + 1))) true false), some (dBlk (lineP x).cells false false), none]⟩) := by
      have := append_T (T := lnE) (site := 2) (j := 0) (m := 1) (bytes := 32) (xs := linesTo xs k) (x := lineP x) (cap := some 1) (G := G) (L := [some (dBlk (lnE.row (linesTo xs k)) true (decide (k = 0))), some (dBlk (lineP x).cells false false), none]) rfl rfl (by rw [linesTo_len (by omega)]; unfold room; omega) (by simp)
      rw [linesTo_len (by omega), ← linesTo_succ hx] at this
      exact this
    refine WDP_er (by unfold Good; dsimp only; repeat (first | exact trivial | rw [goodN] | refine ⟨dBlk_good, ?_⟩ | refine goodD (by assumption) ?_ | refine ⟨sBlk_good (by first | rfl | assumption | (simp [AV.labs.labss, AV.labs, refLt]; done)), ?_⟩)) rfl ?_
    simp (disch := first | (simp only [DS, reduceCtorEq]; done) | omega) only [WDX_some, reduceIte, if_true, if_false, Bool.and_true, Bool.true_and, true_and, Bool.false_eq_true, false_or, true_or, Hp.over, AM.over, over_nil, List.foldl_cons, List.foldl_nil, List.set_cons_zero, List.set_cons_succ, List.getElem?_cons_zero, List.getElem?_cons_succ, Option.join_some, List.length_cons, List.length_nil, Prim.sites, List.cons_append, List.nil_append, hb]
    refine ⟨⟨rfl, (by unfold Good; dsimp only; repeat (first | exact trivial | rw [goodN] | refine ⟨dBlk_good, ?_⟩ | refine goodD (by assumption) ?_ | refine ⟨sBlk_good (by first | rfl | assumption | (simp [AV.labs.labss, AV.labs, refLt]; done)), ?_⟩))⟩, ?_⟩
    simp (disch := first | (simp only [DS, reduceCtorEq]; done) | omega) only [WS, St.guard, St.put, evalO, reduceCtorEq, reduceIte, Nat.reduceAdd, Nat.reduceEqDiff, new_s, virtBlk_eq, box_s, box_vs, box_vi, box_vb, px_load_l, px_load_o, loadB_s, storeX, storeB_s, alloc_s, lay, whole, Option.join_some, List.drop_zero, List.drop_succ_cons, List.take_succ_cons, List.take_zero, List.drop_nil, List.nil_append, List.cons_append, Nat.reduceLeDiff, Nat.zero_add, and_self, and_true, cells_int, cells_bool, cells_str, cells_string, cells_agg, cells_own, cells_ro, cells_ptr, cells_nil, AV.lf.lfs, AV.lf, px_build, fills, build_string, build_str, build_int, WDR_some, Nat.reduceLeDiff, Nat.le_refl, Bool.and_self]
    refine WDP_er (by unfold Good; dsimp only; repeat (first | exact trivial | rw [goodN] | refine ⟨dBlk_good, ?_⟩ | refine goodD (by assumption) ?_ | refine ⟨sBlk_good (by first | rfl | assumption | (simp [AV.labs.labss, AV.labs, refLt]; done)), ?_⟩)) rfl ?_
    simp (disch := first | (simp only [DS, reduceCtorEq]; done) | omega) only [WDX_some, reduceIte, if_true, if_false, Bool.and_true, Bool.true_and, true_and, Bool.false_eq_true, false_or, true_or, Hp.over, AM.over, over_nil, List.foldl_cons, List.foldl_nil, List.set_cons_zero, List.set_cons_succ, List.getElem?_cons_zero, List.getElem?_cons_succ, Option.join_some, List.length_cons, List.length_nil, Prim.sites, List.cons_append, List.nil_append, ha]
    refine ⟨⟨rfl, (by unfold Good; dsimp only; repeat (first | exact trivial | rw [goodN] | refine ⟨dBlk_good, ?_⟩ | refine goodD (by assumption) ?_ | refine ⟨sBlk_good (by first | rfl | assumption | (simp [AV.labs.labss, AV.labs, refLt]; done)), ?_⟩))⟩, ?_⟩
    simp (disch := first | (simp only [DS, reduceCtorEq]; done) | omega) only [WS, St.guard, St.put, evalO, reduceCtorEq, reduceIte, Nat.reduceAdd, Nat.reduceEqDiff, new_s, virtBlk_eq, box_s, box_vs, box_vi, box_vb, px_load_l, px_load_o, loadB_s, storeX, storeB_s, alloc_s, lay, whole, Option.join_some, List.drop_zero, List.drop_succ_cons, List.take_succ_cons, List.take_zero, List.drop_nil, List.nil_append, List.cons_append, Nat.reduceLeDiff, Nat.zero_add, and_self, and_true, cells_int, cells_bool, cells_str, cells_string, cells_agg, cells_own, cells_ro, cells_ptr, cells_nil, AV.lf.lfs, AV.lf, px_build, fills, build_string, build_str, build_int, WDR_some, Nat.reduceLeDiff, Nat.le_refl, Bool.and_self, vBin_add_i64]
    exact clear_fre (by simp only [clear_nil, List.foldl_cons, List.foldl_nil, Option.some.injEq, LS, reduceCtorEq, reduceIte, Nat.reduceAdd]; rfl) (by rfl) (by simp only [f_play_Lines_H0, List.all_cons, List.all_nil, noRef_v, noRef_dead, noRef_own, noRef_ptr, noRef_nil, Bool.and_true, Bool.true_and, Bool.and_self, List.contains_cons, List.contains_nil, Bool.or_false, Nat.reduceBEq, Bool.not_false, na]) (by rfl)
  · have fin1 : (⟨G, [some (dBlk (lnE.row (linesTo xs (min xs.length 8))) true (decide (min xs.length 8 = 0))), none, none]⟩ : Hp).leave (.own (.l 0) (min xs.length 8 * 3) 0 (min xs.length 8) 3 none) = some (.own (.o G.length) ((min xs.length 8) * 3) 0 (min xs.length 8) 3 none, G ++ [some (dBlk (lnE.row (linesP xs)) true (decide (min xs.length 8 = 0)))]) := by
      rw [leave_own1 (b := dBlk (lnE.row (linesTo xs (min xs.length 8))) true (decide (min xs.length 8 = 0))) (by rfl) (by rfl), linesP_to]
    by_cases h8 : xs.length < 8
    · have e1 : ¬ (((min xs.length 8 : Nat) : Int) < (xs.length : Int)) := by omega
      simp (disch := first | (simp only [DS, reduceCtorEq]; done) | omega) only [f_play_Lines_L0, f_play_Lines_H0, WS, St.guard, St.put, evalO, reduceCtorEq, reduceIte, Nat.reduceAdd, Nat.reduceEqDiff, new_s, virtBlk_eq, box_s, box_vs, box_vi, box_vb, px_load_l, px_load_o, loadB_s, storeX, storeB_s, alloc_s, lay, whole, Option.join_some, List.drop_zero, List.drop_succ_cons, List.take_succ_cons, List.take_zero, List.drop_nil, List.nil_append, List.cons_append, Nat.reduceLeDiff, Nat.zero_add, and_self, and_true, cells_int, cells_bool, cells_str, cells_string, cells_agg, cells_own, cells_ro, cells_ptr, cells_nil, AV.lf.lfs, AV.lf, px_build, fills, build_string, build_str, build_int, WDR_some, Nat.reduceLeDiff, Nat.le_refl, Bool.and_self, (v _).lenSlice, e1, decide_false, fin_tmp]
      exact ⟨by simp, fin1⟩
    · by_cases h9 : xs.length = 8
      · have e1 : ¬ (((min xs.length 8 : Nat) : Int) < (xs.length : Int)) := by omega
        simp (disch := first | (simp only [DS, reduceCtorEq]; done) | omega) only [f_play_Lines_L0, f_play_Lines_H0, WS, St.guard, St.put, evalO, reduceCtorEq, reduceIte, Nat.reduceAdd, Nat.reduceEqDiff, new_s, virtBlk_eq, box_s, box_vs, box_vi, box_vb, px_load_l, px_load_o, loadB_s, storeX, storeB_s, alloc_s, lay, whole, Option.join_some, List.drop_zero, List.drop_succ_cons, List.take_succ_cons, List.take_zero, List.drop_nil, List.nil_append, List.cons_append, Nat.reduceLeDiff, Nat.zero_add, and_self, and_true, cells_int, cells_bool, cells_str, cells_string, cells_agg, cells_own, cells_ro, cells_ptr, cells_nil, AV.lf.lfs, AV.lf, px_build, fills, build_string, build_str, build_int, WDR_some, Nat.reduceLeDiff, Nat.le_refl, Bool.and_self, (v _).lenSlice, e1, decide_false, fin_tmp]
        exact ⟨by simp, fin1⟩
      · have e1 : ((min xs.length 8 : Nat) : Int) < (xs.length : Int) := by omega
        have e2 : ¬ (((min xs.length 8 : Nat) : Int) < 8) := by omega
        simp (disch := first | (simp only [DS, reduceCtorEq]; done) | omega) only [f_play_Lines_L0, f_play_Lines_H0, WS, St.guard, St.put, evalO, reduceCtorEq, reduceIte, Nat.reduceAdd, Nat.reduceEqDiff, new_s, virtBlk_eq, box_s, box_vs, box_vi, box_vb, px_load_l, px_load_o, loadB_s, storeX, storeB_s, alloc_s, lay, whole, Option.join_some, List.drop_zero, List.drop_succ_cons, List.take_succ_cons, List.take_zero, List.drop_nil, List.nil_append, List.cons_append, Nat.reduceLeDiff, Nat.zero_add, and_self, and_true, cells_int, cells_bool, cells_str, cells_string, cells_agg, cells_own, cells_ro, cells_ptr, cells_nil, AV.lf.lfs, AV.lf, px_build, fills, build_string, build_str, build_int, WDR_some, Nat.reduceLeDiff, Nat.le_refl, Bool.and_self, (v _).lenSlice, e1, e2, decide_true, decide_false, fin_tmp]
        exact ⟨by simp, fin1⟩
end Go.AM
