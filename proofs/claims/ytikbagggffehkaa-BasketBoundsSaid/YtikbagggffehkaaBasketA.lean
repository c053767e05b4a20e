import Derived.Test.YtikbagggffehkaaBasketIr
import Derived.Test.YtikbagggffehkaaGoodsA
set_option linter.unusedVariables false
set_option linter.unusedSimpArgs false
namespace Go.AM
variable {prog : String → Option IFn}
structure LineD where
  sku : Txt
  qty : Int
  price : Int
instance instDecLineD : DecidableEq LineD := fun a b =>
  if h : a.sku = b.sku ∧ (a.qty = b.qty ∧ a.price = b.price) then isTrue (by cases a; cases b; simp only at h; obtain ⟨rfl, rfl, rfl⟩ := h; rfl)
  else isFalse (by rintro rfl; exact h ⟨rfl, rfl, rfl⟩)
def LineD.cells (x : LineD) : List AV := [.v (str x.sku), .v (.int .i64 x.qty), .v (.int .i64 x.price)]
def lnE : Enc LineD := ⟨LineD.cells, 3, true, fun _ => rfl, by omega, .inl rfl, fun _ => rfl, fun h => by cases h⟩
theorem lc3 {x : LineD} : x.cells.length = 3 := rfl
theorem lt3 {x : LineD} : List.take 3 x.cells = x.cells := rfl
theorem line_box {G L} {j : Nat} {x : LineD} (hL : L[j]? = some none) : prim ⟨G, L⟩ (.box j) [.agg x.cells] = some (.ptr (.l j) 3 0, ⟨G, L.set j (some (sBlk x.cells true))⟩) := box_s hL
structure LnAt (h : Hp) (a : AV) (i : Nat) (x : LineD) : Prop where
  ix : prim h (.indexAddr 3) [a, .v (.int .i64 (i : Int))] = some (elemPtr a 3 i, h)
  ld : prim h (.load 3 true) [elemPtr a 3 i] = some (.agg x.cells, h)
  f0 : prim h (.fieldAddr 0) [elemPtr a 3 i] = some (fldPtr a 3 i 0, h)
  f1 : prim h (.fieldAddr 1) [elemPtr a 3 i] = some (fldPtr a 3 i 1, h)
  f2 : prim h (.fieldAddr 2) [elemPtr a 3 i] = some (fldPtr a 3 i 2, h)
  l0 : prim h (.load 1 false) [fldPtr a 3 i 0] = some (.v (str x.sku), h)
  l1 : prim h (.load 1 false) [fldPtr a 3 i 1] = some (.v (.int .i64 x.qty), h)
  l2 : prim h (.load 1 false) [fldPtr a 3 i 2] = some (.v (.int .i64 x.price), h)
theorem ln_at {h : Hp} {a} {xs : List LineD} (v : TView lnE h a xs) {i : Nat} {x : LineD} (hx : xs[i]? = some x) : LnAt h a i x := by
  have hi := lt_of_get hx
  have vv : View h a 3 xs.length (lnE.row xs) := v
  have ch : ((lnE.row xs).drop (i * 3)).take 3 = x.cells := lnE.row_chunk hx
  have hc : ∀ (f : Nat) (y : AV), f < 3 → x.cells[f]? = some y → (lnE.row xs)[i * 3 + f]? = some y := fun f y hf hy => by
    rw [← ch, List.getElem?_take, if_pos hf, List.getElem?_drop] at hy
    exact hy
  exact ⟨v.index hi, v.load hx, vv.field hi, vv.field hi, vv.field hi, vv.loadF hi (by omega) (hc 0 _ (by omega) rfl), vv.loadF hi (by omega) (hc 1 _ (by omega) rfl),
    vv.loadF hi (by omega) (hc 2 _ (by omega) rfl)⟩
def lq (xs : List LineD) : List (Int × Int) := xs.map fun x => (x.qty, x.price)
def qs (xs : List LineD) : Int := (xSum (lq xs)).1
def gs (xs : List LineD) : Int := (xSum (lq xs)).2
theorem qs_nil : qs [] = 0 := rfl
theorem gs_nil : gs [] = 0 := rfl
theorem qs_cons {x : LineD} {xs} : qs (x :: xs) = x.qty + qs xs := rfl
theorem gs_cons {x : LineD} {xs} : gs (x :: xs) = x.qty * x.price + gs xs := rfl
theorem qs_app : ∀ {xs : List LineD} {ys}, qs (xs ++ ys) = qs xs + qs ys
  | [], ys => by rw [List.nil_append, qs_nil]; omega
  | x :: xs, ys => by rw [List.cons_append, qs_cons, qs_cons, qs_app (xs := xs)]; omega
theorem gs_app : ∀ {xs : List LineD} {ys}, gs (xs ++ ys) = gs xs + gs ys
  | [], ys => by rw [List.nil_append, gs_nil]; omega
  | x :: xs, ys => by rw [List.cons_append, gs_cons, gs_cons, gs_app (xs := xs)]; omega
theorem take_succ' {α} {xs : List α} {i : Nat} {x : α} (h : xs[i]? = some x) : xs.take (i + 1) = xs.take i ++ [x] := by rw [List.take_add_one, h]; rfl
theorem qs_take {xs : List LineD} {i : Nat} {x : LineD} (h : xs[i]? = some x) : qs (xs.take (i + 1)) = qs (xs.take i) + x.qty := by
  rw [take_succ' h, qs_app, qs_cons, qs_nil]; omega
theorem gs_take {xs : List LineD} {i : Nat} {x : LineD} (h : xs[i]? = some x) : gs (xs.take (i + 1)) = gs (xs.take i) + x.qty * x.price := by
  rw [take_succ' h, gs_app, gs_cons, gs_nil]; omega
def okL (x : LineD) : Bool := decide (0 ≤ x.qty) && (decide (x.qty ≤ 100000) && (decide (0 ≤ x.price) && decide (x.price ≤ 1000000000)))
theorem okL_iff {x : LineD} : okL x = true ↔ 0 ≤ x.qty ∧ x.qty ≤ 100000 ∧ 0 ≤ x.price ∧ x.price ≤ 1000000000 := by simp [okL]
theorem okL_mul {x : LineD} (h : okL x = true) : 0 ≤ x.qty * x.price ∧ x.qty * x.price ≤ 100000000000000 := by
  obtain ⟨h1, h2, h3, h4⟩ := okL_iff.1 h
  refine ⟨Int.mul_nonneg h1 h3, ?_⟩
  exact Int.le_trans (Int.mul_le_mul h2 h4 h3 (by omega)) (by omega)
theorem sums_le : ∀ {xs : List LineD}, (∀ x ∈ xs, okL x = true) → 0 ≤ qs xs ∧ qs xs ≤ 100000 * (xs.length : Int) ∧ 0 ≤ gs xs ∧ gs xs ≤ 100000000000000 * (xs.length : Int)
  | [], _ => ⟨Int.le_refl _, Int.le_refl _, Int.le_refl _, Int.le_refl _⟩
  | x :: xs, h => by
    obtain ⟨a, b, c, d⟩ := sums_le (xs := xs) fun y hy => h y (List.mem_cons_of_mem _ hy)
    obtain ⟨e, f⟩ := okL_mul (h x (List.mem_cons_self ..))
    obtain ⟨g, i, _, _⟩ := okL_iff.1 (h x (List.mem_cons_self ..))
    rw [qs_cons, gs_cons, List.length_cons]
    omega
theorem lq_len {xs : List LineD} : (lq xs).length = xs.length := by simp [lq]
def mayL (xs : List LineD) : Bool := decide (xs.length ≤ 1000) && xs.all okL && (decide (qs xs ≤ 100000) && decide (gs xs ≤ 10000000000000))
theorem mayL_x {xs : List LineD} : xMay (lq xs) = mayL xs := by
  unfold xMay mayL
  rw [lq_len]
  congr 2
  unfold lq
  rw [List.all_map]; rfl
def lineCode (kn : Txt → Bool) : List LineD → Int
  | [] => 0
  | x :: xs => if kn x.sku then if okL x then lineCode kn xs else 2 else 7
theorem lineCode_ok {kn} : ∀ {xs : List LineD}, lineCode kn xs = 0 → (∀ x ∈ xs, kn x.sku = true ∧ okL x = true)
  | [], _, x, hx => by cases hx
  | y :: ys, h, x, hx => by
    unfold lineCode at h
    cases h1 : kn y.sku
    · rw [h1] at h; simp at h
    cases h2 : okL y
    · rw [h1, h2] at h; simp at h
    rw [h1, h2] at h
    rcases List.mem_cons.1 hx with rfl | hx
    · exact ⟨h1, h2⟩
    · exact lineCode_ok (xs := ys) h x hx
theorem lineCode_all {kn} : ∀ {xs : List LineD}, (∀ x ∈ xs, kn x.sku = true ∧ okL x = true) → lineCode kn xs = 0
  | [], _ => rfl
  | y :: ys, h => by
    obtain ⟨h1, h2⟩ := h y (List.mem_cons_self ..)
    unfold lineCode
    rw [h1, h2]
    exact lineCode_all fun x hx => h x (List.mem_cons_of_mem _ hx)
theorem lineCode_drop {kn} {xs : List LineD} {i : Nat} {x : LineD} (h : xs[i]? = some x) : lineCode kn (xs.drop i) = if kn x.sku then if okL x then lineCode kn (xs.drop (i + 1)) else 2 else 7 := by
  have hi := lt_of_get h
  rw [List.drop_eq_getElem_cons hi, show xs[i] = x from by rw [List.getElem?_eq_getElem hi] at h; exact Option.some.inj h]
  rfl
def overL (xs : List LineD) : Bool := decide (qs xs > 100000) || decide (gs xs > 10000000000000)
def checkV (kn : Txt → Bool) (xs : List LineD) : Int :=
  if xs.length > 1000 then 6 else if lineCode kn xs = 0 then if overL xs then 5 else 0 else lineCode kn xs
theorem checkV_may {xs : List LineD} : (checkV (fun _ => true) xs == 0) = mayL xs := by
  unfold checkV mayL overL
  by_cases h1 : xs.length > 1000
  · rw [if_pos h1, decide_eq_false (p := xs.length ≤ 1000) (by omega)]; rfl
  rw [if_neg h1, decide_eq_true (p := xs.length ≤ 1000) (by omega)]
  by_cases h2 : lineCode (fun _ => true) xs = 0
  · have ha : xs.all okL = true := by rw [List.all_eq_true]; exact fun x hx => (lineCode_ok h2 x hx).2
    rw [if_pos h2, ha]
    by_cases h3 : qs xs ≤ 100000
    · by_cases h4 : gs xs ≤ 10000000000000
      · rw [decide_eq_true h3, decide_eq_true h4, decide_eq_false (p := qs xs > 100000) (by omega), decide_eq_false (p := gs xs > 10000000000000) (by omega)]; rfl
      · rw [decide_eq_true h3, decide_eq_false h4, decide_eq_false (p := qs xs > 100000) (by omega), decide_eq_true (p := gs xs > 10000000000000) (by omega)]; rfl
    · rw [decide_eq_false h3, decide_eq_true (p := qs xs > 100000) (by omega)]; rfl
  · have ha : xs.all okL = false := by
      cases h : xs.all okL
      · rfl
      · rw [List.all_eq_true] at h
        exact absurd (lineCode_all (kn := fun _ => true) fun x hx => ⟨rfl, h x hx⟩) h2
    rw [if_neg h2, ha, beq_eq_false_iff_ne.2 h2]; rfl
theorem line_spec (hf : prog "haberdash/basket.line" = some f_basket_line) {G} {x : LineD} :
    Ev prog (.call "haberdash/basket.line" [.agg x.cells] G) (.ret (.v (.bool (okL x))) G) := by
  refine call_of_fin hf ?_
  simp only [f_basket_line_B, enter, List.length_cons, List.length_nil, List.replicate, Nat.reduceAdd, Nat.reduceSub, List.cons_append, List.nil_append]
  simp (disch := first | (simp only [DS, reduceCtorEq]; done) | omega) only [WS, St.guard, St.put, evalO, reduceCtorEq, reduceIte, Nat.reduceAdd, Nat.reduceEqDiff, new_s, virtBlk_eq, box_s, box_vs, box_vi, box_vb, px_load_l, px_load_o, loadB_s, storeX, storeB_s, alloc_s, lay, whole, Option.join_some, List.drop_zero, List.drop_succ_cons, List.take_succ_cons, List.take_zero, List.drop_nil, List.nil_append, List.cons_append, Nat.reduceLeDiff, Nat.zero_add, and_self, and_true, cells_int, cells_bool, cells_str, cells_string, cells_agg, cells_own, cells_ro, cells_ptr, cells_nil, AV.lf.lfs, AV.lf, px_build, fills, build_string, build_str, build_int, WDR_some, Nat.reduceLeDiff, Nat.le_refl, Bool.and_self, line_box, LineD.cells]
  unfold okL
  by_cases h1 : x.qty ≥ 0
  case neg =>
    simp (disch := first | (simp only [DS, reduceCtorEq]; done) | omega) only [WS, St.guard, St.put, evalO, reduceCtorEq, reduceIte, Nat.reduceAdd, Nat.reduceEqDiff, new_s, virtBlk_eq, box_s, box_vs, box_vi, box_vb, px_load_l, px_load_o, loadB_s, storeX, storeB_s, alloc_s, lay, whole, Option.join_some, List.drop_zero, List.drop_succ_cons, List.take_succ_cons, List.take_zero, List.drop_nil, List.nil_append, List.cons_append, Nat.reduceLeDiff, Nat.zero_add, and_self, and_true, cells_int, cells_bool, cells_str, cells_string, cells_agg, cells_own, cells_ro, cells_ptr, cells_nil, AV.lf.lfs, AV.lf, px_build, fills, build_string, build_str, build_int, WDR_some, Nat.reduceLeDiff, Nat.le_refl, Bool.and_self, h1, decide_false, fin_tmp, leave_v, decide_eq_false (p := 0 ≤ x.qty) h1]
    simp
  simp (disch := first | (simp only [DS, reduceCtorEq]; done) | omega) only [WS, St.guard, St.put, evalO, reduceCtorEq, reduceIte, Nat.reduceAdd, Nat.reduceEqDiff, new_s, virtBlk_eq, box_s, box_vs, box_vi, box_vb, px_load_l, px_load_o, loadB_s, storeX, storeB_s, alloc_s, lay, whole, Option.join_some, List.drop_zero, List.drop_succ_cons, List.take_succ_cons, List.take_zero, List.drop_nil, List.nil_append, List.cons_append, Nat.reduceLeDiff, Nat.zero_add, and_self, and_true, cells_int, cells_bool, cells_str, cells_string, cells_agg, cells_own, cells_ro, cells_ptr, cells_nil, AV.lf.lfs, AV.lf, px_build, fills, build_string, build_str, build_int, WDR_some, Nat.reduceLeDiff, Nat.le_refl, Bool.and_self, h1, decide_true, decide_eq_true (p := 0 ≤ x.qty) h1]
  by_cases h2 : x.qty ≤ 100000
  case neg =>
    simp (disch := first | (simp only [DS, reduceCtorEq]; done) | omega) only [WS, St.guard, St.put, evalO, reduceCtorEq, reduceIte, Nat.reduceAdd, Nat.reduceEqDiff, new_s, virtBlk_eq, box_s, box_vs, box_vi, box_vb, px_load_l, px_load_o, loadB_s, storeX, storeB_s, alloc_s, lay, whole, Option.join_some, List.drop_zero, List.drop_succ_cons, List.take_succ_cons, List.take_zero, List.drop_nil, List.nil_append, List.cons_append, Nat.reduceLeDiff, Nat.zero_add, and_self, and_true, cells_int, cells_bool, cells_str, cells_string, cells_agg, cells_own, cells_ro, cells_ptr, cells_nil, AV.lf.lfs, AV.lf, px_build, fills, build_string, build_str, build_int, WDR_some, Nat.reduceLeDiff, Nat.le_refl, Bool.and_self, h2, decide_false, fin_tmp, leave_v]
    simp
  simp (disch := first | (simp only [DS, reduceCtorEq]; done) | omega) only [WS, St.guard, St.put, evalO, reduceCtorEq, reduceIte, Nat.reduceAdd, Nat.reduceEqDiff, new_s, virtBlk_eq, box_s, box_vs, box_vi, box_vb, px_load_l, px_load_o, loadB_s, storeX, storeB_s, alloc_s, lay, whole, Option.join_some, List.drop_zero, List.drop_succ_cons, List.take_succ_cons, List.take_zero, List.drop_nil, List.nil_append, List.cons_append, Nat.reduceLeDiff, Nat.zero_add, and_self, and_true, cells_int, cells_bool, cells_str, cells_string, cells_agg, cells_own, cells_ro, cells_ptr, cells_nil, AV.lf.lfs, AV.lf, px_build, fills, build_string, build_str, build_int, WDR_some, Nat.reduceLeDiff, Nat.le_refl, Bool.and_self, h2, decide_true]
  by_cases h3 : x.price ≥ 0
  case neg =>
    simp (disch := first | (simp only [DS, reduceCtorEq]; done) | omega) only [WS, St.guard, St.put, evalO, reduceCtorEq, reduceIte, Nat.reduceAdd, Nat.reduceEqDiff, new_s, virtBlk_eq, box_s, box_vs, box_vi, box_vb, px_load_l, px_load_o, loadB_s, storeX, storeB_s, alloc_s, lay, whole, Option.join_some, List.drop_zero, List.drop_succ_cons, List.take_succ_cons, List.take_zero, List.drop_nil, List.nil_append, List.cons_append, Nat.reduceLeDiff, Nat.zero_add, and_self, and_true, cells_int, cells_bool, cells_str, cells_string, cells_agg, cells_own, cells_ro, cells_ptr, cells_nil, AV.lf.lfs, AV.lf, px_build, fills, build_string, build_str, build_int, WDR_some, Nat.reduceLeDiff, Nat.le_refl, Bool.and_self, h3, decide_false, fin_tmp, leave_v, decide_eq_false (p := 0 ≤ x.price) h3]
    simp
  simp (disch := first | (simp only [DS, reduceCtorEq]; done) | omega) only [WS, St.guard, St.put, evalO, reduceCtorEq, reduceIte, Nat.reduceAdd, Nat.reduceEqDiff, new_s, virtBlk_eq, box_s, box_vs, box_vi, box_vb, px_load_l, px_load_o, loadB_s, storeX, storeB_s, alloc_s, lay, whole, Option.join_some, List.drop_zero, List.drop_succ_cons, List.take_succ_cons, List.take_zero, List.drop_nil, List.nil_append, List.cons_append, Nat.reduceLeDiff, Nat.zero_add, and_self, and_true, cells_int, cells_bool, cells_str, cells_string, cells_agg, cells_own, cells_ro, cells_ptr, cells_nil, AV.lf.lfs, AV.lf, px_build, fills, build_string, build_str, build_int, WDR_some, Nat.reduceLeDiff, Nat.le_refl, Bool.and_self, h3, decide_true, decide_eq_true (p := 0 ≤ x.price) h3, fin_tmp, leave_v]
  simp
theorem sums_spec (hf : prog "haberdash/basket.sums" = some f_basket_sums) {G a} {xs : List LineD} (v : ∀ L, TView lnE ⟨G, L⟩ a xs) (hl : xs.length ≤ 1000) (ho : ∀ x ∈ xs, okL x = true) :
    Ev prog (.call "haberdash/basket.sums" [a] G) (.ret (.tup [.v (.int .i64 (qs xs)), .v (.int .i64 (gs xs))]) G) := by
  have na : ∀ ks, noRef ks a = true := fun ks => noRef_out (View.out (v []))
  refine call_of_fin hf ?_
  simp only [f_basket_sums_B, enter, List.length_cons, List.length_nil, List.replicate, Nat.reduceAdd, Nat.reduceSub, List.cons_append, List.nil_append]
  simp (disch := first | (simp only [DS, reduceCtorEq]; done) | omega) only [WS, St.guard, St.put, evalO, reduceCtorEq, reduceIte, Nat.reduceAdd, Nat.reduceEqDiff, new_s, virtBlk_eq, box_s, box_vs, box_vi, box_vb, px_load_l, px_load_o, loadB_s, storeX, storeB_s, alloc_s, lay, whole, Option.join_some, List.drop_zero, List.drop_succ_cons, List.take_succ_cons, List.take_zero, List.drop_nil, List.nil_append, List.cons_append, Nat.reduceLeDiff, Nat.zero_add, and_self, and_true, cells_int, cells_bool, cells_str, cells_string, cells_agg, cells_own, cells_ro, cells_ptr, cells_nil, AV.lf.lfs, AV.lf, px_build, fills, build_string, build_str, build_int, WDR_some, Nat.reduceLeDiff, Nat.le_refl, Bool.and_self, (v _).lenSlice]
  refine WC_count (fun i => ⟨f_basket_sums_H0 (.v (.int .i64 (qs (xs.take i)))) (.v (.int .i64 (gs (xs.take i)))) a (.v (.int .i64 (xs.length : Nat))) (.v (.int .i64 (i : Nat))), ⟨G, [none]⟩⟩) xs.length ?_ (fun i hi => ?_) ?_
  · exact clear_fre (by simp only [clear_nil, List.foldl_cons, List.foldl_nil, Option.some.injEq, LS, reduceCtorEq, reduceIte, Nat.reduceAdd]; rfl) (by rfl) (by simp only [f_basket_sums_H0, List.all_cons, List.all_nil, noRef_v, noRef_dead, noRef_own, noRef_ptr, noRef_nil, Bool.and_true, Bool.true_and, Bool.and_self, List.contains_cons, List.contains_nil, Bool.or_false, Nat.reduceBEq, Bool.not_false, na]) (by rfl)
  · have hlt' : (i : Int) < (xs.length : Int) := by omega
    have hx : xs[i]? = some xs[i] := List.getElem?_eq_getElem hi
    have hxo := ho _ (List.getElem_mem hi)
    generalize xs[i] = x at *
    have q := fun L => ln_at (v L) hx
    obtain ⟨m0, m1⟩ := okL_mul hxo
    obtain ⟨o0, o1, _, _⟩ := okL_iff.1 hxo
    obtain ⟨s0, s1, s2, s3⟩ := sums_le (xs := xs.take i) fun y hy => ho y (List.mem_of_mem_take hy)
    have hti : (xs.take i).length ≤ 1000 := by rw [List.length_take]; omega
    have e1 : IntKind.i64.wrap (x.qty * x.price) = x.qty * x.price := wrap_i64_of (by omega) (by omega)
    have e2 : IntKind.i64.wrap (qs (xs.take i) + x.qty) = qs (xs.take i) + x.qty := wrap_i64_of (by omega) (by omega)
    have e3 : IntKind.i64.wrap (gs (xs.take i) + x.qty * x.price) = gs (xs.take i) + x.qty * x.price := wrap_i64_of (by omega) (by omega)
    simp (disch := first | (simp only [DS, reduceCtorEq]; done) | omega) only [f_basket_sums_L0, f_basket_sums_H0, WS, St.guard, St.put, evalO, reduceCtorEq, reduceIte, Nat.reduceAdd, Nat.reduceEqDiff, new_s, virtBlk_eq, box_s, box_vs, box_vi, box_vb, px_load_l, px_load_o, loadB_s, storeX, storeB_s, alloc_s, lay, whole, Option.join_some, List.drop_zero, List.drop_succ_cons, List.take_succ_cons, List.take_zero, List.drop_nil, List.nil_append, List.cons_append, Nat.reduceLeDiff, Nat.zero_add, and_self, and_true, cells_int, cells_bool, cells_str, cells_string, cells_agg, cells_own, cells_ro, cells_ptr, cells_nil, AV.lf.lfs, AV.lf, px_build, fills, build_string, build_str, build_int, WDR_some, Nat.reduceLeDiff, Nat.le_refl, Bool.and_self, hlt', decide_true, (q _).ix, (q _).ld, LineD.cells, vBin_mul_i64, vBin_add_i64, e1, e2, e3, qs_take hx, gs_take hx]
    exact clear_fre (by simp only [clear_nil, List.foldl_cons, List.foldl_nil, Option.some.injEq, LS, reduceCtorEq, reduceIte, Nat.reduceAdd]; rfl) (by rfl) (by simp only [f_basket_sums_H0, List.all_cons, List.all_nil, noRef_v, noRef_dead, noRef_own, noRef_ptr, noRef_nil, Bool.and_true, Bool.true_and, Bool.and_self, List.contains_cons, List.contains_nil, Bool.or_false, Nat.reduceBEq, Bool.not_false, na]) (by rfl)
  · simp (disch := first | (simp only [DS, reduceCtorEq]; done) | omega) only [f_basket_sums_L0, f_basket_sums_H0, WS, St.guard, St.put, evalO, reduceCtorEq, reduceIte, Nat.reduceAdd, Nat.reduceEqDiff, decide_false, List.take_length, fin_tmp2, or_true, true_and]
    exact leave_lf (r := .tup [.v (.int .i64 (qs xs)), .v (.int .i64 (gs xs))]) rfl
end Go.AM
namespace Go.AM
variable {prog : String → Option IFn}
theorem check_spec (hf : prog "haberdash/basket.check" = some f_basket_check) (h1 : prog "haberdash/basket.line" = some f_basket_line) (h2 : prog "haberdash/basket.sums" = some f_basket_sums) {G a fv} {xs : List LineD} (v : ∀ L, TView lnE ⟨G, L⟩ a xs) (hml : xs.length ≤ maxLen) (kn : Txt → Bool)
    (nf : ∀ ks, noRef ks fv = true) (hk : ∀ x : LineD, Ev prog (.op (.callV []) [fv, .v (str x.sku)] ⟨G, [some (sBlk x.cells true)]⟩) (.val (.v (.bool (kn x.sku))) ⟨G, [some (sBlk x.cells true)]⟩)) :
    Ev prog (.call "haberdash/basket.check" [a, fv] G) (.ret (.v (.int .i64 (checkV kn xs))) G) := by
  have na : ∀ ks, noRef ks a = true := fun ks => noRef_out (View.out (v []))
  refine call_of_fin hf ?_
  simp only [f_basket_check_B, enter, List.length_cons, List.length_nil, List.replicate, Nat.reduceAdd, Nat.reduceSub, List.cons_append, List.nil_append]
  simp (disch := first | (simp only [DS, reduceCtorEq]; done) | omega) only [WS, St.guard, St.put, evalO, reduceCtorEq, reduceIte, Nat.reduceAdd, Nat.reduceEqDiff, new_s, virtBlk_eq, box_s, box_vs, box_vi, box_vb, px_load_l, px_load_o, loadB_s, storeX, storeB_s, alloc_s, lay, whole, Option.join_some, List.drop_zero, List.drop_succ_cons, List.take_succ_cons, List.take_zero, List.drop_nil, List.nil_append, List.cons_append, Nat.reduceLeDiff, Nat.zero_add, and_self, and_true, cells_int, cells_bool, cells_str, cells_string, cells_agg, cells_own, cells_ro, cells_ptr, cells_nil, AV.lf.lfs, AV.lf, px_build, fills, build_string, build_str, build_int, WDR_some, Nat.reduceLeDiff, Nat.le_refl, Bool.and_self, (v _).lenSlice]
  by_cases hl : xs.length > 1000
  · have e : checkV kn xs = 6 := by unfold checkV; rw [if_pos hl]
    simp (disch := first | (simp only [DS, reduceCtorEq]; done) | omega) only [WS, St.guard, St.put, evalO, reduceCtorEq, reduceIte, Nat.reduceAdd, Nat.reduceEqDiff, new_s, virtBlk_eq, box_s, box_vs, box_vi, box_vb, px_load_l, px_load_o, loadB_s, storeX, storeB_s, alloc_s, lay, whole, Option.join_some, List.drop_zero, List.drop_succ_cons, List.take_succ_cons, List.take_zero, List.drop_nil, List.nil_append, List.cons_append, Nat.reduceLeDiff, Nat.zero_add, and_self, and_true, cells_int, cells_bool, cells_str, cells_string, cells_agg, cells_own, cells_ro, cells_ptr, cells_nil, AV.lf.lfs, AV.lf, px_build, fills, build_string, build_str, build_int, WDR_some, Nat.reduceLeDiff, Nat.le_refl, Bool.and_self, show (xs.length : Int) > 1000 from by omega, decide_true, fin_tmp, leave_v, e]
    simp
  have e : checkV kn xs = if lineCode kn xs = 0 then if overL xs then 5 else 0 else lineCode kn xs := by unfold checkV; rw [if_neg hl]
  simp (disch := first | (simp only [DS, reduceCtorEq]; done) | omega) only [WS, St.guard, St.put, evalO, reduceCtorEq, reduceIte, Nat.reduceAdd, Nat.reduceEqDiff, new_s, virtBlk_eq, box_s, box_vs, box_vi, box_vb, px_load_l, px_load_o, loadB_s, storeX, storeB_s, alloc_s, lay, whole, Option.join_some, List.drop_zero, List.drop_succ_cons, List.take_succ_cons, List.take_zero, List.drop_nil, List.nil_append, List.cons_append, Nat.reduceLeDiff, Nat.zero_add, and_self, and_true, cells_int, cells_bool, cells_str, cells_string, cells_agg, cells_own, cells_ro, cells_ptr, cells_nil, AV.lf.lfs, AV.lf, px_build, fills, build_string, build_str, build_int, WDR_some, Nat.reduceLeDiff, Nat.le_refl, Bool.and_self, show ¬ ((xs.length : Int) > 1000) from by omega, decide_false, (v _).lenSlice]
  refine WC_countP (fun i => lineCode kn xs = lineCode kn (xs.drop i)) (fun i => ⟨f_basket_check_H0 a fv a (.v (.int .i64 (xs.length : Nat))) (.v (.int .i64 (i : Nat))), ⟨G, [none]⟩⟩) xs.length ?_ rfl (fun i hi hp => ?_) (fun hp => ?_)
  · exact clear_fre (by simp only [clear_nil, List.foldl_cons, List.foldl_nil, Option.some.injEq, LS, reduceCtorEq, reduceIte, Nat.reduceAdd]; rfl) (by rfl) (by simp only [f_basket_check_H0, List.all_cons, List.all_nil, noRef_v, noRef_dead, noRef_own, noRef_ptr, noRef_nil, Bool.and_true, Bool.true_and, Bool.and_self, List.contains_cons, List.contains_nil, Bool.or_false, Nat.reduceBEq, Bool.not_false, na, nf]) (by rfl)
  · have hlt' : (i : Int) < (xs.length : Int) := by omega
    have hx : xs[i]? = some xs[i] := List.getElem?_eq_getElem hi
    generalize xs[i] = x at *
    have q := fun L => ln_at (v L) hx
    rw [lineCode_drop hx] at hp
    simp (disch := first | (simp only [DS, reduceCtorEq]; done) | omega) only [f_basket_check_L0, f_basket_check_H0, WS, St.guard, St.put, evalO, reduceCtorEq, reduceIte, Nat.reduceAdd, Nat.reduceEqDiff, new_s, virtBlk_eq, box_s, box_vs, box_vi, box_vb, px_load_l, px_load_o, loadB_s, storeX, storeB_s, alloc_s, lay, whole, Option.join_some, List.drop_zero, List.drop_succ_cons, List.take_succ_cons, List.take_zero, List.drop_nil, List.nil_append, List.cons_append, Nat.reduceLeDiff, Nat.zero_add, and_self, and_true, cells_int, cells_bool, cells_str, cells_string, cells_agg, cells_own, cells_ro, cells_ptr, cells_nil, AV.lf.lfs, AV.lf, px_build, fills, build_string, build_str, build_int, WDR_some, Nat.reduceLeDiff, Nat.le_refl, Bool.and_self, hlt', decide_true, (q _).ix, (q _).ld, LineD.cells]
    refine WP_of (hk x) ?_
    cases h3 : kn x.sku
    · rw [h3] at hp
      have e' : checkV kn xs = 7 := by rw [e, hp]; rfl
      simp (disch := first | (simp only [DS, reduceCtorEq]; done) | omega) only [WS, St.guard, St.put, evalO, reduceCtorEq, reduceIte, Nat.reduceAdd, Nat.reduceEqDiff, new_s, virtBlk_eq, box_s, box_vs, box_vi, box_vb, px_load_l, px_load_o, loadB_s, storeX, storeB_s, alloc_s, lay, whole, Option.join_some, List.drop_zero, List.drop_succ_cons, List.take_succ_cons, List.take_zero, List.drop_nil, List.nil_append, List.cons_append, Nat.reduceLeDiff, Nat.zero_add, and_self, and_true, cells_int, cells_bool, cells_str, cells_string, cells_agg, cells_own, cells_ro, cells_ptr, cells_nil, AV.lf.lfs, AV.lf, px_build, fills, build_string, build_str, build_int, WDR_some, Nat.reduceLeDiff, Nat.le_refl, Bool.and_self, fin_tmp, leave_v, e']
      simp
    simp (disch := first | (simp only [DS, reduceCtorEq]; done) | omega) only [WS, St.guard, St.put, evalO, reduceCtorEq, reduceIte, Nat.reduceAdd, Nat.reduceEqDiff, new_s, virtBlk_eq, box_s, box_vs, box_vi, box_vb, px_load_l, px_load_o, loadB_s, storeX, storeB_s, alloc_s, lay, whole, Option.join_some, List.drop_zero, List.drop_succ_cons, List.take_succ_cons, List.take_zero, List.drop_nil, List.nil_append, List.cons_append, Nat.reduceLeDiff, Nat.zero_add, and_self, and_true, cells_int, cells_bool, cells_str, cells_string, cells_agg, cells_own, cells_ro, cells_ptr, cells_nil, AV.lf.lfs, AV.lf, px_build, fills, build_string, build_str, build_int, WDR_some, Nat.reduceLeDiff, Nat.le_refl, Bool.and_self, lc3, lt3]
    refine (WP_p (x := .bool (okL x)) (by exact line_spec h1) (by unfold Good; dsimp only; repeat (first | exact trivial | rw [goodN] | refine ⟨dBlk_good, ?_⟩ | refine goodD (by assumption) ?_ | refine ⟨sBlk_good (by first | rfl | assumption | (simp [AV.labs.labss, AV.labs, refLt]; done)), ?_⟩))).2 ?_
    cases h4 : okL x
    · rw [h3, h4] at hp
      have e' : checkV kn xs = 2 := by rw [e, hp]; rfl
      simp (disch := first | (simp only [DS, reduceCtorEq]; done) | omega) only [WS, St.guard, St.put, evalO, reduceCtorEq, reduceIte, Nat.reduceAdd, Nat.reduceEqDiff, new_s, virtBlk_eq, box_s, box_vs, box_vi, box_vb, px_load_l, px_load_o, loadB_s, storeX, storeB_s, alloc_s, lay, whole, Option.join_some, List.drop_zero, List.drop_succ_cons, List.take_succ_cons, List.take_zero, List.drop_nil, List.nil_append, List.cons_append, Nat.reduceLeDiff, Nat.zero_add, and_self, and_true, cells_int, cells_bool, cells_str, cells_string, cells_agg, cells_own, cells_ro, cells_ptr, cells_nil, AV.lf.lfs, AV.lf, px_build, fills, build_string, build_str, build_int, WDR_some, Nat.reduceLeDiff, Nat.le_refl, Bool.and_self, fin_tmp, leave_v, e']
      simp
    rw [h3, h4] at hp
    simp (disch := first | (simp only [DS, reduceCtorEq]; done) | omega) only [WS, St.guard, St.put, evalO, reduceCtorEq, reduceIte, Nat.reduceAdd, Nat.reduceEqDiff, new_s, virtBlk_eq, box_s, box_vs, box_vi, box_vb, px_load_l, px_load_o, loadB_s, storeX, storeB_s, alloc_s, lay, whole, Option.join_some, List.drop_zero, List.drop_succ_cons, List.take_succ_cons, List.take_zero, List.drop_nil, List.nil_append, List.cons_append, Nat.reduceLeDiff, Nat.zero_add, and_self, and_true, cells_int, cells_bool, cells_str, cells_string, cells_agg, cells_own, cells_ro, cells_ptr, cells_nil, AV.lf.lfs, AV.lf, px_build, fills, build_string, build_str, build_int, WDR_some, Nat.reduceLeDiff, Nat.le_refl, Bool.and_self, vBin_add_i64]
    exact ⟨clear_fre (by simp only [clear_nil, List.foldl_cons, List.foldl_nil, Option.some.injEq, LS, reduceCtorEq, reduceIte, Nat.reduceAdd]; rfl) (by rfl) (by simp only [f_basket_check_H0, List.all_cons, List.all_nil, noRef_v, noRef_dead, noRef_own, noRef_ptr, noRef_nil, Bool.and_true, Bool.true_and, Bool.and_self, List.contains_cons, List.contains_nil, Bool.or_false, Nat.reduceBEq, Bool.not_false, na, nf]) (by rfl), hp⟩
  · have h0 : lineCode kn xs = 0 := by rw [hp, List.drop_length]; rfl
    have ho : ∀ x ∈ xs, okL x = true := fun x hx => (lineCode_ok h0 x hx).2
    rw [if_pos h0] at e
    simp (disch := first | (simp only [DS, reduceCtorEq]; done) | omega) only [f_basket_check_L0, f_basket_check_H0, WS, St.guard, St.put, evalO, reduceCtorEq, reduceIte, Nat.reduceAdd, Nat.reduceEqDiff, new_s, virtBlk_eq, box_s, box_vs, box_vi, box_vb, px_load_l, px_load_o, loadB_s, storeX, storeB_s, alloc_s, lay, whole, Option.join_some, List.drop_zero, List.drop_succ_cons, List.take_succ_cons, List.take_zero, List.drop_nil, List.nil_append, List.cons_append, Nat.reduceLeDiff, Nat.zero_add, and_self, and_true, cells_int, cells_bool, cells_str, cells_string, cells_agg, cells_own, cells_ro, cells_ptr, cells_nil, AV.lf.lfs, AV.lf, px_build, fills, build_string, build_str, build_int, WDR_some, Nat.reduceLeDiff, Nat.le_refl, Bool.and_self, decide_false]
    refine (WP_r (r := .tup [.v (.int .i64 (qs xs)), .v (.int .i64 (gs xs))]) (by exact sums_spec h2 ((v _).into) (by omega) ho) rfl (by unfold Good; dsimp only; repeat (first | exact trivial | rw [goodN] | refine ⟨dBlk_good, ?_⟩ | refine goodD (by assumption) ?_ | refine ⟨sBlk_good (by first | rfl | assumption | (simp [AV.labs.labss, AV.labs, refLt]; done)), ?_⟩))).2 ?_
    unfold overL at e
    by_cases h5 : qs xs > 100000
    · rw [decide_eq_true h5] at e
      simp (disch := first | (simp only [DS, reduceCtorEq]; done) | omega) only [WS, St.guard, St.put, evalO, reduceCtorEq, reduceIte, Nat.reduceAdd, Nat.reduceEqDiff, new_s, virtBlk_eq, box_s, box_vs, box_vi, box_vb, px_load_l, px_load_o, loadB_s, storeX, storeB_s, alloc_s, lay, whole, Option.join_some, List.drop_zero, List.drop_succ_cons, List.take_succ_cons, List.take_zero, List.drop_nil, List.nil_append, List.cons_append, Nat.reduceLeDiff, Nat.zero_add, and_self, and_true, cells_int, cells_bool, cells_str, cells_string, cells_agg, cells_own, cells_ro, cells_ptr, cells_nil, AV.lf.lfs, AV.lf, px_build, fills, build_string, build_str, build_int, WDR_some, Nat.reduceLeDiff, Nat.le_refl, Bool.and_self, h5, decide_true, fin_tmp, leave_v, e]
      simp
    rw [decide_eq_false h5] at e
    by_cases h6 : gs xs > 10000000000000
    · rw [decide_eq_true h6] at e
      simp (disch := first | (simp only [DS, reduceCtorEq]; done) | omega) only [WS, St.guard, St.put, evalO, reduceCtorEq, reduceIte, Nat.reduceAdd, Nat.reduceEqDiff, new_s, virtBlk_eq, box_s, box_vs, box_vi, box_vb, px_load_l, px_load_o, loadB_s, storeX, storeB_s, alloc_s, lay, whole, Option.join_some, List.drop_zero, List.drop_succ_cons, List.take_succ_cons, List.take_zero, List.drop_nil, List.nil_append, List.cons_append, Nat.reduceLeDiff, Nat.zero_add, and_self, and_true, cells_int, cells_bool, cells_str, cells_string, cells_agg, cells_own, cells_ro, cells_ptr, cells_nil, AV.lf.lfs, AV.lf, px_build, fills, build_string, build_str, build_int, WDR_some, Nat.reduceLeDiff, Nat.le_refl, Bool.and_self, h5, h6, decide_false, decide_true, fin_tmp, leave_v, e]
      simp
    rw [decide_eq_false h6] at e
    simp (disch := first | (simp only [DS, reduceCtorEq]; done) | omega) only [WS, St.guard, St.put, evalO, reduceCtorEq, reduceIte, Nat.reduceAdd, Nat.reduceEqDiff, new_s, virtBlk_eq, box_s, box_vs, box_vi, box_vb, px_load_l, px_load_o, loadB_s, storeX, storeB_s, alloc_s, lay, whole, Option.join_some, List.drop_zero, List.drop_succ_cons, List.take_succ_cons, List.take_zero, List.drop_nil, List.nil_append, List.cons_append, Nat.reduceLeDiff, Nat.zero_add, and_self, and_true, cells_int, cells_bool, cells_str, cells_string, cells_agg, cells_own, cells_ro, cells_ptr, cells_nil, AV.lf.lfs, AV.lf, px_build, fills, build_string, build_str, build_int, WDR_some, Nat.reduceLeDiff, Nat.le_refl, Bool.and_self, h5, h6, decide_false, fin_tmp, leave_v, e]
    simp
theorem may1_spec (hf : prog "haberdash/basket.may$1" = some f_basket_may_1) {G a} : Ev prog (.call "haberdash/basket.may$1" [a] G) (.ret (.v (.bool true)) G) := by
  refine call_of_fin hf ?_
  simp only [f_basket_may_1_B, enter, List.length_cons, List.length_nil, List.replicate, Nat.reduceAdd, Nat.reduceSub, List.cons_append, List.nil_append]
  simp (disch := first | (simp only [DS, reduceCtorEq]; done) | omega) only [WS, St.guard, St.put, evalO, reduceCtorEq, reduceIte, Nat.reduceAdd, Nat.reduceEqDiff, new_s, virtBlk_eq, box_s, box_vs, box_vi, box_vb, px_load_l, px_load_o, loadB_s, storeX, storeB_s, alloc_s, lay, whole, Option.join_some, List.drop_zero, List.drop_succ_cons, List.take_succ_cons, List.take_zero, List.drop_nil, List.nil_append, List.cons_append, Nat.reduceLeDiff, Nat.zero_add, and_self, and_true, cells_int, cells_bool, cells_str, cells_string, cells_agg, cells_own, cells_ro, cells_ptr, cells_nil, AV.lf.lfs, AV.lf, px_build, fills, build_string, build_str, build_int, WDR_some, Nat.reduceLeDiff, Nat.le_refl, Bool.and_self, fin_tmp, leave_v]
  simp
structure BasketLib (prog : String → Option IFn) : Prop where
  check : prog "haberdash/basket.check" = some f_basket_check
  line : prog "haberdash/basket.line" = some f_basket_line
  sums : prog "haberdash/basket.sums" = some f_basket_sums
  may : prog "haberdash/basket.may" = some f_basket_may
  may1 : prog "haberdash/basket.may$1" = some f_basket_may_1
theorem may_spec (H : BasketLib prog) {G a} {xs : List LineD} (v : ∀ L, TView lnE ⟨G, L⟩ a xs) (hl : xs.length ≤ maxLen) :
    Ev prog (.call "haberdash/basket.may" [a] G) (.ret (.v (.bool (mayL xs))) G) := by
  refine call_of_fin H.may ?_
  simp only [f_basket_may_B, enter, List.length_cons, List.length_nil, List.replicate, Nat.reduceAdd, Nat.reduceSub, List.cons_append, List.nil_append]
  simp (disch := first | (simp only [DS, reduceCtorEq]; done) | omega) only [WS, St.guard, St.put, evalO, reduceCtorEq, reduceIte, Nat.reduceAdd, Nat.reduceEqDiff, new_s, virtBlk_eq, box_s, box_vs, box_vi, box_vb, px_load_l, px_load_o, loadB_s, storeX, storeB_s, alloc_s, lay, whole, Option.join_some, List.drop_zero, List.drop_succ_cons, List.take_succ_cons, List.take_zero, List.drop_nil, List.nil_append, List.cons_append, Nat.reduceLeDiff, Nat.zero_add, and_self, and_true, cells_int, cells_bool, cells_str, cells_string, cells_agg, cells_own, cells_ro, cells_ptr, cells_nil, AV.lf.lfs, AV.lf, px_build, fills, build_string, build_str, build_int, WDR_some, Nat.reduceLeDiff, Nat.le_refl, Bool.and_self]
  refine (WP_p (x := .int .i64 (checkV (fun _ => true) xs)) (by
    refine check_spec H.check H.line H.sums ((v _).into) hl (fun _ => true) (fun ks => rfl) fun x => ?_
    exact .opCallV rfl (r := .v (.bool true)) (G2 := (⟨_, [some (sBlk x.cells true)]⟩ : Hp).into) (may1_spec H.may1) (back_pure rfl)) (by unfold Good; dsimp only; repeat (first | exact trivial | rw [goodN] | refine ⟨dBlk_good, ?_⟩ | refine goodD (by assumption) ?_ | refine ⟨sBlk_good (by first | rfl | assumption | (simp [AV.labs.labss, AV.labs, refLt]; done)), ?_⟩))).2 ?_
  simp (disch := first | (simp only [DS, reduceCtorEq]; done) | omega) only [WS, St.guard, St.put, evalO, reduceCtorEq, reduceIte, Nat.reduceAdd, Nat.reduceEqDiff, new_s, virtBlk_eq, box_s, box_vs, box_vi, box_vb, px_load_l, px_load_o, loadB_s, storeX, storeB_s, alloc_s, lay, whole, Option.join_some, List.drop_zero, List.drop_succ_cons, List.take_succ_cons, List.take_zero, List.drop_nil, List.nil_append, List.cons_append, Nat.reduceLeDiff, Nat.zero_add, and_self, and_true, cells_int, cells_bool, cells_str, cells_string, cells_agg, cells_own, cells_ro, cells_ptr, cells_nil, AV.lf.lfs, AV.lf, px_build, fills, build_string, build_str, build_int, WDR_some, Nat.reduceLeDiff, Nat.le_refl, Bool.and_self, fin_tmp, leave_v, checkV_may]
  simp
def grossV (xs : List LineD) : Int := if mayL xs then gs xs else 0
theorem mayL_iff {xs : List LineD} : mayL xs = true ↔ xs.length ≤ 1000 ∧ (∀ x ∈ xs, okL x = true) ∧ qs xs ≤ 100000 ∧ gs xs ≤ 10000000000000 := by
  unfold mayL
  simp only [Bool.and_eq_true, decide_eq_true_eq, List.all_eq_true]
  exact ⟨fun ⟨⟨a, b⟩, c, d⟩ => ⟨a, b, c, d⟩, fun ⟨a, b, c, d⟩ => ⟨⟨a, b⟩, c, d⟩⟩
theorem Gross_spec (H : BasketLib prog) (hf : prog "haberdash/basket.Gross" = some f_basket_Gross) {G a} {xs : List LineD} (v : ∀ L, TView lnE ⟨G, L⟩ a xs) (hl : xs.length ≤ maxLen) :
    Ev prog (.call "haberdash/basket.Gross" [a] G) (.ret (.v (.int .i64 (grossV xs))) G) := by
  refine call_of_fin hf ?_
  simp only [f_basket_Gross_B, enter, List.length_cons, List.length_nil, List.replicate, Nat.reduceAdd, Nat.reduceSub, List.cons_append, List.nil_append]
  simp (disch := first | (simp only [DS, reduceCtorEq]; done) | omega) only [WS, St.guard, St.put, evalO, reduceCtorEq, reduceIte, Nat.reduceAdd, Nat.reduceEqDiff, new_s, virtBlk_eq, box_s, box_vs, box_vi, box_vb, px_load_l, px_load_o, loadB_s, storeX, storeB_s, alloc_s, lay, whole, Option.join_some, List.drop_zero, List.drop_succ_cons, List.take_succ_cons, List.take_zero, List.drop_nil, List.nil_append, List.cons_append, Nat.reduceLeDiff, Nat.zero_add, and_self, and_true, cells_int, cells_bool, cells_str, cells_string, cells_agg, cells_own, cells_ro, cells_ptr, cells_nil, AV.lf.lfs, AV.lf, px_build, fills, build_string, build_str, build_int, WDR_some, Nat.reduceLeDiff, Nat.le_refl, Bool.and_self]
  refine (WP_p (x := .bool (mayL xs)) (by exact may_spec H ((v _).into) hl) (by unfold Good; dsimp only; repeat (first | exact trivial | rw [goodN] | refine ⟨dBlk_good, ?_⟩ | refine goodD (by assumption) ?_ | refine ⟨sBlk_good (by first | rfl | assumption | (simp [AV.labs.labss, AV.labs, refLt]; done)), ?_⟩))).2 ?_
  unfold grossV
  cases hm : mayL xs
  · simp (disch := first | (simp only [DS, reduceCtorEq]; done) | omega) only [WS, St.guard, St.put, evalO, reduceCtorEq, reduceIte, Nat.reduceAdd, Nat.reduceEqDiff, new_s, virtBlk_eq, box_s, box_vs, box_vi, box_vb, px_load_l, px_load_o, loadB_s, storeX, storeB_s, alloc_s, lay, whole, Option.join_some, List.drop_zero, List.drop_succ_cons, List.take_succ_cons, List.take_zero, List.drop_nil, List.nil_append, List.cons_append, Nat.reduceLeDiff, Nat.zero_add, and_self, and_true, cells_int, cells_bool, cells_str, cells_string, cells_agg, cells_own, cells_ro, cells_ptr, cells_nil, AV.lf.lfs, AV.lf, px_build, fills, build_string, build_str, build_int, WDR_some, Nat.reduceLeDiff, Nat.le_refl, Bool.and_self, fin_tmp, leave_v]
    simp
  obtain ⟨h1, h2, _, _⟩ := mayL_iff.1 hm
  simp (disch := first | (simp only [DS, reduceCtorEq]; done) | omega) only [WS, St.guard, St.put, evalO, reduceCtorEq, reduceIte, Nat.reduceAdd, Nat.reduceEqDiff, new_s, virtBlk_eq, box_s, box_vs, box_vi, box_vb, px_load_l, px_load_o, loadB_s, storeX, storeB_s, alloc_s, lay, whole, Option.join_some, List.drop_zero, List.drop_succ_cons, List.take_succ_cons, List.take_zero, List.drop_nil, List.nil_append, List.cons_append, Nat.reduceLeDiff, Nat.zero_add, and_self, and_true, cells_int, cells_bool, cells_str, cells_string, cells_agg, cells_own, cells_ro, cells_ptr, cells_nil, AV.lf.lfs, AV.lf, px_build, fills, build_string, build_str, build_int, WDR_some, Nat.reduceLeDiff, Nat.le_refl, Bool.and_self]
  refine (WP_r (r := .tup [.v (.int .i64 (qs xs)), .v (.int .i64 (gs xs))]) (by exact sums_spec H.sums ((v _).into) h1 h2) rfl (by unfold Good; dsimp only; repeat (first | exact trivial | rw [goodN] | refine ⟨dBlk_good, ?_⟩ | refine goodD (by assumption) ?_ | refine ⟨sBlk_good (by first | rfl | assumption | (simp [AV.labs.labss, AV.labs, refLt]; done)), ?_⟩))).2 ?_
  simp (disch := first | (simp only [DS, reduceCtorEq]; done) | omega) only [WS, St.guard, St.put, evalO, reduceCtorEq, reduceIte, Nat.reduceAdd, Nat.reduceEqDiff, new_s, virtBlk_eq, box_s, box_vs, box_vi, box_vb, px_load_l, px_load_o, loadB_s, storeX, storeB_s, alloc_s, lay, whole, Option.join_some, List.drop_zero, List.drop_succ_cons, List.take_succ_cons, List.take_zero, List.drop_nil, List.nil_append, List.cons_append, Nat.reduceLeDiff, Nat.zero_add, and_self, and_true, cells_int, cells_bool, cells_str, cells_string, cells_agg, cells_own, cells_ro, cells_ptr, cells_nil, AV.lf.lfs, AV.lf, px_build, fills, build_string, build_str, build_int, WDR_some, Nat.reduceLeDiff, Nat.le_refl, Bool.and_self, fin_tmp, leave_v]
  simp
def knI (is : List ItemD) (s : Txt) : Bool := decide (findV (skus is) s ≥ 0)
def checkI (is : List ItemD) (xs : List LineD) : Int := checkV (knI is) xs
theorem Check1_spec (H : FindLib prog) (hf : prog "haberdash/basket.Check$1" = some f_basket_Check_1) {G a d} {p : Nat} {is : List ItemD} {s : Txt} (hp : G[p]? = some (some (sBlk [a] d))) (v : ∀ L, TView itEnc ⟨G, L⟩ a is) (hl : is.length < 2 ^ 62) :
    Ev prog (.call "haberdash/basket.Check$1" [.v (str s), .ptr (.o p) 1 0] G) (.ret (.v (.bool (knI is s))) G) := by
  refine call_of_fin hf ?_
  simp only [f_basket_Check_1_B, enter, List.length_cons, List.length_nil, List.replicate, Nat.reduceAdd, Nat.reduceSub, List.cons_append, List.nil_append]
  simp (disch := first | (simp only [DS, reduceCtorEq]; done) | omega) only [WS, St.guard, St.put, evalO, reduceCtorEq, reduceIte, Nat.reduceAdd, Nat.reduceEqDiff, new_s, virtBlk_eq, box_s, box_vs, box_vi, box_vb, px_load_l, px_load_o, loadB_s, storeX, storeB_s, alloc_s, lay, whole, Option.join_some, List.drop_zero, List.drop_succ_cons, List.take_succ_cons, List.take_zero, List.drop_nil, List.nil_append, List.cons_append, Nat.reduceLeDiff, Nat.zero_add, and_self, and_true, cells_int, cells_bool, cells_str, cells_string, cells_agg, cells_own, cells_ro, cells_ptr, cells_nil, AV.lf.lfs, AV.lf, px_build, fills, build_string, build_str, build_int, WDR_some, Nat.reduceLeDiff, Nat.le_refl, Bool.and_self, hp]
  refine (WP_p (x := .int .i64 (findV (skus is) s)) (by exact Find_spec H ((v _).into) hl) (by unfold Good; dsimp only; repeat (first | exact trivial | rw [goodN] | refine ⟨dBlk_good, ?_⟩ | refine goodD (by assumption) ?_ | refine ⟨sBlk_good (by first | rfl | assumption | (simp [AV.labs.labss, AV.labs, refLt]; done)), ?_⟩))).2 ?_
  unfold knI
  simp (disch := first | (simp only [DS, reduceCtorEq]; done) | omega) only [WS, St.guard, St.put, evalO, reduceCtorEq, reduceIte, Nat.reduceAdd, Nat.reduceEqDiff, new_s, virtBlk_eq, box_s, box_vs, box_vi, box_vb, px_load_l, px_load_o, loadB_s, storeX, storeB_s, alloc_s, lay, whole, Option.join_some, List.drop_zero, List.drop_succ_cons, List.take_succ_cons, List.take_zero, List.drop_nil, List.nil_append, List.cons_append, Nat.reduceLeDiff, Nat.zero_add, and_self, and_true, cells_int, cells_bool, cells_str, cells_string, cells_agg, cells_own, cells_ro, cells_ptr, cells_nil, AV.lf.lfs, AV.lf, px_build, fills, build_string, build_str, build_int, WDR_some, Nat.reduceLeDiff, Nat.le_refl, Bool.and_self, fin_tmp, leave_v]
  simp
end Go.AM
namespace Go.AM
variable {prog : String → Option IFn}
theorem ren_outer {g : Nat} {a : AV} (h : Outer g a) (k : Nat) : a.ren (up k) = a := by
  refine ren_id fun ℓ hl => ?_
  have := List.all_eq_true.1 h ℓ hl
  cases ℓ with
  | o p => rfl
  | l j => simp [refLt] at this
theorem box_out {G L} {j : Nat} {a : AV} {esz len cells} (v : View ⟨G, []⟩ a esz len cells) (hL : L[j]? = some none) : prim ⟨G, L⟩ (.box j) [a] = some (.ptr (.l j) 1 0, ⟨G, L.set j (some (sBlk [a] (a.lf)))⟩) := by
  have hc : a.cellsOf = some [a] := by
    rcases v.cases with ⟨rfl, _⟩ | ⟨nl, rfl⟩ | ⟨ℓ, n, off, cap, B, rfl, hB, _⟩ <;> rfl
  rw [px_box, hc]
  have e : AV.lf.lfs [a] = a.lf := by simp [AV.lf.lfs]
  simp only [Option.bind_some, Hp.new, hL, Option.map_some, newBlk_s, e]
  rfl
theorem Check_spec (H : FindLib prog) (B : BasketLib prog) (hf : prog "haberdash/basket.Check" = some f_basket_Check) (h1 : prog "haberdash/basket.Check$1" = some f_basket_Check_1) {G a b} {is : List ItemD} {xs : List LineD} (v : ∀ L, TView itEnc ⟨G, L⟩ a is) (w : ∀ L, TView lnE ⟨G, L⟩ b xs) (hi : is.length < 2 ^ 62) (hl : xs.length ≤ maxLen) :
    Ev prog (.call "haberdash/basket.Check" [a, b] G) (.ret (.v (.int .i64 (checkI is xs))) G) := by
  have oa := View.out (v [])
  refine call_of_fin hf ?_
  simp only [f_basket_Check_B, enter, List.length_cons, List.length_nil, List.replicate, Nat.reduceAdd, Nat.reduceSub, List.cons_append, List.nil_append]
  simp (disch := first | (simp only [DS, reduceCtorEq]; done) | omega) only [WS, St.guard, St.put, evalO, reduceCtorEq, reduceIte, Nat.reduceAdd, Nat.reduceEqDiff, new_s, virtBlk_eq, box_s, box_vs, box_vi, box_vb, px_load_l, px_load_o, loadB_s, storeX, storeB_s, alloc_s, lay, whole, Option.join_some, List.drop_zero, List.drop_succ_cons, List.take_succ_cons, List.take_zero, List.drop_nil, List.nil_append, List.cons_append, Nat.reduceLeDiff, Nat.zero_add, and_self, and_true, cells_int, cells_bool, cells_str, cells_string, cells_agg, cells_own, cells_ro, cells_ptr, cells_nil, AV.lf.lfs, AV.lf, px_build, fills, build_string, build_str, build_int, WDR_some, Nat.reduceLeDiff, Nat.le_refl, Bool.and_self, box_out (v [])]
  have gd : Good ⟨G, [some (sBlk [a] (a.lf))]⟩ := by
    unfold Good; dsimp only
    exact ⟨sBlk_good (by simpa [AV.labs.labss, Outer] using oa), trivial⟩
  generalize hG' : (⟨G, [some (sBlk [a] (a.lf))]⟩ : Hp).into = G' at *
  have v' : ∀ L, TView itEnc ⟨G', L⟩ a is := fun L => by
    have := (v [some (sBlk [a] (a.lf))]).into L
    rw [ren_outer oa] at this
    rw [← hG']; exact this
  have w' : ∀ L, TView lnE ⟨G', L⟩ (b.ren (up G.length)) xs := fun L => by
    have := (w [some (sBlk [a] (a.lf))]).into L
    rw [← hG']; exact this
  have hat : G'[G.length + 0]? = some (some (sBlk [a] (a.lf))) := by
    rw [← hG', into_l (h := ⟨G, _⟩)]
    show some (some ((sBlk [a] (a.lf)).ren (up G.length))) = _
    unfold sBlk Blk.ren
    simp only [AV.ren.rens, ren_outer oa]
    split <;> rfl
  refine (WP_p (x := .int .i64 (checkI is xs)) (by
    rw [hG']
    refine check_spec B.check B.line B.sums w' hl (knI is) (fun ks => rfl) fun x => ?_
    refine .opCallV rfl (r := .v (.bool (knI is x.sku))) (G2 := (⟨G', [some (sBlk x.cells true)]⟩ : Hp).into) ?_ (back_pure rfl)
    refine Check1_spec H h1 (p := G.length + 0) (a := a) (d := a.lf) ?_ (fun L => ?_) hi
    · rw [into_mk, if_pos (lt_of_get hat)]; exact hat
    · have := (v' [some (sBlk x.cells true)]).into L
      rw [ren_outer oa] at this
      exact this) gd).2 ?_
  simp (disch := first | (simp only [DS, reduceCtorEq]; done) | omega) only [WS, St.guard, St.put, evalO, reduceCtorEq, reduceIte, Nat.reduceAdd, Nat.reduceEqDiff, new_s, virtBlk_eq, box_s, box_vs, box_vi, box_vb, px_load_l, px_load_o, loadB_s, storeX, storeB_s, alloc_s, lay, whole, Option.join_some, List.drop_zero, List.drop_succ_cons, List.take_succ_cons, List.take_zero, List.drop_nil, List.nil_append, List.cons_append, Nat.reduceLeDiff, Nat.zero_add, and_self, and_true, cells_int, cells_bool, cells_str, cells_string, cells_agg, cells_own, cells_ro, cells_ptr, cells_nil, AV.lf.lfs, AV.lf, px_build, fills, build_string, build_str, build_int, WDR_some, Nat.reduceLeDiff, Nat.le_refl, Bool.and_self, fin_tmp, leave_v]
  simp
end Go.AM
