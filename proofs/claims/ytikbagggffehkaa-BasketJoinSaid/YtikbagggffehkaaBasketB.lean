import Derived.Test.YtikbagggffehkaaBasketA
set_option linter.unusedVariables false
set_option linter.unusedSimpArgs false
namespace Go.AM
variable {prog : String → Option IFn}
def LAns {α : Type} (T : Enc α) (us : List α) (G : List (Option Blk)) (r : AV) (G2 : List (Option Blk)) : Prop :=
  (us = [] ∧ r = .v (.slice none 0 0) ∧ G2 = G) ∨ (∃ v, r = .own (.o G.length) (us.length * T.esz) 0 us.length T.esz none ∧ G2 = G ++ [some (dBlk (T.row us) true v)])
theorem op_list {α : Type} {T : Enc α} {us : List α} {f args} {site : Nat} {G L : List (Option Blk)} {r G2} (he : Ev prog (.call f (args.map (AV.ren (up G.length))) (⟨G, L⟩ : Hp).into) (.ret r G2)) (ha : LAns T us (⟨G, L⟩ : Hp).into r G2)
    (hL : L[site]? = some none) (hg : Good ⟨G, L⟩) : ∃ u B, Ev prog (.op (.call f [site]) args ⟨G, L⟩) (.val u ⟨G, L.set site B⟩) ∧ (∀ b, B = some b → b.labs = []) ∧ (∀ L', L'[site]? = some B → TView T ⟨G, L'⟩ u us) ∧ (∀ ks, ks.contains site = false → noRef ks u = true) := by
  have hfr : [site].all (free L) = true := by simp [free_of_get hL]
  rcases ha with ⟨rfl, rfl, rfl⟩ | ⟨v, rfl, rfl⟩
  · refine ⟨.v (.slice none 0 0), none, ?_, by simp, fun L' _ => view_nil' T.pos, fun ks h => rfl⟩
    have := op_none (h := ⟨G, L⟩) (sites := [site]) (xs := args) he (by simp) hfr hg
    rw [show L.set site none = L from by
      apply List.ext_getElem?
      intro k
      rw [List.getElem?_set]
      by_cases hk : site = k
      · subst hk; rw [if_pos rfl, if_pos (lt_of_get hL), hL]
      · rw [if_neg hk]]
    exact this
  · refine ⟨.own (.l site) (us.length * T.esz) 0 us.length T.esz none, some (dBlk (T.row us) true v), ?_, dBlk_l, fun L' h => own_T h (by simp), fun ks h => by rw [noRef_own, h]; rfl⟩
    exact op_news (h := ⟨G, L⟩) (Bs := [some (dBlk (T.row us) true v)]) he (data1 dBlk_l) rfl (by simp) hfr hg ren_own1
structure UnitD where
  line : Int
  net : Int
  opn : Bool
instance instDecUnitD : DecidableEq UnitD := fun a b =>
  if h : a.line = b.line ∧ (a.net = b.net ∧ a.opn = b.opn) then isTrue (by cases a; cases b; simp only at h; obtain ⟨rfl, rfl, rfl⟩ := h; rfl)
  else isFalse (by rintro rfl; exact h ⟨rfl, rfl, rfl⟩)
def UnitD.cells (x : UnitD) : List AV := [.v (.int .i64 x.line), .v (.int .i64 x.net), .v (.bool x.opn)]
def uE : Enc UnitD := ⟨UnitD.cells, 3, true, fun _ => rfl, by omega, .inl rfl, fun _ => rfl, fun h => by cases h⟩
theorem uc3 {x : UnitD} : x.cells.length = 3 := rfl
def unitsT : Nat → List LineD → List UnitD
  | _, [] => []
  | i, x :: xs => List.replicate x.qty.toNat ⟨i, x.price, true⟩ ++ unitsT (i + 1) xs
def unitsL (xs : List LineD) : List UnitD := if mayL xs then unitsT 0 xs else []
theorem xUnits_row : ∀ {xs : List LineD} {i : Nat}, xUnits i (lq xs) = uE.row (unitsT i xs)
  | [], i => rfl
  | x :: xs, i => by
    show (List.replicate x.qty.toNat (xUnit i x.price)).flatten ++ xUnits (i + 1) (lq xs) = uE.row (List.replicate x.qty.toNat ⟨i, x.price, true⟩ ++ unitsT (i + 1) xs)
    rw [uE.row_append, xUnits_row]
    congr 1
    unfold Enc.row
    rw [List.flatMap_def, List.map_replicate]; rfl
theorem xLines_row : ∀ {xs : List LineD}, xLines (lnE.row xs) = some (lq xs)
  | [] => rfl
  | x :: xs => by
    show xLines (.v (str x.sku) :: .v (.int .i64 x.qty) :: .v (.int .i64 x.price) :: lnE.row xs) = _
    show (xLines (lnE.row xs)).map ((x.qty, x.price) :: ·) = _
    rw [xLines_row]; rfl
theorem row_empty {us : List UnitD} : uE.row us = [] ↔ us = [] := by
  cases us with
  | nil => exact ⟨fun _ => rfl, fun _ => rfl⟩
  | cons u us => exact ⟨fun h => by simp [Enc.row, uE, UnitD.cells] at h, fun h => by cases h⟩
theorem Units_spec (hf : prog "haberdash/basket.Units" = some xFn) {G a} {xs : List LineD} (v : ∀ L, TView lnE ⟨G, L⟩ a xs) (hl : xs.length ≤ 1000000) :
    ∃ r G2, Ev prog (.call "haberdash/basket.Units" [a] G) (.ret r G2) ∧ LAns uE (unitsL xs) G r G2 := by
  have hv := v []
  have e : xCells "haberdash/basket.Units" [(xs.length, lnE.row xs)] = some (3, uE.row (unitsL xs)) := by
    unfold xCells
    rw [if_pos rfl]
    show (if (lnE.row xs).length = xs.length * 3 ∧ xs.length ≤ 1000000 then _ else _) = _
    rw [if_pos ⟨lnE.row_len xs, hl⟩, xLines_row, Option.map_some, mayL_x]
    unfold unitsL
    cases mayL xs
    · rfl
    · rw [if_pos rfl, if_pos rfl, xUnits_row]
  have hr : ∀ q : AV × List (Option Blk), (if uE.row (unitsL xs) = [] then some ((.v (.slice none 0 0), G) : AV × List (Option Blk))
      else some (.own (.o G.length) (uE.row (unitsL xs)).length 0 ((uE.row (unitsL xs)).length / 3) 3 none, G ++ [some { cells := uE.row (unitsL xs), opn := true, wr := true, data := true, virt := false }])) = some q → Ev prog (.call "haberdash/basket.Units" [a] G) (.ret q.1 q.2) := fun q hq => by
    refine .orc hf ?_
    unfold xRun
    have es : (⟨G, []⟩ : Hp).seesAll [a] = some [(xs.length, lnE.row xs)] := by
      show (lenOf a).bind _ = _
      rw [hv.hlen, Option.bind_some, hv.hsees]; rfl
    rw [es, Option.bind_some, e, Option.bind_some]
    exact hq
  by_cases h0 : unitsL xs = []
  · exact ⟨_, _, hr (.v (.slice none 0 0), G) (by rw [if_pos (row_empty.2 h0)]), .inl ⟨h0, rfl, rfl⟩⟩
  · refine ⟨_, _, hr _ (by rw [if_neg (fun h => h0 (row_empty.1 h))]), .inr ⟨false, ?_, rfl⟩⟩
    rw [uE.row_len]
    show AV.own _ _ 0 ((unitsL xs).length * 3 / 3) 3 none = _
    rw [Nat.mul_div_cancel _ (by omega)]; rfl
def uAt (xs : List LineD) (i : Nat) : List UnitD := match xs[i]? with
  | some x => List.replicate x.qty.toNat ⟨i, x.price, true⟩
  | none => []
def uTo (xs : List LineD) (i : Nat) : List UnitD := (List.range i).flatMap (uAt xs)
theorem uTo_succ {xs i} : uTo xs (i + 1) = uTo xs i ++ uAt xs i := by simp [uTo, List.range_succ]
theorem unitsT_eq : ∀ {ys xs : List LineD} {k : Nat}, (∀ j, ys[j]? = xs[k + j]?) → unitsT k ys = (List.range' k ys.length).flatMap (uAt xs)
  | [], xs, k, h => rfl
  | y :: ys, xs, k, h => by
    have h0 : xs[k]? = some y := (h 0).symm
    rw [List.length_cons, List.range'_succ, List.flatMap_cons]
    have : uAt xs k = List.replicate y.qty.toNat ⟨k, y.price, true⟩ := by unfold uAt; rw [h0]
    rw [this, ← unitsT_eq (ys := ys) (xs := xs) (k := k + 1) fun j => by
      have := h (j + 1)
      rw [List.getElem?_cons_succ] at this
      rw [this]; congr 1; omega]
    rfl
theorem uTo_all {xs : List LineD} : uTo xs xs.length = unitsT 0 xs := by
  rw [unitsT_eq (xs := xs) (fun j => by rw [Nat.zero_add]), uTo, List.range_eq_range']
theorem uTo_len {xs : List LineD} (ho : ∀ x ∈ xs, okL x = true) : ∀ {i : Nat}, i ≤ xs.length → ((uTo xs i).length : Int) = qs (xs.take i)
  | 0, _ => rfl
  | i + 1, h => by
    have hx : xs[i]? = some xs[i] := List.getElem?_eq_getElem (by omega)
    have hok := okL_iff.1 (ho _ (List.getElem_mem (show i < xs.length by omega)))
    have ih := uTo_len ho (i := i) (by omega)
    rw [uTo_succ, List.length_append, qs_take hx]
    have : (uAt xs i).length = (xs[i]).qty.toNat := by unfold uAt; rw [hx]; simp
    omega
end Go.AM
namespace Go.AM
variable {prog : String → Option IFn}
def lnZ : List Value := [.string ⟨#[]⟩, .int .i64 0, .int .i64 0]
theorem unit_eq {a b : UnitD} : decide (a = b) = (a.line == b.line && (a.net == b.net && a.opn == b.opn)) := by
  rw [Bool.eq_iff_iff]
  simp only [decide_eq_true_eq, Bool.and_eq_true, beq_iff_eq]
  constructor
  · rintro rfl; exact ⟨rfl, rfl, rfl⟩
  · cases a; cases b; simp only; rintro ⟨rfl, rfl, rfl⟩; rfl
theorem cells_unit {x y : UnitD} : cellsEq [.int, .int, .bool] x.cells y.cells = some (decide (x = y)) := by
  have hi : ∀ a b : Int, cellEq .int (.v (.int .i64 a)) (.v (.int .i64 b)) = some (a == b) := fun a b => rfl
  have hb : ∀ a b : Bool, cellEq .bool (.v (.bool a)) (.v (.bool b)) = some (a == b) := fun a b => rfl
  unfold UnitD.cells
  simp only [cellsEq, hi, hb, unit_eq, Bool.and_true]
abbrev lineTy : Ty := .fcons .str (.fcons (.int .i64) (.fcons (.int .i64) .fnil))
theorem is_line {cs : List AV} (h : lineTy.Is cs) : ∃ x : LineD, cs = x.cells := by
  obtain ⟨c1, r1, rfl, h1, c2, r2, rfl, h2, c3, r3, rfl, h3, h5⟩ := h
  obtain ⟨s, rfl, hs⟩ := is_str h1
  obtain ⟨n, rfl, hn⟩ := is_i64 h2
  obtain ⟨m, rfl, hm⟩ := is_i64 h3
  exact ⟨⟨s, n, m⟩, by rw [show r3 = [] from h5]; rfl⟩
theorem is_lines {cs : List AV} (h : (Ty.slice lineTy).Is cs) : ∃ a, ∃ xs : List LineD, cs = [a] ∧ (∀ h, TView lnE h a xs) ∧ xs.length ≤ maxLen := by
  rcases h with rfl | ⟨es, rfl, h, hl⟩
  · exact ⟨_, [], rfl, fun h => view_nil' (by decide), by simp⟩
  · obtain ⟨xs, hb⟩ : ∃ xs : List LineD, es = xs.map lnE.E := by
      clear hl
      induction es with
      | nil => exact ⟨[], rfl⟩
      | cons e es ih =>
        obtain ⟨xs, hb⟩ := ih fun x hx => h x (by simp [hx])
        obtain ⟨x, rfl⟩ := is_line (h e (by simp))
        exact ⟨x :: xs, by rw [hb]; rfl⟩
    subst hb
    have e : (xs.map lnE.E).flatten = lnE.row xs := by rw [Enc.row, List.flatMap_def]
    refine ⟨_, xs, rfl, fun h => ?_, by simpa using hl⟩
    rw [e, List.length_map]
    exact view_ro (by decide) (lnE.row_len xs)
def lineP (x : LineD) : LineD := ⟨skuAt (umod (pickV x.sku (min x.sku.length 8)) 8), (umod x.qty 10 : Nat), (umod x.price 4000 : Nat)⟩
def linesP (xs : List LineD) : List LineD := (xs.take 8).map lineP
def linesTo (xs : List LineD) (k : Nat) : List LineD := (xs.take k).map lineP
theorem linesTo_succ {xs : List LineD} {k : Nat} {x} (h : xs[k]? = some x) : linesTo xs (k + 1) = linesTo xs k ++ [lineP x] := by unfold linesTo; rw [take_succ' h]; simp
theorem linesTo_len {xs : List LineD} {k : Nat} (h : k ≤ xs.length) : (linesTo xs k).length = k := by unfold linesTo; simp; omega
theorem linesP_to {xs : List LineD} : linesP xs = linesTo xs (min xs.length 8) := by
  unfold linesP linesTo
  by_cases h : xs.length ≤ 8
  · rw [List.take_of_length_le h, Nat.min_eq_left h, List.take_length]
  · rw [Nat.min_eq_right (by omega)]
theorem linesP_len {xs : List LineD} : (linesP xs).length = min xs.length 8 := by rw [linesP_to, linesTo_len (by omega)]
theorem Lines_spec (H : PlayBase prog) (hf : prog "haberdash/haberdashplay.Lines" = some f_play_Lines) (h64 : prog "haberdash/haberdashplay.Mod64" = some f_play_Mod64) {G a} {xs : List LineD} (v : ∀ L, TView lnE ⟨G, L⟩ a xs) (hl : xs.length ≤ maxLen) :
    Ev prog (.call "haberdash/haberdashplay.Lines" [a] G) (.ret (.own (.o G.length) ((min xs.length 8) * 3) 0 (min xs.length 8) 3 none) (G ++ [some (dBlk (lnE.row (linesP xs)) true (decide (min xs.length 8 = 0)))])) := by
  have na : ∀ ks, noRef ks a = true := fun ks => noRef_out (View.out (v []))
  refine call_of_fin hf ?_
  simp only [f_play_Lines_B, enter, List.length_cons, List.length_nil, List.replicate, Nat.reduceAdd, Nat.reduceSub, List.cons_append, List.nil_append]
  simp (disch := first | (simp only [DS, reduceCtorEq]; done) | omega) only [WS, St.guard, St.put, evalO, reduceCtorEq, reduceIte, Nat.reduceAdd, Nat.reduceEqDiff, new_s, virtBlk_eq, box_s, box_vs, box_vi, box_vb, px_load_l, px_load_o, loadB_s, storeX, storeB_s, alloc_s, lay, whole, Option.join_some, List.drop_zero, List.drop_succ_cons, List.take_succ_cons, List.take_zero, List.drop_nil, List.nil_append, List.cons_append, Nat.reduceLeDiff, Nat.zero_add, and_self, and_true, cells_int, cells_bool, cells_str, cells_string, cells_agg, cells_own, cells_ro, cells_ptr, cells_nil, AV.lf.lfs, AV.lf, px_build, fills, build_string, build_str, build_int, WDR_some, Nat.reduceLeDiff, Nat.le_refl, Bool.and_self, nilv_s]
  refine WC_count (fun k => ⟨f_play_Lines_H0 a (.own (.l 0) (k * 3) 0 k 3 none) (.v (.int .i64 (k : Nat))), ⟨G, [some (dBlk (lnE.row (linesTo xs k)) true (decide (k = 0))), none, none]⟩⟩) (min xs.length 8) ?_ (fun k hk => ?_) ?_
  · exact clear_fre (by simp only [clear_nil, List.foldl_cons, List.foldl_nil, Option.some.injEq, LS, reduceCtorEq, reduceIte, Nat.reduceAdd]; rfl) (by rfl) (by simp only [f_play_Lines_H0, List.all_cons, List.all_nil, noRef_v, noRef_dead, noRef_own, noRef_ptr, noRef_nil, Bool.and_true, Bool.true_and, Bool.and_self, List.contains_cons, List.contains_nil, Bool.or_false, Nat.reduceBEq, Bool.not_false, na]) (by rfl)
  · have h8 : (k : Int) < 8 := by omega
    have hlt' : (k : Int) < (xs.length : Int) := by omega
    have hx : xs[k]? = some xs[k] := List.getElem?_eq_getElem (by omega)
    generalize xs[k] = x at *
    have q := fun L => ln_at (v L) hx
    simp (disch := first | (simp only [DS, reduceCtorEq]; done) | omega) only [f_play_Lines_L0, f_play_Lines_H0, WS, St.guard, St.put, evalO, reduceCtorEq, reduceIte, Nat.reduceAdd, Nat.reduceEqDiff, new_s, virtBlk_eq, box_s, box_vs, box_vi, box_vb, px_load_l, px_load_o, loadB_s, storeX, storeB_s, alloc_s, lay, whole, Option.join_some, List.drop_zero, List.drop_succ_cons, List.take_succ_cons, List.take_zero, List.drop_nil, List.nil_append, List.cons_append, Nat.reduceLeDiff, Nat.zero_add, and_self, and_true, cells_int, cells_bool, cells_str, cells_string, cells_agg, cells_own, cells_ro, cells_ptr, cells_nil, AV.lf.lfs, AV.lf, px_build, fills, build_string, build_str, build_int, WDR_some, Nat.reduceLeDiff, Nat.le_refl, Bool.and_self, (v _).lenSlice, hlt', h8, decide_true, (q _).ix, (q _).f0, (q _).l0]
    refine WDP_r (r := .v (.int .i64 (pickV x.sku (min x.sku.length 8)))) (fun X _ => by exact pick_spec H.pick) rfl (by unfold Good; dsimp only; repeat (first | exact trivial | rw [goodN] | refine ⟨dBlk_good, ?_⟩ | refine goodD (by assumption) ?_ | refine ⟨sBlk_good (by first | rfl | assumption | (simp [AV.labs.labss, AV.labs, refLt]; done)), ?_⟩)) ?_
    simp (disch := first | (simp only [DS, reduceCtorEq]; done) | omega) only [WS, St.guard, St.put, evalO, reduceCtorEq, reduceIte, Nat.reduceAdd, Nat.reduceEqDiff, new_s, virtBlk_eq, box_s, box_vs, box_vi, box_vb, px_load_l, px_load_o, loadB_s, storeX, storeB_s, alloc_s, lay, whole, Option.join_some, List.drop_zero, List.drop_succ_cons, List.take_succ_cons, List.take_zero, List.drop_nil, List.nil_append, List.cons_append, Nat.reduceLeDiff, Nat.zero_add, and_self, and_true, cells_int, cells_bool, cells_str, cells_string, cells_agg, cells_own, cells_ro, cells_ptr, cells_nil, AV.lf.lfs, AV.lf, px_build, fills, build_string, build_str, build_int, WDR_some, Nat.reduceLeDiff, Nat.le_refl, Bool.and_self]
    refine WDP_r (r := .v (str (skuAt (umod (pickV x.sku (min x.sku.length 8)) 8)))) (fun X _ => by exact Sku_spec H.sku H.mod) rfl (by unfold Good; dsimp only; repeat (first | exact trivial | rw [goodN] | refine ⟨dBlk_good, ?_⟩ | refine goodD (by assumption) ?_ | refine ⟨sBlk_good (by first | rfl | assumption | (simp [AV.labs.labss, AV.labs, refLt]; done)), ?_⟩)) ?_
    simp (disch := first | (simp only [DS, reduceCtorEq]; done) | omega) only [WS, St.guard, St.put, evalO, reduceCtorEq, reduceIte, Nat.reduceAdd, Nat.reduceEqDiff, new_s, virtBlk_eq, box_s, box_vs, box_vi, box_vb, px_load_l, px_load_o, loadB_s, storeX, storeB_s, alloc_s, lay, whole, Option.join_some, List.drop_zero, List.drop_succ_cons, List.take_succ_cons, List.take_zero, List.drop_nil, List.nil_append, List.cons_append, Nat.reduceLeDiff, Nat.zero_add, and_self, and_true, cells_int, cells_bool, cells_str, cells_string, cells_agg, cells_own, cells_ro, cells_ptr, cells_nil, AV.lf.lfs, AV.lf, px_build, fills, build_string, build_str, build_int, WDR_some, Nat.reduceLeDiff, Nat.le_refl, Bool.and_self, (q _).ix, (q _).f1, (q _).l1]
    refine WDP_r (r := .v (.int .i64 (umod x.qty 10 : Nat))) (fun X _ => by exact Mod_spec H.mod 10 rfl (by omega) (by omega)) rfl (by unfold Good; dsimp only; repeat (first | exact trivial | rw [goodN] | refine ⟨dBlk_good, ?_⟩ | refine goodD (by assumption) ?_ | refine ⟨sBlk_good (by first | rfl | assumption | (simp [AV.labs.labss, AV.labs, refLt]; done)), ?_⟩)) ?_
    simp (disch := first | (simp only [DS, reduceCtorEq]; done) | omega) only [WS, St.guard, St.put, evalO, reduceCtorEq, reduceIte, Nat.reduceAdd, Nat.reduceEqDiff, new_s, virtBlk_eq, box_s, box_vs, box_vi, box_vb, px_load_l, px_load_o, loadB_s, storeX, storeB_s, alloc_s, lay, whole, Option.join_some, List.drop_zero, List.drop_succ_cons, List.take_succ_cons, List.take_zero, List.drop_nil, List.nil_append, List.cons_append, Nat.reduceLeDiff, Nat.zero_add, and_self, and_true, cells_int, cells_bool, cells_str, cells_string, cells_agg, cells_own, cells_ro, cells_ptr, cells_nil, AV.lf.lfs, AV.lf, px_build, fills, build_string, build_str, build_int, WDR_some, Nat.reduceLeDiff, Nat.le_refl, Bool.and_self, (q _).ix, (q _).f2, (q _).l2]
    refine WDP_r (r := .v (.int .i64 (umod x.price 4000 : Nat))) (fun X _ => by exact Mod64_spec h64 4000 rfl (by omega) (by omega)) rfl (by unfold Good; dsimp only; repeat (first | exact trivial | rw [goodN] | refine ⟨dBlk_good, ?_⟩ | refine goodD (by assumption) ?_ | refine ⟨sBlk_good (by first | rfl | assumption | (simp [AV.labs.labss, AV.labs, refLt]; done)), ?_⟩)) ?_
    simp (disch := first | (simp only [DS, reduceCtorEq]; done) | omega) only [WS, St.guard, St.put, evalO, reduceCtorEq, reduceIte, Nat.reduceAdd, Nat.reduceEqDiff, new_s, virtBlk_eq, box_s, box_vs, box_vi, box_vb, px_load_l, px_load_o, loadB_s, storeX, storeB_s, alloc_s, lay, whole, Option.join_some, List.drop_zero, List.drop_succ_cons, List.take_succ_cons, List.take_zero, List.drop_nil, List.nil_append, List.cons_append, Nat.reduceLeDiff, Nat.zero_add, and_self, and_true, cells_int, cells_bool, cells_str, cells_string, cells_agg, cells_own, cells_ro, cells_ptr, cells_nil, AV.lf.lfs, AV.lf, px_build, fills, build_string, build_str, build_int, WDR_some, Nat.reduceLeDiff, Nat.le_refl, Bool.and_self]
    have hb : ∀ L, L[1]? = some none → prim ⟨G, L⟩ (.buildSlice 1 false 3 1 [.string ⟨#[]⟩, .int .i64 0, .int .i64 0] [(0, 3)]) [.agg [.v (str (skuAt (umod (pickV x.sku (min x.sku.length 8)) 8))), .v (.int .i64 (umod x.qty 10 : Nat)), .v (.int .i64 (umod x.price 4000 : Nat))]] =
        some (.own (.l 1) 3 0 1 3 (some 1), ⟨G, L.set 1 (some (dBlk (lineP x).cells false false))⟩) := fun L hL => build_T (T := lnE) (zs := lnZ) (x := lineP x) rfl hL
    have ha : prim ⟨G, [some (dBlk (lnE.row (linesTo xs k)) true (decide (k = 0))), some (dBlk (lineP x).cells false false), none]⟩ (.append 2 false 3 32) [.own (.l 0) (k * 3) 0 k 3 none, .own (.l 1) 3 0 1 3 (some 1)] =
        some (.own (.l 0) ((k + 1) * 3) 0 (k + 1) 3 none, ⟨G, [some (dBlk (lnE.row (linesTo xs (k + 1))) true false), some (dBlk (lineP x).cells false false), none]⟩) := by
      have := append_T (T := lnE) (site := 2) (j := 0) (m := 1) (bytes := 32) (xs := linesTo xs k) (x := lineP x) (cap := some 1) (G := G) (L := [some (dBlk (lnE.row (linesTo xs k)) true (decide (k = 0))), some (dBlk (lineP x).cells false false), none]) rfl rfl (by rw [linesTo_len (by omega)]; unfold room; omega) (by simp)
      rw [linesTo_len (by omega), ← linesTo_succ hx] at this
      exact this
    refine WDP_er (by unfold Good; dsimp only; repeat (first | exact trivial | rw [goodN] | refine ⟨dBlk_good, ?_⟩ | refine goodD (by assumption) ?_ | refine ⟨sBlk_good (by first | rfl | assumption | (simp [AV.labs.labss, AV.labs, refLt]; done)), ?_⟩)) rfl ?_
    simp (disch := first | (simp only [DS, reduceCtorEq]; done) | omega) only [WDX_some, reduceIte, if_true, if_false, Bool.and_true, Bool.true_and, true_and, Bool.false_eq_true, false_or, true_or, Hp.over, AM.over, over_nil, List.foldl_cons, List.foldl_nil, List.set_cons_zero, List.set_cons_succ, List.getElem?_cons_zero, List.getElem?_cons_succ, Option.join_some, List.length_cons, List.length_nil, Prim.sites, List.cons_append, List.nil_append, hb]
    refine ⟨⟨rfl, (by unfold Good; dsimp only; repeat (first | exact trivial | rw [goodN] | refine ⟨dBlk_good, ?_⟩ | refine goodD (by assumption) ?_ | refine ⟨sBlk_good (by first | rfl | assumption | (simp [AV.labs.labss, AV.labs, refLt]; done)), ?_⟩))⟩, ?_⟩
    simp (disch := first | (simp only [DS, reduceCtorEq]; done) | omega) only [WS, St.guard, St.put, evalO, reduceCtorEq, reduceIte, Nat.reduceAdd, Nat.reduceEqDiff, new_s, virtBlk_eq, box_s, box_vs, box_vi, box_vb, px_load_l, px_load_o, loadB_s, storeX, storeB_s, alloc_s, lay, whole, Option.join_some, List.drop_zero, List.drop_succ_cons, List.take_succ_cons, List.take_zero, List.drop_nil, List.nil_append, List.cons_append, Nat.reduceLeDiff, Nat.zero_add, and_self, and_true, cells_int, cells_bool, cells_str, cells_string, cells_agg, cells_own, cells_ro, cells_ptr, cells_nil, AV.lf.lfs, AV.lf, px_build, fills, build_string, build_str, build_int, WDR_some, Nat.reduceLeDiff, Nat.le_refl, Bool.and_self]
    refine WDP_er (by unfold Good; dsimp only; repeat (first | exact trivial | rw [goodN] | refine ⟨dBlk_good, ?_⟩ | refine goodD (by assumption) ?_ | refine ⟨sBlk_good (by first | rfl | assumption | (simp [AV.labs.labss, AV.labs, refLt]; done)), ?_⟩)) rfl ?_
    simp (disch := first | (simp only [DS, reduceCtorEq]; done) | omega) only [WDX_some, reduceIte, if_true, if_false, Bool.and_true, Bool.true_and, true_and, Bool.false_eq_true, false_or, true_or, Hp.over, AM.over, over_nil, List.foldl_cons, List.foldl_nil, List.set_cons_zero, List.set_cons_succ, List.getElem?_cons_zero, List.getElem?_cons_succ, Option.join_some, List.length_cons, List.length_nil, Prim.sites, List.cons_append, List.nil_append, ha]
    refine ⟨⟨rfl, (by unfold Good; dsimp only; repeat (first | exact trivial | rw [goodN] | refine ⟨dBlk_good, ?_⟩ | refine goodD (by assumption) ?_ | refine ⟨sBlk_good (by first | rfl | assumption | (simp [AV.labs.labss, AV.labs, refLt]; done)), ?_⟩))⟩, ?_⟩
    simp (disch := first | (simp only [DS, reduceCtorEq]; done) | omega) only [WS, St.guard, St.put, evalO, reduceCtorEq, reduceIte, Nat.reduceAdd, Nat.reduceEqDiff, new_s, virtBlk_eq, box_s, box_vs, box_vi, box_vb, px_load_l, px_load_o, loadB_s, storeX, storeB_s, alloc_s, lay, whole, Option.join_some, List.drop_zero, List.drop_succ_cons, List.take_succ_cons, List.take_zero, List.drop_nil, List.nil_append, List.cons_append, Nat.reduceLeDiff, Nat.zero_add, and_self, and_true, cells_int, cells_bool, cells_str, cells_string, cells_agg, cells_own, cells_ro, cells_ptr, cells_nil, AV.lf.lfs, AV.lf, px_build, fills, build_string, build_str, build_int, WDR_some, Nat.reduceLeDiff, Nat.le_refl, Bool.and_self, vBin_add_i64]
    exact clear_fre (by simp only [clear_nil, List.foldl_cons, List.foldl_nil, Option.some.injEq, LS, reduceCtorEq, reduceIte, Nat.reduceAdd]; rfl) (by rfl) (by simp only [f_play_Lines_H0, List.all_cons, List.all_nil, noRef_v, noRef_dead, noRef_own, noRef_ptr, noRef_nil, Bool.and_true, Bool.true_and, Bool.and_self, List.contains_cons, List.contains_nil, Bool.or_false, Nat.reduceBEq, Bool.not_false, na]) (by rfl)
  · have fin1 : (⟨G, [some (dBlk (lnE.row (linesTo xs (min xs.length 8))) true (decide (min xs.length 8 = 0))), none, none]⟩ : Hp).leave (.own (.l 0) (min xs.length 8 * 3) 0 (min xs.length 8) 3 none) = some (.own (.o G.length) ((min xs.length 8) * 3) 0 (min xs.length 8) 3 none, G ++ [some (dBlk (lnE.row (linesP xs)) true (decide (min xs.length 8 = 0)))]) := by
      rw [leave_own1 (b := dBlk (lnE.row (linesTo xs (min xs.length 8))) true (decide (min xs.length 8 = 0))) (by rfl) (by rfl), linesP_to]
    by_cases h8 : xs.length < 8
    · have e1 : ¬ (((min xs.length 8 : Nat) : Int) < (xs.length : Int)) := by omega
      simp (disch := first | (simp only [DS, reduceCtorEq]; done) | omega) only [f_play_Lines_L0, f_play_Lines_H0, WS, St.guard, St.put, evalO, reduceCtorEq, reduceIte, Nat.reduceAdd, Nat.reduceEqDiff, new_s, virtBlk_eq, box_s, box_vs, box_vi, box_vb, px_load_l, px_load_o, loadB_s, storeX, storeB_s, alloc_s, lay, whole, Option.join_some, List.drop_zero, List.drop_succ_cons, List.take_succ_cons, List.take_zero, List.drop_nil, List.nil_append, List.cons_append, Nat.reduceLeDiff, Nat.zero_add, and_self, and_true, cells_int, cells_bool, cells_str, cells_string, cells_agg, cells_own, cells_ro, cells_ptr, cells_nil, AV.lf.lfs, AV.lf, px_build, fills, build_string, build_str, build_int, WDR_some, Nat.reduceLeDiff, Nat.le_refl, Bool.and_self, (v _).lenSlice, e1, decide_false, fin_tmp]
      exact ⟨by simp, fin1⟩
    · by_cases h9 : xs.length = 8
      · have e1 : ¬ (((min xs.length 8 : Nat) : Int) < (xs.length : Int)) := by omega
        simp (disch := first | (simp only [DS, reduceCtorEq]; done) | omega) only [f_play_Lines_L0, f_play_Lines_H0, WS, St.guard, St.put, evalO, reduceCtorEq, reduceIte, Nat.reduceAdd, Nat.reduceEqDiff, new_s, virtBlk_eq, box_s, box_vs, box_vi, box_vb, px_load_l, px_load_o, loadB_s, storeX, storeB_s, alloc_s, lay, whole, Option.join_some, List.drop_zero, List.drop_succ_cons, List.take_succ_cons, List.take_zero, List.drop_nil, List.nil_append, List.cons_append, Nat.reduceLeDiff, Nat.zero_add, and_self, and_true, cells_int, cells_bool, cells_str, cells_string, cells_agg, cells_own, cells_ro, cells_ptr, cells_nil, AV.lf.lfs, AV.lf, px_build, fills, build_string, build_str, build_int, WDR_some, Nat.reduceLeDiff, Nat.le_refl, Bool.and_self, (v _).lenSlice, e1, decide_false, fin_tmp]
        exact ⟨by simp, fin1⟩
      · have e1 : ((min xs.length 8 : Nat) : Int) < (xs.length : Int) := by omega
        have e2 : ¬ (((min xs.length 8 : Nat) : Int) < 8) := by omega
        simp (disch := first | (simp only [DS, reduceCtorEq]; done) | omega) only [f_play_Lines_L0, f_play_Lines_H0, WS, St.guard, St.put, evalO, reduceCtorEq, reduceIte, Nat.reduceAdd, Nat.reduceEqDiff, new_s, virtBlk_eq, box_s, box_vs, box_vi, box_vb, px_load_l, px_load_o, loadB_s, storeX, storeB_s, alloc_s, lay, whole, Option.join_some, List.drop_zero, List.drop_succ_cons, List.take_succ_cons, List.take_zero, List.drop_nil, List.nil_append, List.cons_append, Nat.reduceLeDiff, Nat.zero_add, and_self, and_true, cells_int, cells_bool, cells_str, cells_string, cells_agg, cells_own, cells_ro, cells_ptr, cells_nil, AV.lf.lfs, AV.lf, px_build, fills, build_string, build_str, build_int, WDR_some, Nat.reduceLeDiff, Nat.le_refl, Bool.and_self, (v _).lenSlice, e1, e2, decide_true, decide_false, fin_tmp]
        exact ⟨by simp, fin1⟩
end Go.AM
