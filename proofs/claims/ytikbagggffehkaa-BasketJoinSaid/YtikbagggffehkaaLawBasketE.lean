import Derived.Test.YtikbagggffehkaaBasketD
import Derived.Test.YtikbagggffehkaaLawBasketB
set_option linter.unusedVariables false
set_option linter.unusedSimpArgs false
namespace Go.AM
variable {prog : String → Option IFn}
section
variable {α : Type} {T : Enc α}
theorem append_nilE {G L} {site bytes : Nat} {x : AV} {xs : List α} (hv : TView T ⟨G, L⟩ x xs) (h0 : xs = []) : prim ⟨G, L⟩ (.append site false T.esz bytes) [.v (.slice none 0 0), x] = some (.v (.slice none 0 0), ⟨G, L⟩) := by
  subst h0
  have hv' : View ⟨G, L⟩ x T.esz 0 (T.row ([] : List α)) := hv
  simp only [prim, hv'.source, Option.bind_some, Hp.mayFreeze, Bool.false_eq_true, if_false, Hp.append]
  exact (if_pos (by simp [Enc.row])).trans (if_pos trivial)
theorem append_nilN {G L} {site bytes : Nat} {x : AV} {xs : List α} (hv : TView T ⟨G, L⟩ x xs) (h0 : xs ≠ []) (hL : L[site]? = some none) (hr : xs.length * bytes ≤ room) :
    prim ⟨G, L⟩ (.append site false T.esz bytes) [.v (.slice none 0 0), x] = some (.own (.l site) (xs.length * T.esz) 0 xs.length T.esz none, ⟨G, L.set site (some (dBlk (T.row xs) true false))⟩) := by
  have hv' : View ⟨G, L⟩ x T.esz xs.length (T.row xs) := hv
  have hn : xs.length ≠ 0 := fun h => h0 (List.eq_nil_of_length_eq_zero h)
  simp only [prim, hv'.source, Option.bind_some, Hp.mayFreeze, Bool.false_eq_true, if_false, Hp.append]
  refine (if_pos (T.row_len xs)).trans ?_
  refine (if_neg hn).trans ?_
  refine (if_pos hr).trans ?_
  rw [T.row_lf]
  simp only [Hp.new, hL, Option.map_some]
  rfl
theorem append_ownE {G L} {site j bytes : Nat} {x : AV} {ys xs : List α} {v : Bool} (hj : L[j]? = some (some (dBlk (T.row ys) true v))) (hv : TView T ⟨G, L⟩ x xs) (h0 : xs = []) (hr : ys.length * bytes ≤ room) :
    prim ⟨G, L⟩ (.append site false T.esz bytes) [.own (.l j) (ys.length * T.esz) 0 ys.length T.esz none, x] = some (.own (.l j) (ys.length * T.esz) 0 ys.length T.esz none, ⟨G, L⟩) := by
  subst h0
  have hv' : View ⟨G, L⟩ x T.esz 0 (T.row ([] : List α)) := hv
  simp only [prim, hv'.source, Option.bind_some, Hp.mayFreeze, Bool.false_eq_true, if_false, Hp.append]
  refine (if_pos (by simp [Enc.row])).trans ?_
  simp only [Hp.get, hj, Option.join_some, dBlk_cells]
  exact (if_pos ⟨T.row_len ys, trivial, by simpa using hr, by simp [Enc.row, okPut]⟩).trans (if_pos trivial)
theorem append_both {A0 A1 : Option Blk} {R : List (Option Blk)} {x y : AV} {ys zs : List α} {bytes : Nat} (vx : ∀ L, TView T ⟨[], A0 :: A1 :: L⟩ x ys) (vy : ∀ L, TView T ⟨[], A0 :: A1 :: L⟩ y zs) (hr : (ys.length + zs.length) * bytes ≤ room) :
    ∃ u B2 w C2 C3, prim ⟨[], A0 :: A1 :: none :: none :: R⟩ (.append 2 false T.esz bytes) [.v (.slice none 0 0), x] = some (u, ⟨[], A0 :: A1 :: B2 :: none :: R⟩) ∧
      prim ⟨[], A0 :: A1 :: B2 :: none :: R⟩ (.append 3 false T.esz bytes) [u, y] = some (w, ⟨[], A0 :: A1 :: C2 :: C3 :: R⟩) ∧ (∀ b, C2 = some b → b.labs = []) ∧ (∀ b, C3 = some b → b.labs = []) ∧
      ∀ S, TView T ⟨[], A0 :: A1 :: C2 :: C3 :: S⟩ w (ys ++ zs) := by
  have h1 : ys.length * bytes ≤ room := Nat.le_trans (Nat.mul_le_mul_right _ (by omega)) hr
  have h2 : zs.length * bytes ≤ room := Nat.le_trans (Nat.mul_le_mul_right _ (by omega)) hr
  by_cases e1 : ys = []
  · by_cases e2 : zs = []
    · exact ⟨_, none, _, none, none, append_nilE (vx _) e1, append_nilE (vy _) e2, by simp, by simp, fun S => by rw [e1, e2]; exact view_nil' T.pos⟩
    · exact ⟨_, none, _, none, _, append_nilE (vx _) e1, append_nilN (vy _) e2 (by rfl) h2, by simp, dBlk_l, fun S => by
        rw [e1]; exact own_T (j := 3) rfl (by simp)⟩
  · by_cases e2 : zs = []
    · exact ⟨_, _, _, _, none, append_nilN (vx _) e1 (by rfl) h1, append_ownE (j := 2) (v := false) (by rfl) (vy _) e2 h1, dBlk_l, by simp, fun S => by
        rw [e2, List.append_nil]; exact own_T (j := 2) rfl (by simp)⟩
    · have hz : 0 < zs.length := by
        cases zs with
        | nil => exact absurd rfl e2
        | cons => simp
      have ha := append_own (site := 3) (j := 2) (bytes := bytes) (G := []) (L := A0 :: A1 :: some (dBlk (T.row ys) true false) :: none :: R) (cells := T.row ys) (v := false) rfl (T.row_len ys) (vy _) (T.row_lf zs) hz hr
      refine ⟨_, _, _, _, none, append_nilN (vx _) e1 (by rfl) h1, ha, dBlk_l, by simp, fun S => ?_⟩
      have := own_T (T := T) (G := []) (L := A0 :: A1 :: some (dBlk (T.row (ys ++ zs)) true false) :: none :: S) (j := 2) (xs := ys ++ zs) (o := true) (v := false) (cap := none) rfl (by simp)
      rw [List.length_append] at this
      rw [← T.row_append]
      exact this
end
theorem bnr {ks : List Nat} {B : Option Blk} (h : ∀ b, B = some b → b.labs = []) : blkNoRef ks B = true := by
  cases B with
  | none => rfl
  | some b => show b.labs.all _ = true; rw [h b rfl]; rfl
def shU (n : Nat) (u : UnitD) : UnitD := ⟨u.line + n, u.net, u.opn⟩
theorem unitsT_sh : ∀ {zs : List LineD} {i n : Nat}, unitsT (i + n) zs = (unitsT i zs).map (shU n)
  | [], i, n => rfl
  | z :: zs, i, n => by
    show List.replicate z.qty.toNat (⟨((i + n : Nat) : Int), z.price, true⟩ : UnitD) ++ unitsT (i + n + 1) zs = (List.replicate z.qty.toNat (⟨(i : Int), z.price, true⟩ : UnitD) ++ unitsT (i + 1) zs).map (shU n)
    rw [List.map_append, List.map_replicate, ← unitsT_sh, show i + n + 1 = i + 1 + n from by omega]
    rfl
theorem unitsT_app : ∀ {ys zs : List LineD} {i : Nat}, unitsT i (ys ++ zs) = unitsT i ys ++ unitsT (i + ys.length) zs
  | [], zs, i => rfl
  | y :: ys, zs, i => by
    show List.replicate y.qty.toNat (⟨(i : Int), y.price, true⟩ : UnitD) ++ unitsT (i + 1) (ys ++ zs) = (List.replicate y.qty.toNat (⟨(i : Int), y.price, true⟩ : UnitD) ++ unitsT (i + 1) ys) ++ unitsT (i + (ys.length + 1)) zs
    rw [unitsT_app, List.append_assoc, show i + 1 + ys.length = i + (ys.length + 1) from by omega]
theorem both_may {xs ws : List LineD} : mayL (linesP xs ++ linesP ws) = true := by
  obtain ⟨a, b, c, d⟩ := linesP_sums (xs := xs)
  obtain ⟨a', b', c', d'⟩ := linesP_sums (xs := ws)
  have h1 := linesP_len (xs := xs)
  have h2 := linesP_len (xs := ws)
  refine mayL_iff.2 ⟨by rw [List.length_append]; omega, fun y hy => ?_, by rw [qs_app]; omega, by rw [gs_app]; omega⟩
  rcases List.mem_append.1 hy with hy | hy
  · obtain ⟨x, rfl⟩ := linesP_mem hy; exact lineP_ok.1
  · obtain ⟨x, rfl⟩ := linesP_mem hy; exact lineP_ok.1
theorem both_units {ys zs : List LineD} (h1 : mayL ys = true) (h2 : mayL zs = true) (h3 : mayL (ys ++ zs) = true) : unitsL (ys ++ zs) = unitsL ys ++ (unitsL zs).map (shU ys.length) := by
  rw [unitsL_may h1, unitsL_may h2, unitsL_may h3, unitsT_app, unitsT_sh]
structure Law14E (prog : String → Option IFn) : Prop extends Law14 prog where
  play : PlayBase prog
  mod64 : prog "haberdash/haberdashplay.Mod64" = some f_play_Mod64
  lines : prog "haberdash/haberdashplay.Lines" = some f_play_Lines
set_option maxRecDepth 10000 in
theorem BasketJoin_law (H : Law14E prog) (hp : prog "haberdash/haberdashlaw14.BasketJoin" = some f_law14_BasketJoin) {as} (h : IsAll [.slice lineTy, .slice lineTy] as) :
    ∃ G2, Ev prog (.call "haberdash/haberdashlaw14.BasketJoin" as []) (.ret (.v (.bool true)) G2) := by
  rcases as with _ | ⟨a0, _ | ⟨a1, _ | _⟩⟩ <;> try (simp [IsAll] at h; done)
  obtain ⟨⟨c0', h0, rfl⟩, ⟨c1', h1, rfl⟩, _⟩ := h
  obtain ⟨a, xs, rfl, va, hxl⟩ := is_lines h0
  obtain ⟨b, ws, rfl, vb, hwl⟩ := is_lines h1
  refine ⟨[], call_of_fin hp ?_⟩
  have gn : Good ⟨[], [none, none, none, none, none, none, none, none]⟩ := trivial
  have aw : ∀ G, G.length = 8 → Ev prog (.call "haberdash/haberdashlaw14.awake" [] G) (.ret (.v (.bool true)) G) := fun G h => awake14 H.toLaw14 (.inr (.inr (.inr h)))
  have hi : ∀ n : Int, (n != n) = false := fun n => by simp
  simp only [f_law14_BasketJoin_B, enter, List.length_cons, List.length_nil, List.replicate, Nat.reduceAdd, Nat.reduceSub, List.cons_append, List.nil_append, Ty.arg, intAV]
  simp (disch := first | (simp only [DS, reduceCtorEq]; done) | omega) only [WS, St.guard, St.put, evalO, reduceCtorEq, reduceIte, Nat.reduceAdd, Nat.reduceEqDiff, new_s, virtBlk_eq, box_s, box_vs, box_vi, box_vb, px_load_l, px_load_o, loadB_s, storeX, storeB_s, alloc_s, lay, whole, Option.join_some, List.drop_zero, List.drop_succ_cons, List.take_succ_cons, List.take_zero, List.drop_nil, List.nil_append, List.cons_append, Nat.reduceLeDiff, Nat.zero_add, and_self, and_true, cells_int, cells_bool, cells_str, cells_string, cells_agg, cells_own, cells_ro, cells_ptr, cells_nil, AV.lf.lfs, AV.lf, px_build, fills, build_string, build_str, build_int, WDR_some, Nat.reduceLeDiff, Nat.le_refl, Bool.and_self, (va _).lenSlice, (vb _).lenSlice]
  by_cases h40 : (xs.length : Int) > 40
  · simp (disch := first | (simp only [DS, reduceCtorEq]; done) | omega) only [WS, St.guard, St.put, evalO, reduceCtorEq, reduceIte, Nat.reduceAdd, Nat.reduceEqDiff, h40, decide_true]
    refine (WP_p (x := .bool true) (by exact aw _ rfl) gn).2 ?_
    simp (disch := first | (simp only [DS, reduceCtorEq]; done) | omega) only [WS, St.guard, St.put, evalO, reduceCtorEq, reduceIte, Nat.reduceAdd, Nat.reduceEqDiff, fin_tmp, leave_v]
    simp
  simp (disch := first | (simp only [DS, reduceCtorEq]; done) | omega) only [WS, St.guard, St.put, evalO, reduceCtorEq, reduceIte, Nat.reduceAdd, Nat.reduceEqDiff, new_s, virtBlk_eq, box_s, box_vs, box_vi, box_vb, px_load_l, px_load_o, loadB_s, storeX, storeB_s, alloc_s, lay, whole, Option.join_some, List.drop_zero, List.drop_succ_cons, List.take_succ_cons, List.take_zero, List.drop_nil, List.nil_append, List.cons_append, Nat.reduceLeDiff, Nat.zero_add, and_self, and_true, cells_int, cells_bool, cells_str, cells_string, cells_agg, cells_own, cells_ro, cells_ptr, cells_nil, AV.lf.lfs, AV.lf, px_build, fills, build_string, build_str, build_int, WDR_some, Nat.reduceLeDiff, Nat.le_refl, Bool.and_self, h40, decide_false, (vb _).lenSlice]
  by_cases h41 : (ws.length : Int) > 40
  · simp (disch := first | (simp only [DS, reduceCtorEq]; done) | omega) only [WS, St.guard, St.put, evalO, reduceCtorEq, reduceIte, Nat.reduceAdd, Nat.reduceEqDiff, h41, decide_true]
    refine (WP_p (x := .bool true) (by exact aw _ rfl) gn).2 ?_
    simp (disch := first | (simp only [DS, reduceCtorEq]; done) | omega) only [WS, St.guard, St.put, evalO, reduceCtorEq, reduceIte, Nat.reduceAdd, Nat.reduceEqDiff, fin_tmp, leave_v]
    simp
  simp (disch := first | (simp only [DS, reduceCtorEq]; done) | omega) only [WS, St.guard, St.put, evalO, reduceCtorEq, reduceIte, Nat.reduceAdd, Nat.reduceEqDiff, new_s, virtBlk_eq, box_s, box_vs, box_vi, box_vb, px_load_l, px_load_o, loadB_s, storeX, storeB_s, alloc_s, lay, whole, Option.join_some, List.drop_zero, List.drop_succ_cons, List.take_succ_cons, List.take_zero, List.drop_nil, List.nil_append, List.cons_append, Nat.reduceLeDiff, Nat.zero_add, and_self, and_true, cells_int, cells_bool, cells_str, cells_string, cells_agg, cells_own, cells_ro, cells_ptr, cells_nil, AV.lf.lfs, AV.lf, px_build, fills, build_string, build_str, build_int, WDR_some, Nat.reduceLeDiff, Nat.le_refl, Bool.and_self, h41, decide_false]
  refine WP_news (by exact Lines_spec H.play H.lines H.mod64 ((va _).into) hxl) (data1 dBlk_l) rfl (by decide) rfl gn (by exact ren_own1) ?_
  simp (disch := first | (simp only [DS, reduceCtorEq]; done) | omega) only [WS, St.guard, St.put, evalO, reduceCtorEq, reduceIte, Nat.reduceAdd, Nat.reduceEqDiff, new_s, virtBlk_eq, box_s, box_vs, box_vi, box_vb, px_load_l, px_load_o, loadB_s, storeX, storeB_s, alloc_s, lay, whole, Option.join_some, List.drop_zero, List.drop_succ_cons, List.take_succ_cons, List.take_zero, List.drop_nil, List.nil_append, List.cons_append, Nat.reduceLeDiff, Nat.zero_add, and_self, and_true, cells_int, cells_bool, cells_str, cells_string, cells_agg, cells_own, cells_ro, cells_ptr, cells_nil, AV.lf.lfs, AV.lf, px_build, fills, build_string, build_str, build_int, WDR_some, Nat.reduceLeDiff, Nat.le_refl, Bool.and_self, putAll]
  refine WP_news (by exact Lines_spec H.play H.lines H.mod64 ((vb _).into) hwl) (data1 dBlk_l) rfl (by decide) rfl (by unfold Good; dsimp only; repeat (first | exact trivial | rw [goodN] | refine ⟨dBlk_good, ?_⟩ | refine goodD (by assumption) ?_ | refine ⟨sBlk_good (by first | rfl | assumption | (simp [AV.labs.labss, AV.labs, refLt]; done)), ?_⟩)) (by exact ren_own1) ?_
  simp (disch := first | (simp only [DS, reduceCtorEq]; done) | omega) only [WS, St.guard, St.put, evalO, reduceCtorEq, reduceIte, Nat.reduceAdd, Nat.reduceEqDiff, new_s, virtBlk_eq, box_s, box_vs, box_vi, box_vb, px_load_l, px_load_o, loadB_s, storeX, storeB_s, alloc_s, lay, whole, Option.join_some, List.drop_zero, List.drop_succ_cons, List.take_succ_cons, List.take_zero, List.drop_nil, List.nil_append, List.cons_append, Nat.reduceLeDiff, Nat.zero_add, and_self, and_true, cells_int, cells_bool, cells_str, cells_string, cells_agg, cells_own, cells_ro, cells_ptr, cells_nil, AV.lf.lfs, AV.lf, px_build, fills, build_string, build_str, build_int, WDR_some, Nat.reduceLeDiff, Nat.le_refl, Bool.and_self, putAll]
  have hm1 := linesP_may (xs := xs)
  have hm2 := linesP_may (xs := ws)
  have hm3 := both_may (xs := xs) (ws := ws)
  have hs1 := linesP_sums (xs := xs)
  have hs2 := linesP_sums (xs := ws)
  have hn1 := linesP_len (xs := xs)
  have hn2 := linesP_len (xs := ws)
  have h8 : min xs.length 8 ≤ 8 := by omega
  have h9 : min ws.length 8 ≤ 8 := by omega
  generalize min xs.length 8 = n at *
  generalize min ws.length 8 = m at *
  generalize decide (n = 0) = dn
  generalize decide (m = 0) = dm
  generalize linesP xs = ys at *
  generalize linesP ws = zs at *
  have hB0 : ∀ B, some (dBlk (lnE.row ys) true dn) = some B → B.labs = [] := dBlk_l
  have hB1 : ∀ B, some (dBlk (lnE.row zs) true dm) = some B → B.labs = [] := dBlk_l
  have nn : ∀ B : Blk, (none : Option Blk) = some B → B.labs = [] := fun B h => by cases h
  have wy : ∀ T, TView lnE ⟨[], some (dBlk (lnE.row ys) true dn) :: T⟩ (.own (.l 0) (n * 3) 0 n 3 none) ys := fun T => own_n (T := lnE) (j := 0) (n := n) rfl hn1
  have wz : ∀ b0 T, TView lnE ⟨[], b0 :: some (dBlk (lnE.row zs) true dm) :: T⟩ (.own (.l 1) (m * 3) 0 m 3 none) zs := fun b0 T => own_n (T := lnE) (j := 1) (n := m) rfl hn2
  generalize some (dBlk (lnE.row ys) true dn) = B0 at *
  generalize some (dBlk (lnE.row zs) true dm) = B1 at *
  obtain ⟨u0, C, w, B2, B3, e1, e2, hB2, hB3, ww⟩ := append_both (T := lnE) (R := [none, none, none, none]) (bytes := 32) (fun L => wy (B1 :: L)) (wz B0) (by unfold room; omega)
  rw [ln_esz] at e1 e2
  simp (disch := first | (simp only [DS, reduceCtorEq]; done) | omega) only [WS, St.guard, St.put, evalO, reduceCtorEq, reduceIte, Nat.reduceAdd, Nat.reduceEqDiff, new_s, virtBlk_eq, box_s, box_vs, box_vi, box_vb, px_load_l, px_load_o, loadB_s, storeX, storeB_s, alloc_s, lay, whole, Option.join_some, List.drop_zero, List.drop_succ_cons, List.take_succ_cons, List.take_zero, List.drop_nil, List.nil_append, List.cons_append, Nat.reduceLeDiff, Nat.zero_add, and_self, and_true, cells_int, cells_bool, cells_str, cells_string, cells_agg, cells_own, cells_ro, cells_ptr, cells_nil, AV.lf.lfs, AV.lf, px_build, fills, build_string, build_str, build_int, WDR_some, Nat.reduceLeDiff, Nat.le_refl, Bool.and_self, e1]
  simp (disch := first | (simp only [DS, reduceCtorEq]; done) | omega) only [WS, St.guard, St.put, evalO, reduceCtorEq, reduceIte, Nat.reduceAdd, Nat.reduceEqDiff, new_s, virtBlk_eq, box_s, box_vs, box_vi, box_vb, px_load_l, px_load_o, loadB_s, storeX, storeB_s, alloc_s, lay, whole, Option.join_some, List.drop_zero, List.drop_succ_cons, List.take_succ_cons, List.take_zero, List.drop_nil, List.nil_append, List.cons_append, Nat.reduceLeDiff, Nat.zero_add, and_self, and_true, cells_int, cells_bool, cells_str, cells_string, cells_agg, cells_own, cells_ro, cells_ptr, cells_nil, AV.lf.lfs, AV.lf, px_build, fills, build_string, build_str, build_int, WDR_some, Nat.reduceLeDiff, Nat.le_refl, Bool.and_self, e2]
  clear e1 e2
  have gd : ∀ c d e f : Option Blk, (∀ B, c = some B → B.labs = []) → (∀ B, d = some B → B.labs = []) → (∀ B, e = some B → B.labs = []) → (∀ B, f = some B → B.labs = []) → Good ⟨[], [B0, B1, B2, B3, c, d, e, f]⟩ := fun c d e f h1 h2 h3 h4 => (by unfold Good; dsimp only; repeat (first | exact trivial | rw [goodN] | refine ⟨dBlk_good, ?_⟩ | refine goodD (by assumption) ?_ | refine ⟨sBlk_good (by first | rfl | assumption | (simp [AV.labs.labss, AV.labs, refLt]; done)), ?_⟩))
  have hl3 : (ys ++ zs).length = n + m := by rw [List.length_append, hn1, hn2]
  obtain ⟨r4, G4, ev4, an4⟩ := Units_spec H.units ((wy [B1, B2, B3, none, none, none, none]).into) (by omega)
  obtain ⟨u4, B4, e4, hB4, vu4, nr4⟩ := op_list (args := [.own (.l 0) (n * 3) 0 n 3 none]) ev4 an4 (site := 4) rfl (gd _ _ _ _ nn nn nn nn)
  refine WP_of (by exact e4) ?_
  simp (disch := first | (simp only [DS, reduceCtorEq]; done) | omega) only [WS, St.guard, St.put, evalO, reduceCtorEq, reduceIte, Nat.reduceAdd, Nat.reduceEqDiff, new_s, virtBlk_eq, box_s, box_vs, box_vi, box_vb, px_load_l, px_load_o, loadB_s, storeX, storeB_s, alloc_s, lay, whole, Option.join_some, List.drop_zero, List.drop_succ_cons, List.take_succ_cons, List.take_zero, List.drop_nil, List.nil_append, List.cons_append, Nat.reduceLeDiff, Nat.zero_add, and_self, and_true, cells_int, cells_bool, cells_str, cells_string, cells_agg, cells_own, cells_ro, cells_ptr, cells_nil, AV.lf.lfs, AV.lf, px_build, fills, build_string, build_str, build_int, WDR_some, Nat.reduceLeDiff, Nat.le_refl, Bool.and_self]
  obtain ⟨r5, G5, ev5, an5⟩ := Units_spec H.units ((wz B0 [B2, B3, B4, none, none, none]).into) (by omega)
  obtain ⟨u5, B5, e5, hB5, vu5, nr5⟩ := op_list (args := [.own (.l 1) (m * 3) 0 m 3 none]) ev5 an5 (site := 5) rfl (gd _ _ _ _ hB4 nn nn nn)
  refine WP_of (by exact e5) ?_
  simp (disch := first | (simp only [DS, reduceCtorEq]; done) | omega) only [WS, St.guard, St.put, evalO, reduceCtorEq, reduceIte, Nat.reduceAdd, Nat.reduceEqDiff, new_s, virtBlk_eq, box_s, box_vs, box_vi, box_vb, px_load_l, px_load_o, loadB_s, storeX, storeB_s, alloc_s, lay, whole, Option.join_some, List.drop_zero, List.drop_succ_cons, List.take_succ_cons, List.take_zero, List.drop_nil, List.nil_append, List.cons_append, Nat.reduceLeDiff, Nat.zero_add, and_self, and_true, cells_int, cells_bool, cells_str, cells_string, cells_agg, cells_own, cells_ro, cells_ptr, cells_nil, AV.lf.lfs, AV.lf, px_build, fills, build_string, build_str, build_int, WDR_some, Nat.reduceLeDiff, Nat.le_refl, Bool.and_self]
  obtain ⟨r6, G6, ev6, an6⟩ := Units_spec H.units ((ww [B4, B5, none, none]).into) (by omega)
  obtain ⟨u6, B6, e6, hB6, vu6, nr6⟩ := op_list (args := [w]) ev6 an6 (site := 6) rfl (gd _ _ _ _ hB4 hB5 nn nn)
  refine WP_of (by exact e6) ?_
  simp (disch := first | (simp only [DS, reduceCtorEq]; done) | omega) only [WS, St.guard, St.put, evalO, reduceCtorEq, reduceIte, Nat.reduceAdd, Nat.reduceEqDiff, new_s, virtBlk_eq, box_s, box_vs, box_vi, box_vb, px_load_l, px_load_o, loadB_s, storeX, storeB_s, alloc_s, lay, whole, Option.join_some, List.drop_zero, List.drop_succ_cons, List.take_succ_cons, List.take_zero, List.drop_nil, List.nil_append, List.cons_append, Nat.reduceLeDiff, Nat.zero_add, and_self, and_true, cells_int, cells_bool, cells_str, cells_string, cells_agg, cells_own, cells_ro, cells_ptr, cells_nil, AV.lf.lfs, AV.lf, px_build, fills, build_string, build_str, build_int, WDR_some, Nat.reduceLeDiff, Nat.le_refl, Bool.and_self]
  clear e4 e5 e6 ev4 ev5 ev6 an4 an5 an6
  have g6 := gd _ _ _ _ hB4 hB5 hB6 nn
  refine (WP_p (x := .bool true) (by exact aw _ rfl) g6).2 ?_
  have uc1 := units_count hm1
  have uc2 := units_count hm2
  have uc3 := units_count hm3
  have ht : ∀ y ∈ unitsL zs, 0 ≤ y.line ∧ y.line ≤ 8 := fun y hy => by
    rw [unitsL_may hm2] at hy
    obtain ⟨_, j, x, hx, hj, _⟩ := units_mem hy
    have := lt_of_get hx
    omega
  have hb := both_units hm1 hm2 hm3
  rw [hn1] at hb
  generalize unitsL (ys ++ zs) = us at *
  generalize unitsL ys = ps at *
  generalize unitsL zs = ts at *
  rw [qs_app] at uc3
  have vp : ∀ B, TView uE ⟨[], [B0, B1, B2, B3, B4, B5, B6, B]⟩ u4 ps := fun B => vu4 _ rfl
  have vt : ∀ B, TView uE ⟨[], [B0, B1, B2, B3, B4, B5, B6, B]⟩ u5 ts := fun B => vu5 _ rfl
  have vs : ∀ B, TView uE ⟨[], [B0, B1, B2, B3, B4, B5, B6, B]⟩ u6 us := fun B => vu6 _ rfl
  have hlen : (us.length : Int) = (ps.length : Int) + (ts.length : Int) := by omega
  have gy : grossV ys = gs ys := by unfold grossV; rw [hm1]; rfl
  have gz : grossV zs = gs zs := by unfold grossV; rw [hm2]; rfl
  have gyz : grossV (ys ++ zs) = gs ys + gs zs := by unfold grossV; rw [hm3, gs_app]; rfl
  simp (disch := first | (simp only [DS, reduceCtorEq]; done) | omega) only [WS, St.guard, St.put, evalO, reduceCtorEq, reduceIte, Nat.reduceAdd, Nat.reduceEqDiff, new_s, virtBlk_eq, box_s, box_vs, box_vi, box_vb, px_load_l, px_load_o, loadB_s, storeX, storeB_s, alloc_s, lay, whole, Option.join_some, List.drop_zero, List.drop_succ_cons, List.take_succ_cons, List.take_zero, List.drop_nil, List.nil_append, List.cons_append, Nat.reduceLeDiff, Nat.zero_add, and_self, and_true, cells_int, cells_bool, cells_str, cells_string, cells_agg, cells_own, cells_ro, cells_ptr, cells_nil, AV.lf.lfs, AV.lf, px_build, fills, build_string, build_str, build_int, WDR_some, Nat.reduceLeDiff, Nat.le_refl, Bool.and_self, (vs _).lenSlice, (vp _).lenSlice, (vt _).lenSlice, vBin_add_i64, hlen, hi]
  refine (WP_p (x := .int .i64 (grossV (ys ++ zs))) (by exact Gross_spec H.toBasketLib H.gross ((ww _).into) (by rw [hl3]; unfold maxLen; omega)) g6).2 ?_
  simp (disch := first | (simp only [DS, reduceCtorEq]; done) | omega) only [WS, St.guard, St.put, evalO, reduceCtorEq, reduceIte, Nat.reduceAdd, Nat.reduceEqDiff, new_s, virtBlk_eq, box_s, box_vs, box_vi, box_vb, px_load_l, px_load_o, loadB_s, storeX, storeB_s, alloc_s, lay, whole, Option.join_some, List.drop_zero, List.drop_succ_cons, List.take_succ_cons, List.take_zero, List.drop_nil, List.nil_append, List.cons_append, Nat.reduceLeDiff, Nat.zero_add, and_self, and_true, cells_int, cells_bool, cells_str, cells_string, cells_agg, cells_own, cells_ro, cells_ptr, cells_nil, AV.lf.lfs, AV.lf, px_build, fills, build_string, build_str, build_int, WDR_some, Nat.reduceLeDiff, Nat.le_refl, Bool.and_self]
  refine (WP_p (x := .int .i64 (grossV ys)) (by exact Gross_spec H.toBasketLib H.gross ((wy _).into) (by unfold maxLen; omega)) g6).2 ?_
  simp (disch := first | (simp only [DS, reduceCtorEq]; done) | omega) only [WS, St.guard, St.put, evalO, reduceCtorEq, reduceIte, Nat.reduceAdd, Nat.reduceEqDiff, new_s, virtBlk_eq, box_s, box_vs, box_vi, box_vb, px_load_l, px_load_o, loadB_s, storeX, storeB_s, alloc_s, lay, whole, Option.join_some, List.drop_zero, List.drop_succ_cons, List.take_succ_cons, List.take_zero, List.drop_nil, List.nil_append, List.cons_append, Nat.reduceLeDiff, Nat.zero_add, and_self, and_true, cells_int, cells_bool, cells_str, cells_string, cells_agg, cells_own, cells_ro, cells_ptr, cells_nil, AV.lf.lfs, AV.lf, px_build, fills, build_string, build_str, build_int, WDR_some, Nat.reduceLeDiff, Nat.le_refl, Bool.and_self]
  refine (WP_p (x := .int .i64 (grossV zs)) (by exact Gross_spec H.toBasketLib H.gross ((wz _ _).into) (by unfold maxLen; omega)) g6).2 ?_
  simp (disch := first | (simp only [DS, reduceCtorEq]; done) | omega) only [WS, St.guard, St.put, evalO, reduceCtorEq, reduceIte, Nat.reduceAdd, Nat.reduceEqDiff, new_s, virtBlk_eq, box_s, box_vs, box_vi, box_vb, px_load_l, px_load_o, loadB_s, storeX, storeB_s, alloc_s, lay, whole, Option.join_some, List.drop_zero, List.drop_succ_cons, List.take_succ_cons, List.take_zero, List.drop_nil, List.nil_append, List.cons_append, Nat.reduceLeDiff, Nat.zero_add, and_self, and_true, cells_int, cells_bool, cells_str, cells_string, cells_agg, cells_own, cells_ro, cells_ptr, cells_nil, AV.lf.lfs, AV.lf, px_build, fills, build_string, build_str, build_int, WDR_some, Nat.reduceLeDiff, Nat.le_refl, Bool.and_self, gy, gz, gyz, vBin_add_i64, hi]
  have hq : ∀ x : UnitD, cellsEq [.int, .int, .bool] [.v (.int .i64 x.line), .v (.int .i64 x.net), .v (.bool x.opn)] [.v (.int .i64 x.line), .v (.int .i64 x.net), .v (.bool x.opn)] = some true := fun x => (cells_unit (x := x) (y := x)).trans (by simp)
  refine WC_count (fun k => ⟨f_law14_BasketJoin_H0 (.own (.l 0) (n * 3) 0 n 3 none) u4 u5 u6 (.v (.int .i64 (k : Nat))), ⟨[], [B0, B1, B2, B3, B4, B5, B6, none]⟩⟩) us.length ?_ (fun k hk => ?_) ?_
  · exact clear_fre (by simp only [clear_nil, List.foldl_cons, List.foldl_nil, Option.some.injEq, LS, reduceCtorEq, reduceIte, Nat.reduceAdd]; rfl) (by rfl) (by simp only [f_law14_BasketJoin_H0, List.all_cons, List.all_nil, noRef_v, noRef_dead, noRef_own, noRef_ptr, noRef_nil, Bool.and_true, Bool.true_and, Bool.and_self, List.contains_cons, List.contains_nil, Bool.or_false, Nat.reduceBEq, Bool.not_false, nr4 [7] rfl, nr5 [7] rfl, nr6 [7] rfl]) (by simp only [List.all_cons, List.all_nil, bnr hB0, bnr hB1, bnr hB2, bnr hB3, bnr hB4, bnr hB5, bnr hB6, bnr nn, Bool.and_true])
  · have hlt' : (k : Int) < (us.length : Int) := by omega
    have hu : us[k]? = some us[k] := List.getElem?_eq_getElem hk
    generalize us[k] = x at *
    have q := fun B => un_at (vs B) hu
    rw [hb, List.getElem?_append] at hu
    by_cases hkp : k < ps.length
    · rw [if_pos hkp] at hu
      have q1 := fun B => un_at (vp B) hu
      simp (disch := first | (simp only [DS, reduceCtorEq]; done) | omega) only [f_law14_BasketJoin_L0, f_law14_BasketJoin_H0, WS, St.guard, St.put, evalO, reduceCtorEq, reduceIte, Nat.reduceAdd, Nat.reduceEqDiff, new_s, virtBlk_eq, box_s, box_vs, box_vi, box_vb, px_load_l, px_load_o, loadB_s, storeX, storeB_s, alloc_s, lay, whole, Option.join_some, List.drop_zero, List.drop_succ_cons, List.take_succ_cons, List.take_zero, List.drop_nil, List.nil_append, List.cons_append, Nat.reduceLeDiff, Nat.zero_add, and_self, and_true, cells_int, cells_bool, cells_str, cells_string, cells_agg, cells_own, cells_ro, cells_ptr, cells_nil, AV.lf.lfs, AV.lf, px_build, fills, build_string, build_str, build_int, WDR_some, Nat.reduceLeDiff, Nat.le_refl, Bool.and_self, (vs _).lenSlice, (vp _).lenSlice, hlt', show (k : Int) < (ps.length : Int) from by omega, decide_true, (q1 _).ix, (q1 _).ld, (q _).ix, (q _).ld, UnitD.cells, px_eq, hq, vBin_add_i64]
      exact clear_fre (by simp only [clear_nil, List.foldl_cons, List.foldl_nil, Option.some.injEq, LS, reduceCtorEq, reduceIte, Nat.reduceAdd]; rfl) (by rfl) (by simp only [f_law14_BasketJoin_H0, List.all_cons, List.all_nil, noRef_v, noRef_dead, noRef_own, noRef_ptr, noRef_nil, Bool.and_true, Bool.true_and, Bool.and_self, List.contains_cons, List.contains_nil, Bool.or_false, Nat.reduceBEq, Bool.not_false, nr4 [7] rfl, nr5 [7] rfl, nr6 [7] rfl]) (by simp only [List.all_cons, List.all_nil, bnr hB0, bnr hB1, bnr hB2, bnr hB3, bnr hB4, bnr hB5, bnr hB6, bnr nn, Bool.and_true])
    · rw [if_neg hkp, List.getElem?_map] at hu
      obtain ⟨y, hy, rfl⟩ := Option.map_eq_some_iff.1 hu
      have q1 := fun B => un_at (vt B) hy
      have es : (k : Int) - (ps.length : Int) = ((k - ps.length : Nat) : Int) := by omega
      have hyb := ht y (List.mem_of_getElem? hy)
      have hqy := hq (shU n y)
      unfold shU at hqy
      simp (disch := first | (simp only [DS, reduceCtorEq]; done) | omega) only [f_law14_BasketJoin_L0, f_law14_BasketJoin_H0, WS, St.guard, St.put, evalO, reduceCtorEq, reduceIte, Nat.reduceAdd, Nat.reduceEqDiff, new_s, virtBlk_eq, box_s, box_vs, box_vi, box_vb, px_load_l, px_load_o, loadB_s, storeX, storeB_s, alloc_s, lay, whole, Option.join_some, List.drop_zero, List.drop_succ_cons, List.take_succ_cons, List.take_zero, List.drop_nil, List.nil_append, List.cons_append, Nat.reduceLeDiff, Nat.zero_add, and_self, and_true, cells_int, cells_bool, cells_str, cells_string, cells_agg, cells_own, cells_ro, cells_ptr, cells_nil, AV.lf.lfs, AV.lf, px_build, fills, build_string, build_str, build_int, WDR_some, Nat.reduceLeDiff, Nat.le_refl, Bool.and_self, (vs _).lenSlice, (vp _).lenSlice, hlt', show ¬ ((k : Int) < (ps.length : Int)) from by omega, decide_true, decide_false, vBin_sub_i64, es, (q1 _).ix, (q1 _).ld, (q _).ix, (q _).ld, lenOf_own, goInt, UnitD.cells, shU, px_eq, hqy, vBin_add_i64]
      exact clear_fre (by simp only [clear_nil, List.foldl_cons, List.foldl_nil, Option.some.injEq, LS, reduceCtorEq, reduceIte, Nat.reduceAdd]; rfl) (by rfl) (by simp only [f_law14_BasketJoin_H0, List.all_cons, List.all_nil, noRef_v, noRef_dead, noRef_own, noRef_ptr, noRef_nil, Bool.and_true, Bool.true_and, Bool.and_self, List.contains_cons, List.contains_nil, Bool.or_false, Nat.reduceBEq, Bool.not_false, nr4 [7] rfl, nr5 [7] rfl, nr6 [7] rfl]) (by simp only [List.all_cons, List.all_nil, bnr hB0, bnr hB1, bnr hB2, bnr hB3, bnr hB4, bnr hB5, bnr hB6, bnr nn, Bool.and_true])
  · simp (disch := first | (simp only [DS, reduceCtorEq]; done) | omega) only [f_law14_BasketJoin_L0, f_law14_BasketJoin_H0, WS, St.guard, St.put, evalO, reduceCtorEq, reduceIte, Nat.reduceAdd, Nat.reduceEqDiff, new_s, virtBlk_eq, box_s, box_vs, box_vi, box_vb, px_load_l, px_load_o, loadB_s, storeX, storeB_s, alloc_s, lay, whole, Option.join_some, List.drop_zero, List.drop_succ_cons, List.take_succ_cons, List.take_zero, List.drop_nil, List.nil_append, List.cons_append, Nat.reduceLeDiff, Nat.zero_add, and_self, and_true, cells_int, cells_bool, cells_str, cells_string, cells_agg, cells_own, cells_ro, cells_ptr, cells_nil, AV.lf.lfs, AV.lf, px_build, fills, build_string, build_str, build_int, WDR_some, Nat.reduceLeDiff, Nat.le_refl, Bool.and_self, (vs _).lenSlice, decide_false, fin_tmp, leave_v]
    simp
end Go.AM
