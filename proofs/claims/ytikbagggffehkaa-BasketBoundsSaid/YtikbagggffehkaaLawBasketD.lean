import Derived.Test.YtikbagggffehkaaBasketD
import Derived.Test.YtikbagggffehkaaLawGoodsB
set_option linter.unusedVariables false
set_option linter.unusedSimpArgs false
namespace Go.AM
variable {prog : String → Option IFn}
theorem make_B {α : Type} {T : Enc α} {G L} {site bytes n : Nat} {k k' : IntKind} {z : List Value} {x0 : α} (hz : T.E x0 = z.map AV.v) (hL : L[site]? = some none) (h1 : n ≤ room) (h2 : n * bytes ≤ room) :
    prim ⟨G, L⟩ (.makeSlice site T.esz bytes z) [.v (.int k (n : Int)), .v (.int k' (n : Int))] = some (.own (.l site) (n * T.esz) 0 n T.esz (some n), ⟨G, L.set site (some (dBlk (T.row (List.replicate n x0)) false false))⟩) := by
  have e : (List.replicate n (z.map AV.v)).flatten = T.row (List.replicate n x0) := by rw [Enc.row, List.flatMap_def, List.map_replicate, hz]
  rw [px_makeSlice, natOf_nat, natOf_nat]
  simp only [Option.bind_some, e]
  refine (if_pos ⟨Nat.le_refl _, h1, h2, by rw [← List.length_map (f := AV.v), ← hz, T.len]⟩).trans ?_
  rw [newBlk_data (T.row_lf _)]
  simp only [Hp.new, hL, Option.map_some]
theorem build_B2 {G L} {j : Nat} {x y : LineD} (hL : L[j]? = some none) :
    prim ⟨G, L⟩ (.buildSlice j false 3 2 lnZ [(0, 3), (3, 3)]) [.agg x.cells, .agg y.cells] = some (.own (.l j) 6 0 2 3 (some 2), ⟨G, L.set j (some (dBlk (lnE.row [x, y]) false false))⟩) := by
  rw [px_buildSlice]
  have hf : fills [(0, 3), (3, 3)] ((List.replicate 2 (lnZ.map AV.v)).flatten) [.agg x.cells, .agg y.cells] = some (lnE.row [x, y]) := rfl
  simp only [Hp.mayFreeze, Bool.false_eq_true, if_false, Option.bind_some, hf]
  refine (if_pos rfl).trans ?_
  rw [newBlk_data (lnE.row_lf [x, y])]
  simp only [Hp.new, hL, Option.map_some]
def itA : ItemD := ⟨[97], [120], 0, false⟩
theorem kn_a : knI [itA] [97] = true := by decide
theorem check_a {xs : List LineD} (hk : ∀ x ∈ xs, x.sku = [97] ∧ okL x = true) : checkI [itA] xs = if xs.length > 1000 then 6 else if overL xs then 5 else 0 := by
  unfold checkI checkV
  rw [lineCode_all (kn := knI [itA]) (xs := xs) fun x hx => ⟨by rw [(hk x hx).1]; exact kn_a, (hk x hx).2⟩, if_pos rfl]
def lnA (q p : Int) : LineD := ⟨[97], q, p⟩
theorem rep_sums : ∀ {n : Nat}, qs (List.replicate n (lnA 0 0)) = 0 ∧ gs (List.replicate n (lnA 0 0)) = 0
  | 0 => ⟨rfl, rfl⟩
  | n + 1 => by
    obtain ⟨a, b⟩ := rep_sums (n := n)
    rw [List.replicate_succ, qs_cons, gs_cons, a, b]
    exact ⟨rfl, rfl⟩
theorem check_rep {n : Nat} : checkI [itA] (List.replicate n (lnA 0 0)) = if n > 1000 then 6 else 0 := by
  rw [check_a fun x hx => by rw [(List.mem_replicate.1 hx).2]; exact ⟨rfl, rfl⟩, List.length_replicate]
  obtain ⟨a, b⟩ := rep_sums (n := n)
  unfold overL
  rw [a, b]
  rfl
theorem check_two {q r : Int} (h0 : 0 ≤ q) (h1 : q ≤ 100000) (h2 : 0 ≤ r) (h3 : r ≤ 100000) : checkI [itA] [lnA q 0, lnA r 0] = if q + r > 100000 then 5 else 0 := by
  rw [check_a fun x hx => by
    rcases List.mem_cons.1 hx with rfl | hx
    · exact ⟨rfl, okL_iff.2 ⟨h0, h1, Int.le_refl 0, (by decide : (0 : Int) ≤ 1000000000)⟩⟩
    · rw [List.mem_singleton.1 hx]; exact ⟨rfl, okL_iff.2 ⟨h2, h3, Int.le_refl 0, (by decide : (0 : Int) ≤ 1000000000)⟩⟩]
  rw [if_neg (show ¬ ([lnA q 0, lnA r 0].length > 1000) from (by decide : ¬ (2 > 1000)))]
  have e1 : qs [lnA q 0, lnA r 0] = q + r := by rw [qs_cons, qs_cons, qs_nil]; show q + (r + 0) = _; omega
  have e2 : gs [lnA q 0, lnA r 0] = 0 := by rw [gs_cons, gs_cons, gs_nil]; show q * 0 + (r * 0 + 0) = _; omega
  unfold overL
  rw [e1, e2]
  by_cases h : q + r > 100000
  · rw [decide_eq_true h, if_pos h]; rfl
  · rw [decide_eq_false h, if_neg h]; rfl
theorem check_one {q p : Int} (h0 : 0 ≤ q) (h1 : q ≤ 100000) (h2 : 0 ≤ p) (h3 : p ≤ 1000000000) : checkI [itA] [lnA q p] = if q * p > 10000000000000 then 5 else 0 := by
  rw [check_a fun x hx => by rw [List.mem_singleton.1 hx]; exact ⟨rfl, okL_iff.2 ⟨h0, h1, h2, h3⟩⟩]
  rw [if_neg (show ¬ ([lnA q p].length > 1000) from (by decide : ¬ (1 > 1000)))]
  have e1 : qs [lnA q p] = q := by rw [qs_cons, qs_nil]; show q + 0 = _; omega
  have e2 : gs [lnA q p] = q * p := by rw [gs_cons, gs_nil]; show q * p + 0 = _; omega
  unfold overL
  rw [e1, e2, decide_eq_false (p := q > 100000) (by omega)]
  by_cases h : q * p > 10000000000000
  · rw [decide_eq_true h, if_pos h]; rfl
  · rw [decide_eq_false h, if_neg h]; rfl
theorem gross_one {s : Txt} {q p : Int} (h0 : 0 ≤ q) (h1 : q ≤ 100000) (h2 : 0 ≤ p) (h3 : p ≤ 1000000000) (h4 : q * p ≤ 10000000000000) : grossV [⟨s, q, p⟩] = q * p := by
  have e1 : qs [(⟨s, q, p⟩ : LineD)] = q := by rw [qs_cons, qs_nil]; show q + 0 = _; omega
  have e2 : gs [(⟨s, q, p⟩ : LineD)] = q * p := by rw [gs_cons, gs_nil]; show q * p + 0 = _; omega
  have hm : mayL [(⟨s, q, p⟩ : LineD)] = true := mayL_iff.2 ⟨(by decide : 1 ≤ 1000), fun x hx => by rw [List.mem_singleton.1 hx]; exact okL_iff.2 ⟨h0, h1, h2, h3⟩, by omega, by omega⟩
  unfold grossV
  rw [hm, e2]; rfl
def repA (n k : Nat) : List LineD := List.replicate k (lnA 0 0) ++ List.replicate (n - k) ⟨[], 0, 0⟩
theorem repA_len {n k} (h : k ≤ n) : (repA n k).length = n := by unfold repA; simp; omega
theorem repA_zero {n} : repA n 0 = List.replicate n ⟨[], 0, 0⟩ := by simp [repA]
theorem repA_all {n} : repA n n = List.replicate n (lnA 0 0) := by simp [repA]
theorem repA_at {n k} (h : k < n) : (repA n k)[k]? = some ⟨[], 0, 0⟩ := by
  unfold repA
  rw [List.getElem?_append_right (by simp), List.length_replicate, Nat.sub_self, List.getElem?_replicate, if_pos (by omega)]
theorem repA_set {n k} (h : k < n) : (repA n k).set k (lnA 0 0) = repA n (k + 1) := by
  unfold repA
  rw [List.set_append_right _ _ (by simp), List.length_replicate, Nat.sub_self, show n - k = (n - (k + 1)) + 1 from by omega, List.replicate_succ, List.set_cons_zero, List.replicate_succ' (n := k), List.append_assoc]; rfl
structure Law14D (prog : String → Option IFn) : Prop extends Law14 prog where
  mod : prog "haberdash/haberdashplay.Mod" = some f_play_Mod
  mod64 : prog "haberdash/haberdashplay.Mod64" = some f_play_Mod64
set_option maxRecDepth 10000 in
set_option maxHeartbeats 4000000 in
theorem BasketBounds_law (H : Law14D prog) (hp : prog "haberdash/haberdashlaw14.BasketBounds" = some f_law14_BasketBounds) {as} (h : IsAll [.int .i64, .int .i64] as) :
    ∃ G2, Ev prog (.call "haberdash/haberdashlaw14.BasketBounds" as []) (.ret (.v (.bool true)) G2) := by
  rcases as with _ | ⟨a0, _ | ⟨a1, _ | _⟩⟩ <;> try (simp [IsAll] at h; done)
  obtain ⟨⟨c0', h0, rfl⟩, ⟨c1', h1, rfl⟩, _⟩ := h
  obtain ⟨c0, rfl, hc0⟩ := is_i64 h0
  obtain ⟨c1, rfl, hc1⟩ := is_i64 h1
  refine ⟨[], call_of_fin hp ?_⟩
  have aw : ∀ G, G.length = 6 → Ev prog (.call "haberdash/haberdashlaw14.awake" [] G) (.ret (.v (.bool true)) G) := fun G h => awake14 H.toLaw14 (.inr (.inr (.inl h)))
  have hi : ∀ n : Int, (n == n) = true := fun n => by simp
  have hroom : room = 140737488355328 := rfl
  simp only [f_law14_BasketBounds_B, enter, List.length_cons, List.length_nil, List.replicate, Nat.reduceAdd, Nat.reduceSub, List.cons_append, List.nil_append, Ty.arg, intAV]
  have hbI : ∀ L, L[0]? = some none → prim ⟨[], L⟩ (.buildSlice 0 false 4 1 [.string ⟨#[]⟩, .string ⟨#[]⟩, .int .i64 0, .bool false] [(0, 4)]) [.agg [.v (.string ⟨#[97]⟩), .v (.string ⟨#[120]⟩), .v (.int .i64 0), .v (.bool false)]] =
      some (.own (.l 0) 4 0 1 4 (some 1), ⟨[], L.set 0 (some (dBlk (itEnc.row [itA]) false false))⟩) := fun L hL => build_T (T := itEnc) (zs := itZ) (x := itA) rfl hL
  have hb1 : ∀ j L (q p : Int), L[j]? = some none → prim ⟨[], L⟩ (.buildSlice j false 3 1 [.string ⟨#[]⟩, .int .i64 0, .int .i64 0] [(0, 3)]) [.agg [.v (.string ⟨#[97]⟩), .v (.int .i64 q), .v (.int .i64 p)]] =
      some (.own (.l j) 3 0 1 3 (some 1), ⟨[], L.set j (some (dBlk (lnE.row [lnA q p]) false false))⟩) := fun j L q p hL => build_T (T := lnE) (zs := lnZ) (x := lnA q p) rfl hL
  have hbq : ∀ j L (q p : Int), L[j]? = some none → prim ⟨[], L⟩ (.buildSlice j false 3 1 [.string ⟨#[]⟩, .int .i64 0, .int .i64 0] [(0, 3)]) [.agg [.v (.string ⟨#[113]⟩), .v (.int .i64 q), .v (.int .i64 p)]] =
      some (.own (.l j) 3 0 1 3 (some 1), ⟨[], L.set j (some (dBlk (lnE.row [⟨[113], q, p⟩]) false false))⟩) := fun j L q p hL => build_T (T := lnE) (zs := lnZ) (x := ⟨[113], q, p⟩) rfl hL
  have hb2 : ∀ j L (q r : Int), L[j]? = some none → prim ⟨[], L⟩ (.buildSlice j false 3 2 [.string ⟨#[]⟩, .int .i64 0, .int .i64 0] [(0, 3), (3, 3)]) [.agg [.v (.string ⟨#[97]⟩), .v (.int .i64 q), .v (.int .i64 0)], .agg [.v (.string ⟨#[97]⟩), .v (.int .i64 r), .v (.int .i64 0)]] =
      some (.own (.l j) 6 0 2 3 (some 2), ⟨[], L.set j (some (dBlk (lnE.row [lnA q 0, lnA r 0]) false false))⟩) := fun j L q r hL => build_B2 (x := lnA q 0) (y := lnA r 0) hL
  simp (disch := first | (simp only [DS, reduceCtorEq]; done) | omega) only [WS, St.guard, St.put, evalO, reduceCtorEq, reduceIte, Nat.reduceAdd, Nat.reduceEqDiff, new_s, virtBlk_eq, box_s, box_vs, box_vi, box_vb, px_load_l, px_load_o, loadB_s, storeX, storeB_s, alloc_s, lay, whole, Option.join_some, List.drop_zero, List.drop_succ_cons, List.take_succ_cons, List.take_zero, List.drop_nil, List.nil_append, List.cons_append, Nat.reduceLeDiff, Nat.zero_add, and_self, and_true, cells_int, cells_bool, cells_str, cells_string, cells_agg, cells_own, cells_ro, cells_ptr, cells_nil, AV.lf.lfs, AV.lf, px_build, fills, build_string, build_str, build_int, WDR_some, Nat.reduceLeDiff, Nat.le_refl, Bool.and_self, hbI]
  have wi : ∀ T, TView itEnc ⟨[], some (dBlk (itEnc.row [itA]) false false) :: T⟩ (.own (.l 0) 4 0 1 4 (some 1)) [itA] := fun T => own_viewC (j := 0) rfl rfl rfl (by decide) (by simp)
  have hB0 : ∀ B, some (dBlk (itEnc.row [itA]) false false) = some B → B.labs = [] := dBlk_l
  generalize some (dBlk (itEnc.row [itA]) false false) = B0 at *
  have g0 : Good ⟨[], [B0, none, none, none, none, none]⟩ := (by unfold Good; dsimp only; repeat (first | exact trivial | rw [goodN] | refine ⟨dBlk_good, ?_⟩ | refine goodD (by assumption) ?_ | refine ⟨sBlk_good (by first | rfl | assumption | (simp [AV.labs.labss, AV.labs, refLt]; done)), ?_⟩))
  refine (WP_p (x := .int .i64 (umod c0 3 : Nat)) (by exact Mod_spec H.mod 3 rfl (by omega) (by omega)) g0).2 ?_
  have hmod : ∀ {G}, Ev prog (.call "haberdash/haberdashplay.Mod" [.v (.int .i64 c0), .v (.int .i64 3)] G) (.ret (.v (.int .i64 (umod c0 3 : Nat))) G) := Mod_spec H.mod 3 rfl (by omega) (by omega)
  have hw := umod_lt (c := c0) (n := 3) (by omega)
  generalize umod c0 3 = w at *
  obtain ⟨n, hn⟩ : ∃ n : Nat, n = 999 + w := ⟨_, rfl⟩
  have hn' : (999 : Int) + (w : Int) = (n : Int) := by omega
  have hmk : ∀ L, L[1]? = some none → prim ⟨[], L⟩ (.makeSlice 1 3 32 [.string ⟨#[]⟩, .int .i64 0, .int .i64 0]) [.v (.int .i64 (n : Int)), .v (.int .i64 (n : Int))] = some (.own (.l 1) (n * 3) 0 n 3 (some n), ⟨[], L.set 1 (some (dBlk (lnE.row (repA n 0)) false false))⟩) := fun L hL => by
    rw [repA_zero]
    exact make_B (T := lnE) (z := lnZ) (x0 := ⟨[], 0, 0⟩) rfl hL (by omega) (by omega)
  simp (disch := first | (simp only [DS, reduceCtorEq]; done) | omega) only [WS, St.guard, St.put, evalO, reduceCtorEq, reduceIte, Nat.reduceAdd, Nat.reduceEqDiff, new_s, virtBlk_eq, box_s, box_vs, box_vi, box_vb, px_load_l, px_load_o, loadB_s, storeX, storeB_s, alloc_s, lay, whole, Option.join_some, List.drop_zero, List.drop_succ_cons, List.take_succ_cons, List.take_zero, List.drop_nil, List.nil_append, List.cons_append, Nat.reduceLeDiff, Nat.zero_add, and_self, and_true, cells_int, cells_bool, cells_str, cells_string, cells_agg, cells_own, cells_ro, cells_ptr, cells_nil, AV.lf.lfs, AV.lf, px_build, fills, build_string, build_str, build_int, WDR_some, Nat.reduceLeDiff, Nat.le_refl, Bool.and_self, vBin_add_i64, hn', hmk, lenOf_own, goInt]
  refine WC_count (fun k => ⟨f_law14_BasketBounds_H0 (.v (.int .i64 c0)) (.v (.int .i64 c1)) (.own (.l 0) 4 0 1 4 (some 1)) (.v (.int .i64 (n : Nat))) (.own (.l 1) (n * 3) 0 n 3 (some n)) (.v (.int .i64 (n : Nat))) (.v (.int .i64 (k : Nat))), ⟨[], [B0, some (dBlk (lnE.row (repA n k)) false false), none, none, none, none]⟩⟩) n ?_ (fun k hk => ?_) ?_
  · simp only [clear_nil, List.foldl_cons, List.foldl_nil, Option.some.injEq, LS, reduceCtorEq, reduceIte, Nat.reduceAdd]; rfl
  · have hlt' : (k : Int) < (n : Int) := by omega
    have ix : ∀ h, prim h (.indexAddr 3) [.own (.l 1) (n * 3) 0 n 3 (some n), .v (.int .i64 (k : Int))] = some (.ptr (.l 1) (n * 3) (0 + k * 3), h) := fun h => by
      rw [px_indexAddr_own, natOf_nat]; simp [hk]
    have st : prim ⟨[], [B0, some (dBlk (lnE.row (repA n k)) false false), none, none, none, none]⟩ (.store 1 false) [.ptr (.l 1) (n * 3) (0 + k * 3 + 0), .v (.string ⟨#[97]⟩)] =
        some (.v undef, ⟨[], [B0, some (dBlk (lnE.row (repA n (k + 1))) false false), none, none, none, none]⟩) := by
      rw [store_data (j := 1) rfl (by rw [lnE.row_len, repA_len (by omega)]; rfl) (by omega) rfl rfl, Nat.zero_add]
      rw [show k * 3 + 0 = k * lnE.esz + 0 from rfl, row_setf (T := lnE) (f := 0) (x := .v (.string ⟨#[97]⟩)) (z := ⟨[], 0, 0⟩) (z' := lnA 0 0) (by decide) rfl (repA_at hk), repA_set hk]; rfl
    simp (disch := first | (simp only [DS, reduceCtorEq]; done) | omega) only [f_law14_BasketBounds_L0, f_law14_BasketBounds_H0, WS, St.guard, St.put, evalO, reduceCtorEq, reduceIte, Nat.reduceAdd, Nat.reduceEqDiff, hlt', decide_true, ix, st, vBin_add_i64, clear_nil, List.foldl_cons, List.foldl_nil, Option.some.injEq]
    rfl
  simp (disch := first | (simp only [DS, reduceCtorEq]; done) | omega) only [f_law14_BasketBounds_L0, f_law14_BasketBounds_H0, WS, St.guard, St.put, evalO, reduceCtorEq, reduceIte, Nat.reduceAdd, Nat.reduceEqDiff, new_s, virtBlk_eq, box_s, box_vs, box_vi, box_vb, px_load_l, px_load_o, loadB_s, storeX, storeB_s, alloc_s, lay, whole, Option.join_some, List.drop_zero, List.drop_succ_cons, List.take_succ_cons, List.take_zero, List.drop_nil, List.nil_append, List.cons_append, Nat.reduceLeDiff, Nat.zero_add, and_self, and_true, cells_int, cells_bool, cells_str, cells_string, cells_agg, cells_own, cells_ro, cells_ptr, cells_nil, AV.lf.lfs, AV.lf, px_build, fills, build_string, build_str, build_int, WDR_some, Nat.reduceLeDiff, Nat.le_refl, Bool.and_self, decide_false, repA_all]
  have w1 : ∀ T, TView lnE ⟨[], B0 :: some (dBlk (lnE.row (List.replicate n (lnA 0 0))) false false) :: T⟩ (.own (.l 1) (n * 3) 0 n 3 (some n)) (List.replicate n (lnA 0 0)) := fun T => by
    have := own_T (T := lnE) (G := []) (L := B0 :: some (dBlk (lnE.row (List.replicate n (lnA 0 0))) false false) :: T) (j := 1) (xs := List.replicate n (lnA 0 0)) (o := false) (v := false) (cap := some n) rfl (by simp)
    rw [List.length_replicate] at this
    exact this
  have hB1 : ∀ B, some (dBlk (lnE.row (List.replicate n (lnA 0 0))) false false) = some B → B.labs = [] := dBlk_l
  have k1 := check_rep (n := n)
  have l1 : (List.replicate n (lnA 0 0)).length = n := by simp
  generalize List.replicate n (lnA 0 0) = x1 at *
  generalize some (dBlk (lnE.row x1) false false) = B1 at *
  have gd : ∀ c d e f : Option Blk, (∀ B, c = some B → B.labs = []) → (∀ B, d = some B → B.labs = []) → (∀ B, e = some B → B.labs = []) → (∀ B, f = some B → B.labs = []) → Good ⟨[], [B0, B1, c, d, e, f]⟩ := fun c d e f h1 h2 h3 h4 => (by unfold Good; dsimp only; repeat (first | exact trivial | rw [goodN] | refine ⟨dBlk_good, ?_⟩ | refine goodD (by assumption) ?_ | refine ⟨sBlk_good (by first | rfl | assumption | (simp [AV.labs.labss, AV.labs, refLt]; done)), ?_⟩))
  have nn : ∀ B : Blk, (none : Option Blk) = some B → B.labs = [] := fun B h => by cases h
  refine (WP_p (x := .int .i64 (checkI [itA] x1)) (by exact Check_spec H.toFindLib H.toBasketLib H.checkF H.check1 ((wi _).into) ((w1 _).into) (by decide) (by unfold maxLen; omega)) (gd _ _ _ _ nn nn nn nn)).2 ?_
  obtain ⟨b1, hb1', hd1⟩ : ∃ b : Bool, (if n > 1000 then (6 : Int) else 0) = (if b then 6 else 0) ∧ decide ((n : Int) ≤ 1000) = !b := by
    by_cases h : n > 1000
    · exact ⟨true, by rw [if_pos h]; rfl, decide_eq_false (by omega)⟩
    · exact ⟨false, by rw [if_neg h]; rfl, decide_eq_true (by omega)⟩
  rw [k1, hb1']
  simp (disch := first | (simp only [DS, reduceCtorEq]; done) | omega) only [WS, St.guard, St.put, evalO, reduceCtorEq, reduceIte, Nat.reduceAdd, Nat.reduceEqDiff, new_s, virtBlk_eq, box_s, box_vs, box_vi, box_vb, px_load_l, px_load_o, loadB_s, storeX, storeB_s, alloc_s, lay, whole, Option.join_some, List.drop_zero, List.drop_succ_cons, List.take_succ_cons, List.take_zero, List.drop_nil, List.nil_append, List.cons_append, Nat.reduceLeDiff, Nat.zero_add, and_self, and_true, cells_int, cells_bool, cells_str, cells_string, cells_agg, cells_own, cells_ro, cells_ptr, cells_nil, AV.lf.lfs, AV.lf, px_build, fills, build_string, build_str, build_int, WDR_some, Nat.reduceLeDiff, Nat.le_refl, Bool.and_self]
  refine (WP_p (x := .int .i64 (w : Nat)) (by exact hmod) (gd _ _ _ _ nn nn nn nn)).2 ?_
  obtain ⟨q, hq⟩ : ∃ q : Nat, q = 99999 + w := ⟨_, rfl⟩
  have hq' : (99999 : Int) + (w : Int) = (q : Int) := by omega
  have hqh : ((q : Int) - ((q / 2 : Nat) : Int)) = ((q - q / 2 : Nat) : Int) := by omega
  have hquo : vBin .quo (.int .i64 (q : Int)) (.int .i64 2) = some (.int .i64 ((q / 2 : Nat) : Int)) := vBin_quo_i64 2 rfl (by omega) (by omega)
  simp (disch := first | (simp only [DS, reduceCtorEq]; done) | omega) only [WS, St.guard, St.put, evalO, reduceCtorEq, reduceIte, Nat.reduceAdd, Nat.reduceEqDiff, new_s, virtBlk_eq, box_s, box_vs, box_vi, box_vb, px_load_l, px_load_o, loadB_s, storeX, storeB_s, alloc_s, lay, whole, Option.join_some, List.drop_zero, List.drop_succ_cons, List.take_succ_cons, List.take_zero, List.drop_nil, List.nil_append, List.cons_append, Nat.reduceLeDiff, Nat.zero_add, and_self, and_true, cells_int, cells_bool, cells_str, cells_string, cells_agg, cells_own, cells_ro, cells_ptr, cells_nil, AV.lf.lfs, AV.lf, px_build, fills, build_string, build_str, build_int, WDR_some, Nat.reduceLeDiff, Nat.le_refl, Bool.and_self, vBin_add_i64, hq', hquo, vBin_sub_i64, hqh, hb2]
  have w2 : ∀ T, TView lnE ⟨[], B0 :: B1 :: some (dBlk (lnE.row [lnA ((q / 2 : Nat) : Int) 0, lnA ((q - q / 2 : Nat) : Int) 0]) false false) :: T⟩ (.own (.l 2) 6 0 2 3 (some 2)) [lnA ((q / 2 : Nat) : Int) 0, lnA ((q - q / 2 : Nat) : Int) 0] := fun T => own_viewC (j := 2) rfl rfl rfl (by decide) (by simp)
  have k2 := check_two (q := ((q / 2 : Nat) : Int)) (r := ((q - q / 2 : Nat) : Int)) (by omega) (by omega) (by omega) (by omega)
  rw [show ((q / 2 : Nat) : Int) + ((q - q / 2 : Nat) : Int) = (q : Int) from by omega] at k2
  have hB2 : ∀ B, some (dBlk (lnE.row [lnA ((q / 2 : Nat) : Int) 0, lnA ((q - q / 2 : Nat) : Int) 0]) false false) = some B → B.labs = [] := dBlk_l
  have l2 : [lnA ((q / 2 : Nat) : Int) 0, lnA ((q - q / 2 : Nat) : Int) 0].length = 2 := rfl
  generalize [lnA ((q / 2 : Nat) : Int) 0, lnA ((q - q / 2 : Nat) : Int) 0] = x2 at *
  generalize some (dBlk (lnE.row x2) false false) = B2 at *
  refine (WP_p (x := .int .i64 (checkI [itA] x2)) (by exact Check_spec H.toFindLib H.toBasketLib H.checkF H.check1 ((wi _).into) ((w2 _).into) (by decide) (by rw [l2]; decide)) (gd _ _ _ _ hB2 nn nn nn)).2 ?_
  obtain ⟨b2, hb2', hd2⟩ : ∃ b : Bool, (if (q : Int) > 100000 then (5 : Int) else 0) = (if b then 5 else 0) ∧ decide ((q : Int) ≤ 100000) = !b := by
    by_cases h : (q : Int) > 100000
    · exact ⟨true, by rw [if_pos h]; rfl, decide_eq_false (by omega)⟩
    · exact ⟨false, by rw [if_neg h]; rfl, decide_eq_true (by omega)⟩
  rw [k2, hb2']
  simp (disch := first | (simp only [DS, reduceCtorEq]; done) | omega) only [WS, St.guard, St.put, evalO, reduceCtorEq, reduceIte, Nat.reduceAdd, Nat.reduceEqDiff, new_s, virtBlk_eq, box_s, box_vs, box_vi, box_vb, px_load_l, px_load_o, loadB_s, storeX, storeB_s, alloc_s, lay, whole, Option.join_some, List.drop_zero, List.drop_succ_cons, List.take_succ_cons, List.take_zero, List.drop_nil, List.nil_append, List.cons_append, Nat.reduceLeDiff, Nat.zero_add, and_self, and_true, cells_int, cells_bool, cells_str, cells_string, cells_agg, cells_own, cells_ro, cells_ptr, cells_nil, AV.lf.lfs, AV.lf, px_build, fills, build_string, build_str, build_int, WDR_some, Nat.reduceLeDiff, Nat.le_refl, Bool.and_self]
  refine (WP_p (x := .int .i64 (umod c1 1000000000 : Nat)) (by exact Mod64_spec H.mod64 1000000000 rfl (by omega) (by omega)) (gd _ _ _ _ hB2 nn nn nn)).2 ?_
  have hv := umod_lt (c := c1) (n := 1000000000) (by omega)
  generalize umod c1 1000000000 = vv at *
  obtain ⟨p, hp0⟩ : ∃ p : Nat, p = 1 + vv := ⟨_, rfl⟩
  have hp' : (1 : Int) + (vv : Int) = (p : Int) := by omega
  have hquo2 : vBin .quo (.int .i64 10000000000000) (.int .i64 (p : Int)) = some (.int .i64 ((10000000000000 / p : Nat) : Int)) := vBin_quo_i64 (a := 10000000000000) p rfl (by omega) (by omega)
  obtain ⟨k, hk⟩ : ∃ k : Nat, k = min (10000000000000 / p) 99999 := ⟨_, rfl⟩
  have hmin : mins .i64 ((10000000000000 / p : Nat) : Int) [.v (.int .i64 99999)] = some (k : Int) := by
    simp only [mins]
    rw [hk]
    congr 1
    split <;> omega
  have hkp : k * p ≤ 10000000000000 := Nat.le_trans (Nat.mul_le_mul_right p (by omega : k ≤ 10000000000000 / p)) (Nat.div_mul_le_self _ _)
  have hkp' : (k : Int) * (p : Int) ≤ 10000000000000 := Int.ofNat_le.2 hkp
  have hkp0 : 0 ≤ (k : Int) * (p : Int) := Int.mul_nonneg (by omega) (by omega)
  have hk1p : ((k : Int) + 1) * (p : Int) = (k : Int) * (p : Int) + (p : Int) := by rw [Int.add_mul]; omega
  have hk9 : k ≤ 99999 := by omega
  clear hk
  simp (disch := first | (simp only [DS, reduceCtorEq]; done) | omega) only [WS, St.guard, St.put, evalO, reduceCtorEq, reduceIte, Nat.reduceAdd, Nat.reduceEqDiff, new_s, virtBlk_eq, box_s, box_vs, box_vi, box_vb, px_load_l, px_load_o, loadB_s, storeX, storeB_s, alloc_s, lay, whole, Option.join_some, List.drop_zero, List.drop_succ_cons, List.take_succ_cons, List.take_zero, List.drop_nil, List.nil_append, List.cons_append, Nat.reduceLeDiff, Nat.zero_add, and_self, and_true, cells_int, cells_bool, cells_str, cells_string, cells_agg, cells_own, cells_ro, cells_ptr, cells_nil, AV.lf.lfs, AV.lf, px_build, fills, build_string, build_str, build_int, WDR_some, Nat.reduceLeDiff, Nat.le_refl, Bool.and_self, vBin_add_i64, hp', hquo2, hmin, hb1]
  have w3 : ∀ T, TView lnE ⟨[], B0 :: B1 :: B2 :: some (dBlk (lnE.row [lnA k p]) false false) :: T⟩ (.own (.l 3) 3 0 1 3 (some 1)) [lnA k p] := fun T => own_viewC (j := 3) rfl rfl rfl (by decide) (by simp)
  have k3 := check_one (q := (k : Int)) (p := (p : Int)) (by omega) (by omega) (by omega) (by omega)
  rw [if_neg (by omega)] at k3
  have hB3 : ∀ B, some (dBlk (lnE.row [lnA k p]) false false) = some B → B.labs = [] := dBlk_l
  have l3 : [lnA k p].length = 1 := rfl
  generalize [lnA k p] = x3 at *
  generalize some (dBlk (lnE.row x3) false false) = B3 at *
  refine (WP_p (x := .int .i64 (checkI [itA] x3)) (by exact Check_spec H.toFindLib H.toBasketLib H.checkF H.check1 ((wi _).into) ((w3 _).into) (by decide) (by rw [l3]; decide)) (gd _ _ _ _ hB2 hB3 nn nn)).2 ?_
  rw [k3]
  simp (disch := first | (simp only [DS, reduceCtorEq]; done) | omega) only [WS, St.guard, St.put, evalO, reduceCtorEq, reduceIte, Nat.reduceAdd, Nat.reduceEqDiff, new_s, virtBlk_eq, box_s, box_vs, box_vi, box_vb, px_load_l, px_load_o, loadB_s, storeX, storeB_s, alloc_s, lay, whole, Option.join_some, List.drop_zero, List.drop_succ_cons, List.take_succ_cons, List.take_zero, List.drop_nil, List.nil_append, List.cons_append, Nat.reduceLeDiff, Nat.zero_add, and_self, and_true, cells_int, cells_bool, cells_str, cells_string, cells_agg, cells_own, cells_ro, cells_ptr, cells_nil, AV.lf.lfs, AV.lf, px_build, fills, build_string, build_str, build_int, WDR_some, Nat.reduceLeDiff, Nat.le_refl, Bool.and_self, vBin_add_i64, hb1]
  have w4 : ∀ T, TView lnE ⟨[], B0 :: B1 :: B2 :: B3 :: some (dBlk (lnE.row [lnA ((k : Int) + 1) p]) false false) :: T⟩ (.own (.l 4) 3 0 1 3 (some 1)) [lnA ((k : Int) + 1) p] := fun T => own_viewC (j := 4) rfl rfl rfl (by decide) (by simp)
  have k4 := check_one (q := (k : Int) + 1) (p := (p : Int)) (by omega) (by omega) (by omega) (by omega)
  have hB4 : ∀ B, some (dBlk (lnE.row [lnA ((k : Int) + 1) p]) false false) = some B → B.labs = [] := dBlk_l
  have l4 : [lnA ((k : Int) + 1) p].length = 1 := rfl
  generalize [lnA ((k : Int) + 1) p] = x4 at *
  generalize some (dBlk (lnE.row x4) false false) = B4 at *
  refine (WP_p (x := .int .i64 (checkI [itA] x4)) (by exact Check_spec H.toFindLib H.toBasketLib H.checkF H.check1 ((wi _).into) ((w4 _).into) (by decide) (by rw [l4]; decide)) (gd _ _ _ _ hB2 hB3 hB4 nn)).2 ?_
  obtain ⟨b4, hb4', hd4⟩ : ∃ b : Bool, (if (k : Int) * (p : Int) + (p : Int) > 10000000000000 then (5 : Int) else 0) = (if b then 5 else 0) ∧ decide ((k : Int) * (p : Int) + (p : Int) > 10000000000000) = b := by
    by_cases h : (k : Int) * (p : Int) + (p : Int) > 10000000000000
    · exact ⟨true, by rw [if_pos h]; rfl, decide_eq_true h⟩
    · exact ⟨false, by rw [if_neg h]; rfl, decide_eq_false h⟩
  rw [k4, hk1p, hb4']
  simp (disch := first | (simp only [DS, reduceCtorEq]; done) | omega) only [WS, St.guard, St.put, evalO, reduceCtorEq, reduceIte, Nat.reduceAdd, Nat.reduceEqDiff, new_s, virtBlk_eq, box_s, box_vs, box_vi, box_vb, px_load_l, px_load_o, loadB_s, storeX, storeB_s, alloc_s, lay, whole, Option.join_some, List.drop_zero, List.drop_succ_cons, List.take_succ_cons, List.take_zero, List.drop_nil, List.nil_append, List.cons_append, Nat.reduceLeDiff, Nat.zero_add, and_self, and_true, cells_int, cells_bool, cells_str, cells_string, cells_agg, cells_own, cells_ro, cells_ptr, cells_nil, AV.lf.lfs, AV.lf, px_build, fills, build_string, build_str, build_int, WDR_some, Nat.reduceLeDiff, Nat.le_refl, Bool.and_self, vBin_add_i64, vBin_mul_i64, hk1p]
  refine (WP_p (x := .bool true) (by exact aw _ rfl) (gd _ _ _ _ hB2 hB3 hB4 nn)).2 ?_
  have w5 : ∀ T, TView lnE ⟨[], B0 :: B1 :: B2 :: B3 :: B4 :: some (dBlk (lnE.row [⟨[113], k, p⟩]) false false) :: T⟩ (.own (.l 5) 3 0 1 3 (some 1)) [⟨[113], k, p⟩] := fun T => own_viewC (j := 5) rfl rfl rfl (by decide) (by simp)
  have k5 := gross_one (s := [113]) (q := (k : Int)) (p := (p : Int)) (by omega) (by omega) (by omega) (by omega) hkp'
  have g5 : Good ⟨[], [B0, B1, B2, B3, B4, some (dBlk (lnE.row [⟨[113], k, p⟩]) false false)]⟩ := gd _ _ _ _ hB2 hB3 hB4 dBlk_l
  have gr : ∀ L, Ev prog (.call "haberdash/basket.Gross" [(AV.own (.l 5) 3 0 1 3 (some 1)).ren (up 0)] (⟨[], B0 :: B1 :: B2 :: B3 :: B4 :: some (dBlk (lnE.row [⟨[113], k, p⟩]) false false) :: L⟩ : Hp).into) (.ret (.v (.int .i64 ((k : Int) * (p : Int)))) (⟨[], B0 :: B1 :: B2 :: B3 :: B4 :: some (dBlk (lnE.row [⟨[113], k, p⟩]) false false) :: L⟩ : Hp).into) := fun L => by
    rw [← k5]
    exact Gross_spec H.toBasketLib H.gross ((w5 L).into) (by decide : 1 ≤ maxLen)
  simp (disch := first | (simp only [DS, reduceCtorEq]; done) | omega) only [WS, St.guard, St.put, evalO, reduceCtorEq, reduceIte, Nat.reduceAdd, Nat.reduceEqDiff, new_s, virtBlk_eq, box_s, box_vs, box_vi, box_vb, px_load_l, px_load_o, loadB_s, storeX, storeB_s, alloc_s, lay, whole, Option.join_some, List.drop_zero, List.drop_succ_cons, List.take_succ_cons, List.take_zero, List.drop_nil, List.nil_append, List.cons_append, Nat.reduceLeDiff, Nat.zero_add, and_self, and_true, cells_int, cells_bool, cells_str, cells_string, cells_agg, cells_own, cells_ro, cells_ptr, cells_nil, AV.lf.lfs, AV.lf, px_build, fills, build_string, build_str, build_int, WDR_some, Nat.reduceLeDiff, Nat.le_refl, Bool.and_self]
  cases b1 <;> cases b2 <;> cases b4
  all_goals
    simp (disch := first | (simp only [DS, reduceCtorEq]; done) | omega) only [WS, St.guard, St.put, evalO, reduceCtorEq, reduceIte, Nat.reduceAdd, Nat.reduceEqDiff, new_s, virtBlk_eq, box_s, box_vs, box_vi, box_vb, px_load_l, px_load_o, loadB_s, storeX, storeB_s, alloc_s, lay, whole, Option.join_some, List.drop_zero, List.drop_succ_cons, List.take_succ_cons, List.take_zero, List.drop_nil, List.nil_append, List.cons_append, Nat.reduceLeDiff, Nat.zero_add, and_self, and_true, cells_int, cells_bool, cells_str, cells_string, cells_agg, cells_own, cells_ro, cells_ptr, cells_nil, AV.lf.lfs, AV.lf, px_build, fills, build_string, build_str, build_int, WDR_some, Nat.reduceLeDiff, Nat.le_refl, Bool.and_self, hd1, hd2, hd4, Int.reduceBEq, px_eqBool, Bool.not_true, Bool.not_false, beq_self_eq_true, hbq]
    refine (WP_p (x := .int .i64 ((k : Int) * (p : Int))) (by exact gr []) g5).2 ?_
    simp (disch := first | (simp only [DS, reduceCtorEq]; done) | omega) only [WS, St.guard, St.put, evalO, reduceCtorEq, reduceIte, Nat.reduceAdd, Nat.reduceEqDiff, new_s, virtBlk_eq, box_s, box_vs, box_vi, box_vb, px_load_l, px_load_o, loadB_s, storeX, storeB_s, alloc_s, lay, whole, Option.join_some, List.drop_zero, List.drop_succ_cons, List.take_succ_cons, List.take_zero, List.drop_nil, List.nil_append, List.cons_append, Nat.reduceLeDiff, Nat.zero_add, and_self, and_true, cells_int, cells_bool, cells_str, cells_string, cells_agg, cells_own, cells_ro, cells_ptr, cells_nil, AV.lf.lfs, AV.lf, px_build, fills, build_string, build_str, build_int, WDR_some, Nat.reduceLeDiff, Nat.le_refl, Bool.and_self, vBin_mul_i64, hi, fin_tmp, leave_v]
    simp
end Go.AM
