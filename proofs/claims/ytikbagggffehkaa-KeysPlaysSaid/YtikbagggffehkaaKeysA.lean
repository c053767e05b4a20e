import Derived.Test.YtikbagggffehkaaKeysIr
import Derived.Test.YtikbagggffehkaaGoodsA
import Derived.Test.YtikbagggffehkaaLeafC
import Derived.Test.YtikbagggffehkaaPackC
import Derived.Test.YtikbagggffehkaaDiskD
set_option linter.unusedVariables false
set_option linter.unusedSimpArgs false
namespace Go.AM
variable {prog : String → Option IFn}
structure Byt where
  b : Txt
  a : AV
  ok : (a = .v (.slice none 0 0) ∧ b = []) ∨ ∃ nl, a = .ro nl 1 b.length (b.map byteAV) ∧ (nl = true → b = [])
def Byt.nl (x : Byt) : Bool := match x.a with | .ro nl _ _ _ => nl | _ => true
theorem Byt.isNil (x : Byt) (h : Hp) : h.isNil .slice x.a = some x.nl := by
  rcases x.ok with ⟨e, _⟩ | ⟨nl, e, _⟩ <;> unfold Byt.nl <;> rw [e] <;> rfl
theorem Byt.nil (x : Byt) (h : x.nl = true) : x.b = [] := by
  rcases x.ok with ⟨_, e⟩ | ⟨nl, e, h2⟩
  · exact e
  · unfold Byt.nl at h; rw [e] at h; exact h2 h
theorem Byt.view (x : Byt) (h : Hp) : View h x.a 1 x.b.length (x.b.map byteAV) := by
  rcases x.ok with ⟨e, e2⟩ | ⟨nl, e, _⟩
  · rw [e, e2]; exact view_nil' (by decide)
  · rw [e]; exact view_ro (by decide) (by simp)
theorem Byt.lf (x : Byt) : x.a.lf = true := by
  rcases x.ok with ⟨e, _⟩ | ⟨nl, e, _⟩
  · rw [e]; rfl
  · rw [e]; rfl
theorem Byt.ren (x : Byt) (ρ) : x.a.ren ρ = x.a := ren_id fun ℓ hℓ => by rw [lf_of_labs_nil x.lf] at hℓ; cases hℓ
theorem Byt.cellsOf (x : Byt) : x.a.cellsOf = some [x.a] := by
  rcases x.ok with ⟨e, _⟩ | ⟨nl, e, _⟩ <;> rw [e] <;> rfl
theorem Byt.freeze (x : Byt) (h : Hp) : h.freeze x.a = some (x.a, h) := by
  rcases x.ok with ⟨e, _⟩ | ⟨nl, e, _⟩ <;> rw [e] <;> rfl
structure SeenD where
  k : Txt
  q : Byt
  t : Byt
def SeenD.cells (x : SeenD) : List AV := [.v (str x.k), x.q.a, x.t.a]
theorem SeenD.lf (x : SeenD) : AV.lf.lfs x.cells = true := by simp [SeenD.cells, AV.lf.lfs, AV.lf, x.q.lf, x.t.lf]
theorem sn_labs (x : SeenD) : AV.labs.labss [.v (str x.k), x.q.a, x.t.a] = [] := by simp [AV.labs.labss, AV.labs, lf_of_labs_nil x.q.lf, lf_of_labs_nil x.t.lf]
def seenE : Enc SeenD := ⟨SeenD.cells, 3, true, fun _ => rfl, by omega, .inl rfl, SeenD.lf, fun h => by cases h⟩
theorem seenE_av {x : SeenD} : seenE.av x = .agg x.cells := rfl
theorem seenE_esz : seenE.esz = 3 := rfl
theorem seenE_agg : seenE.agg = true := rfl
def noB : Byt := ⟨[], .v (.slice none 0 0), .inl ⟨rfl, rfl⟩⟩
structure KeysLib (prog : String → Option IFn) : Prop where
  name : prog "haberdash/goods.Name" = some f_goods_Name
  rname : prog "haberdash/haberdashref10.Name" = some f_ref10_Name
  riseF : prog "haberdash/goods.Rise" = some f_goods_Rise
  cmp : prog "cmp.Compare[string]" = some f_cmp_Compare_string_
  nan : prog "cmp.isNaN[string]" = some f_cmp_isNaN_string_
  right : prog "haberdash/keys.Right" = some f_keys_Right
  rkeys : prog "haberdash/haberdashref25.Keys" = some f_ref25_Keys
  byKey : prog "haberdash/keys.byKey" = some f_keys_byKey
  find : prog "haberdash/keys.find" = some f_keys_find
  find1 : prog "haberdash/keys.find$1" = some f_keys_find_1
  sorted : prog "slices.IsSortedFunc[[]haberdash/api.Seen,haberdash/api.Seen]" = some f_slices_IsSortedFunc___api_Seen_api_Seen_
  search : prog "slices.BinarySearchFunc[[]haberdash/api.Seen,haberdash/api.Seen,haberdash/api.Seen]" = some f_slices_BinarySearchFunc___api_Seen_api_Seen_api_Seen_
  indexF : prog "slices.IndexFunc[[]haberdash/api.Seen,haberdash/api.Seen]" = some f_slices_IndexFunc___api_Seen_api_Seen_
  ask : prog "haberdash/keys.Ask" = some f_keys_Ask
  rask : prog "haberdash/haberdashref25.Ask" = some f_ref25_Ask
  equal : prog "bytes.Equal" = some f_bytes_Equal
  bclone : prog "bytes.Clone" = some f_bytes_Clone
  bytes : prog "haberdash/haberdashhelp.Bytes" = some f_help_Bytes
def ksOf (xs : List SeenD) : List Txt := xs.map SeenD.k
def rightK (xs : List SeenD) : Bool := decide (xs.length ≤ 4000) && (xs.all (fun x => nameOK x.k) && rise (ksOf xs))
structure SnAt (h : Hp) (a : AV) (i : Nat) (x : SeenD) : Prop where
  ix : prim h (.indexAddr 3) [a, .v (.int .i64 (i : Int))] = some (elemPtr a 3 i, h)
  ld : prim h (.load 3 true) [elemPtr a 3 i] = some (.agg x.cells, h)
  f0 : prim h (.fieldAddr 0) [elemPtr a 3 i] = some (fldPtr a 3 i 0, h)
  f1 : prim h (.fieldAddr 1) [elemPtr a 3 i] = some (fldPtr a 3 i 1, h)
  f2 : prim h (.fieldAddr 2) [elemPtr a 3 i] = some (fldPtr a 3 i 2, h)
  l0 : prim h (.load 1 false) [fldPtr a 3 i 0] = some (.v (str x.k), h)
  l1 : prim h (.load 1 false) [fldPtr a 3 i 1] = some (x.q.a, h)
  l2 : prim h (.load 1 false) [fldPtr a 3 i 2] = some (x.t.a, h)
theorem sn_at {h : Hp} {a} {xs : List SeenD} (v : TView seenE h a xs) {i : Nat} {x : SeenD} (hx : xs[i]? = some x) : SnAt h a i x := by
  have hi := lt_of_get hx
  have vv : View h a 3 xs.length (seenE.row xs) := v
  have ch : ((seenE.row xs).drop (i * 3)).take 3 = x.cells := seenE.row_chunk hx
  have hc : ∀ (f : Nat) (y : AV), f < 3 → x.cells[f]? = some y → (seenE.row xs)[i * 3 + f]? = some y := fun f y hf hy => by
    rw [← ch, List.getElem?_take, if_pos hf, List.getElem?_drop] at hy
    exact hy
  exact ⟨v.index hi, v.load hx, vv.field hi, vv.field hi, vv.field hi, vv.loadF hi (by omega) (hc 0 _ (by omega) rfl), vv.loadF hi (by omega) (hc 1 _ (by omega) rfl), vv.loadF hi (by omega) (hc 2 _ (by omega) rfl)⟩
theorem keysRight_spec (H : KeysLib prog) {G a} {xs : List SeenD} (v : ∀ L, TView seenE ⟨G, L⟩ a xs) (hl : xs.length ≤ maxLen) :
    Ev prog (.call "haberdash/keys.Right" [a] G) (.ret (.v (.bool (rightK xs))) G) := by
  have hml : xs.length ≤ 9223372036854775807 := hl
  refine call_of_fin H.right ?_
  have na : ∀ ks, noRef ks a = true := fun ks => noRef_out (View.out (v []))
  simp only [f_keys_Right_B, enter, List.length_cons, List.length_nil, List.replicate, Nat.reduceAdd, Nat.reduceSub, List.cons_append, List.nil_append]
  simp (disch := first | (simp only [DS, reduceCtorEq]; done) | omega) only [WS, St.guard, St.put, evalO, reduceCtorEq, reduceIte, Nat.reduceAdd, Nat.reduceEqDiff, (v _).lenSlice]
  by_cases h5 : xs.length ≤ 4000
  case neg =>
    have e : rightK xs = false := by unfold rightK; rw [decide_eq_false h5]; rfl
    simp (disch := first | (simp only [DS, reduceCtorEq]; done) | omega) only [WS, St.guard, St.put, evalO, reduceCtorEq, reduceIte, Nat.reduceAdd, Nat.reduceEqDiff, show (xs.length : Int) > 4000 from by omega, decide_true, fin_tmp, leave_v, e]
    simp
  have e : rightK xs = (xs.all (fun x => nameOK x.k) && rise (ksOf xs)) := by unfold rightK; rw [decide_eq_true h5]; rfl
  simp (disch := first | (simp only [DS, reduceCtorEq]; done) | omega) only [WS, St.guard, St.put, evalO, reduceCtorEq, reduceIte, Nat.reduceAdd, Nat.reduceEqDiff, new_s, virtBlk_eq, box_s, box_vs, box_vi, box_vb, px_load_l, px_load_o, loadB_s, storeX, storeB_s, alloc_s, lay, whole, Option.join_some, List.drop_zero, List.drop_succ_cons, List.take_succ_cons, List.take_zero, List.drop_nil, List.nil_append, List.cons_append, Nat.reduceLeDiff, Nat.zero_add, and_self, and_true, cells_int, cells_bool, cells_str, cells_string, cells_agg, cells_own, cells_ro, cells_ptr, cells_nil, AV.lf.lfs, AV.lf, px_build, fills, build_string, build_str, build_int, WDR_some, Nat.reduceLeDiff, Nat.le_refl, Bool.and_self, show ¬ ((xs.length : Int) > 4000) from by omega, decide_false, (v _).lenSlice]
  refine WC_countP (fun i => ∀ (j : Nat) x, j < i → xs[j]? = some x → nameOK x.k = true)
    (fun i => ⟨f_keys_Right_H0 (.own (.l 0) i 0 i 1 none) a (.v (.int .i64 (xs.length : Nat))) (.v (.int .i64 (i : Nat))), ⟨G, [some (dBlk (sEnc.row (ksOf (xs.take i))) true (decide (i = 0))), none, none, none]⟩⟩) xs.length ?_ (fun j x h => by omega) (fun i hi hp => ?_) (fun hp => ?_)
  · exact clear_fre (by simp only [clear_nil, List.foldl_cons, List.foldl_nil, Option.some.injEq, LS, reduceCtorEq, reduceIte, Nat.reduceAdd]; rfl) (by rfl) (by simp only [f_keys_Right_H0, List.all_cons, List.all_nil, noRef_v, noRef_dead, noRef_own, noRef_ptr, noRef_nil, Bool.and_true, Bool.true_and, Bool.and_self, List.contains_cons, List.contains_nil, Bool.or_false, Nat.reduceBEq, Bool.not_false, na]) (by rfl)
  · have hlt' : (i : Int) < (xs.length : Int) := by omega
    have hx : xs[i]? = some xs[i] := List.getElem?_eq_getElem hi
    have vi := fun L => (v L).index (k := .i64) hi
    have vl := fun L => (v L).load hx
    rw [seenE_esz] at vi vl
    rw [seenE_agg] at vl
    generalize hxi : xs[i] = x at *
    simp (disch := first | (simp only [DS, reduceCtorEq]; done) | omega) only [f_keys_Right_L0, f_keys_Right_H0, WS, St.guard, St.put, evalO, reduceCtorEq, reduceIte, Nat.reduceAdd, Nat.reduceEqDiff, new_s, virtBlk_eq, box_s, box_vs, box_vi, box_vb, px_load_l, px_load_o, loadB_s, storeX, storeB_s, alloc_s, lay, whole, Option.join_some, List.drop_zero, List.drop_succ_cons, List.take_succ_cons, List.take_zero, List.drop_nil, List.nil_append, List.cons_append, Nat.reduceLeDiff, Nat.zero_add, and_self, and_true, cells_int, cells_bool, cells_str, cells_string, cells_agg, cells_own, cells_ro, cells_ptr, cells_nil, AV.lf.lfs, AV.lf, px_build, fills, build_string, build_str, build_int, WDR_some, Nat.reduceLeDiff, Nat.le_refl, Bool.and_self, hlt', decide_true, vi, vl, seenE_av, SeenD.cells]
    refine (WP_p (x := .bool (nameOK x.k)) (by exact goodsName_spec H.name) (by exact ⟨dBlk_good, sBlk_good (by rw [sn_labs x]; rfl), trivial⟩)).2 ?_
    have hbad : nameOK x.k = false → rightK xs = false := fun h => by rw [e, all_bad hx h]; rfl
    cases hn : nameOK x.k
    · simp (disch := first | (simp only [DS, reduceCtorEq]; done) | omega) only [WS, St.guard, St.put, evalO, reduceCtorEq, reduceIte, Nat.reduceAdd, Nat.reduceEqDiff, fin_tmp, leave_v, hbad hn]
      simp
    simp (disch := first | (simp only [DS, reduceCtorEq]; done) | omega) only [WS, St.guard, St.put, evalO, reduceCtorEq, reduceIte, Nat.reduceAdd, Nat.reduceEqDiff, new_s, virtBlk_eq, box_s, box_vs, box_vi, box_vb, px_load_l, px_load_o, loadB_s, storeX, storeB_s, alloc_s, lay, whole, Option.join_some, List.drop_zero, List.drop_succ_cons, List.take_succ_cons, List.take_zero, List.drop_nil, List.nil_append, List.cons_append, Nat.reduceLeDiff, Nat.zero_add, and_self, and_true, cells_int, cells_bool, cells_str, cells_string, cells_agg, cells_own, cells_ro, cells_ptr, cells_nil, AV.lf.lfs, AV.lf, px_build, fills, build_string, build_str, build_int, WDR_some, Nat.reduceLeDiff, Nat.le_refl, Bool.and_self]
    have hs : ksOf (xs.take (i + 1)) = ksOf (xs.take i) ++ [x.k] := by
      unfold ksOf; rw [List.take_add_one, hx, List.map_append]; rfl
    refine (WR_eq (append_one (k := 0) (j := 0) (m := 2) (len := i) (x := .v (str x.k)) (cells := sEnc.row (ksOf (xs.take i))) (by rfl) (by rw [row_len1]; unfold ksOf; rw [List.length_map, List.length_take]; omega) (by rfl) (by rfl) (by unfold room; omega))).2 ?_
    simp (disch := first | (simp only [DS, reduceCtorEq]; done) | omega) only [WS, St.guard, St.put, evalO, reduceCtorEq, reduceIte, Nat.reduceAdd, Nat.reduceEqDiff, new_s, virtBlk_eq, box_s, box_vs, box_vi, box_vb, px_load_l, px_load_o, loadB_s, storeX, storeB_s, alloc_s, lay, whole, Option.join_some, List.drop_zero, List.drop_succ_cons, List.take_succ_cons, List.take_zero, List.drop_nil, List.nil_append, List.cons_append, Nat.reduceLeDiff, Nat.zero_add, and_self, and_true, cells_int, cells_bool, cells_str, cells_string, cells_agg, cells_own, cells_ro, cells_ptr, cells_nil, AV.lf.lfs, AV.lf, px_build, fills, build_string, build_str, build_int, WDR_some, Nat.reduceLeDiff, Nat.le_refl, Bool.and_self, vBin_add_i64]
    refine ⟨clear_fre (by simp only [clear_nil, List.foldl_cons, List.foldl_nil, Option.some.injEq, LS, reduceCtorEq, reduceIte, Nat.reduceAdd]; rfl) (by rw [hs, sEnc.row_append]; rfl) (by simp only [f_keys_Right_H0, List.all_cons, List.all_nil, noRef_v, noRef_dead, noRef_own, noRef_ptr, noRef_nil, Bool.and_true, Bool.true_and, Bool.and_self, List.contains_cons, List.contains_nil, Bool.or_false, Nat.reduceBEq, Bool.not_false, na]) (by rfl), fun j y hj h1 => ?_⟩
    by_cases hji : j < i
    · exact hp j y hji h1
    · obtain rfl : j = i := by omega
      rw [hx] at h1; cases h1
      exact hn
  · have ha : xs.all (fun x => nameOK x.k) = true := all_of fun j x h => hp j x (lt_of_get h) h
    simp (disch := first | (simp only [DS, reduceCtorEq]; done) | omega) only [f_keys_Right_L0, f_keys_Right_H0, WS, St.guard, St.put, evalO, reduceCtorEq, reduceIte, Nat.reduceAdd, Nat.reduceEqDiff, decide_false, List.take_length]
    have vv : ∀ L, TView sEnc ⟨G, some (dBlk (sEnc.row (ksOf xs)) true (decide (xs.length = 0))) :: L⟩ (.own (.l 0) xs.length 0 xs.length 1 none) (ksOf xs) := fun L => sView_own (j := 0) rfl (by simp [ksOf]) (by simp)
    refine (WP_p (x := .bool (rise (ksOf xs))) (by exact Rise_spec H.riseF ((vv _).into) (by simpa [ksOf] using hl)) (by unfold Good; dsimp only; repeat (first | exact trivial | rw [goodN] | refine ⟨dBlk_good, ?_⟩ | refine goodD (by assumption) ?_ | refine ⟨sBlk_good (by first | rfl | assumption | (simp [AV.labs.labss, AV.labs, refLt]; done)), ?_⟩))).2 ?_
    simp (disch := first | (simp only [DS, reduceCtorEq]; done) | omega) only [WS, St.guard, St.put, evalO, reduceCtorEq, reduceIte, Nat.reduceAdd, Nat.reduceEqDiff, fin_tmp, leave_v, e, ha]
    simp
def smallK (xs : List SeenD) : Prop := ∀ x ∈ xs, x.k.length ≤ 9223372036854775807
theorem refKeys_spec (H : KeysLib prog) {G a} {xs : List SeenD} (v : ∀ L, TView seenE ⟨G, L⟩ a xs) (hl : xs.length ≤ maxLen) (hsm : smallK xs) :
    Ev prog (.call "haberdash/haberdashref25.Keys" [a] G) (.ret (.v (.bool (rightK xs))) G) := by
  have hml : xs.length ≤ 9223372036854775807 := hl
  refine call_of_fin H.rkeys ?_
  simp only [f_ref25_Keys_B, enter, List.length_cons, List.length_nil, List.replicate, Nat.reduceAdd, Nat.reduceSub, List.cons_append, List.nil_append]
  simp (disch := first | (simp only [DS, reduceCtorEq]; done) | omega) only [WS, St.guard, St.put, evalO, reduceCtorEq, reduceIte, Nat.reduceAdd, Nat.reduceEqDiff]
  refine WC_countP (fun i => (∀ (j : Nat) x, j < i → xs[j]? = some x → nameOK x.k = true) ∧ ∀ (j : Nat) x y, j + 1 < i → xs[j]? = some x → xs[j + 1]? = some y → Op.bytesLess x.k y.k = true)
    (fun i => ⟨f_ref25_Keys_H0 a (.v (.int .i64 (i : Nat))), ⟨G, []⟩⟩) xs.length ?_ ⟨fun j x h => by omega, fun j x y h => by omega⟩ (fun i hi hp => ?_) (fun hp => ?_)
  · simp only [clear_nil, List.foldl_cons, List.foldl_nil, Option.some.injEq, LS, reduceCtorEq, reduceIte, Nat.reduceAdd]; rfl
  · have hlt' : (i : Int) < (xs.length : Int) := by omega
    have hx : xs[i]? = some xs[i] := List.getElem?_eq_getElem hi
    generalize xs[i] = x at *
    have q := sn_at (v []) hx
    have hm := hsm x (List.mem_of_getElem? hx)
    have hbad : nameOK x.k = false → rightK xs = false := fun h => by unfold rightK; rw [all_bad hx h]; simp
    simp (disch := first | (simp only [DS, reduceCtorEq]; done) | omega) only [f_ref25_Keys_L0, f_ref25_Keys_H0, WS, St.guard, St.put, evalO, reduceCtorEq, reduceIte, Nat.reduceAdd, Nat.reduceEqDiff, (v _).lenSlice, hlt', decide_true, q.ix, q.f0, q.l0]
    refine WDP_r (r := .v (.bool (nameOK x.k))) (fun X _ => by exact refName_spec H.rname hm) rfl (by exact trivial) ?_
    cases hn : nameOK x.k
    · simp (disch := first | (simp only [DS, reduceCtorEq]; done) | omega) only [WS, St.guard, St.put, evalO, reduceCtorEq, reduceIte, Nat.reduceAdd, Nat.reduceEqDiff, fin_tmp, leave_v, hbad hn]
      simp
    have g1 : ∀ (j : Nat) y, j < i + 1 → xs[j]? = some y → nameOK y.k = true := fun j y hj h1 => by
      by_cases hji : j < i
      · exact hp.1 j y hji h1
      · obtain rfl : j = i := by omega
        rw [hx] at h1; cases h1; exact hn
    cases i with
    | zero =>
      simp (disch := first | (simp only [DS, reduceCtorEq]; done) | omega) only [WS, St.guard, St.put, evalO, reduceCtorEq, reduceIte, Nat.reduceAdd, Nat.reduceEqDiff, show ¬ (((0 : Nat) : Int) > 0) from by omega, decide_false, vBin_add_i64, clear_nil, List.foldl_cons, List.foldl_nil, Option.some.injEq]
      exact ⟨rfl, g1, fun j x y h => by omega⟩
    | succ k =>
      have hk : k < xs.length := by omega
      have hx0 : xs[k]? = some xs[k] := List.getElem?_eq_getElem hk
      generalize xs[k] = x0 at *
      have q0 := sn_at (v []) hx0
      have e1 : ((k + 1 : Nat) : Int) - 1 = (k : Int) := by omega
      simp (disch := first | (simp only [DS, reduceCtorEq]; done) | omega) only [WS, St.guard, St.put, evalO, reduceCtorEq, reduceIte, Nat.reduceAdd, Nat.reduceEqDiff, show (((k + 1 : Nat) : Int) > 0) from by omega, decide_true, vBin_sub_i64, e1, q.ix, q.f0, q.l0, q0.ix, q0.f0, q0.l0, vBin_leq_str, ← less_total x0.k x.k]
      cases hless : Op.bytesLess x0.k x.k
      · have : rightK xs = false := by
          unfold rightK ksOf
          rw [rise_bad (i := k) (a := x0.k) (b := x.k) (by rw [List.getElem?_map, hx0]; rfl) (by rw [List.getElem?_map, hx]; rfl) hless]; simp
        simp (disch := first | (simp only [DS, reduceCtorEq]; done) | omega) only [WS, St.guard, St.put, evalO, reduceCtorEq, reduceIte, Nat.reduceAdd, Nat.reduceEqDiff, fin_tmp, leave_v, this]
        simp
      · simp (disch := first | (simp only [DS, reduceCtorEq]; done) | omega) only [WS, St.guard, St.put, evalO, reduceCtorEq, reduceIte, Nat.reduceAdd, Nat.reduceEqDiff, vBin_add_i64, clear_nil, List.foldl_cons, List.foldl_nil, Option.some.injEq]
        refine ⟨rfl, g1, fun j y z hj h1 h2 => ?_⟩
        by_cases hjk : j + 1 < k + 1
        · exact hp.2 j y z hjk h1 h2
        · obtain rfl : j = k := by omega
          rw [hx0] at h1; rw [hx] at h2; cases h1; cases h2; exact hless
  · have e : rightK xs = decide ((xs.length : Int) ≤ 4000) := by
      unfold rightK ksOf
      rw [all_of fun j x h => hp.1 j x (lt_of_get h) h, rise_of fun i a b h1 h2 => ?_, Bool.and_true, Bool.and_true, decide_eq_decide]
      · omega
      · rw [List.getElem?_map] at h1 h2
        obtain ⟨x, hx, rfl⟩ := Option.map_eq_some_iff.1 h1
        obtain ⟨y, hy, rfl⟩ := Option.map_eq_some_iff.1 h2
        exact hp.2 i x y (lt_of_get hy) hx hy
    simp (disch := first | (simp only [DS, reduceCtorEq]; done) | omega) only [f_ref25_Keys_L0, f_ref25_Keys_H0, WS, St.guard, St.put, evalO, reduceCtorEq, reduceIte, Nat.reduceAdd, Nat.reduceEqDiff, (v _).lenSlice, decide_false, fin_tmp, leave_v, e]
    simp
theorem byKey_spec (H : KeysLib prog) {G} (x y : SeenD) : Ev prog (.call "haberdash/keys.byKey" [seenE.av x, seenE.av y] G) (.ret (.v (.int .i64 (cmpT x.k y.k))) G) := by
  refine call_of_fin H.byKey ?_
  have g1 := x.q.lf; have g2 := x.t.lf; have g3 := y.q.lf; have g4 := y.t.lf
  have bx : ∀ G L (j : Nat) (z : SeenD), L[j]? = some none → prim ⟨G, L⟩ (.box j) [.agg z.cells] = some (.ptr (.l j) 3 0, ⟨G, L.set j (some (sBlk z.cells true))⟩) := fun G L j z hL => box_T (T := seenE) hL
  simp only [f_keys_byKey_B, enter, List.length_cons, List.length_nil, List.replicate, Nat.reduceAdd, Nat.reduceSub, List.cons_append, List.nil_append, seenE_av]
  simp (disch := first | (simp only [DS, reduceCtorEq]; done) | omega) only [WS, St.guard, St.put, evalO, reduceCtorEq, reduceIte, Nat.reduceAdd, Nat.reduceEqDiff, new_s, virtBlk_eq, box_s, box_vs, box_vi, box_vb, px_load_l, px_load_o, loadB_s, storeX, storeB_s, alloc_s, lay, whole, Option.join_some, List.drop_zero, List.drop_succ_cons, List.take_succ_cons, List.take_zero, List.drop_nil, List.nil_append, List.cons_append, Nat.reduceLeDiff, Nat.zero_add, and_self, and_true, cells_int, cells_bool, cells_str, cells_string, cells_agg, cells_own, cells_ro, cells_ptr, cells_nil, AV.lf.lfs, AV.lf, px_build, fills, build_string, build_str, build_int, WDR_some, Nat.reduceLeDiff, Nat.le_refl, Bool.and_self, bx, SeenD.cells]
  refine (WP_p (x := .int .i64 (cmpT x.k y.k)) (by exact Compare_spec H.cmp H.nan) (by exact ⟨sBlk_good (by rw [sn_labs x]; rfl), sBlk_good (by rw [sn_labs y]; rfl), trivial⟩)).2 ?_
  simp (disch := first | (simp only [DS, reduceCtorEq]; done) | omega) only [WS, St.guard, St.put, evalO, reduceCtorEq, reduceIte, Nat.reduceAdd, Nat.reduceEqDiff, fin_tmp, leave_v]
  simp
theorem kfind1_spec (H : KeysLib prog) {G} {p : Nat} {s : Txt} {d} (x : SeenD) (hp : G[p]? = some (some (sBlk [.v (str s)] d))) :
    Ev prog (.call "haberdash/keys.find$1" [seenE.av x, .ptr (.o p) 1 0] G) (.ret (.v (.bool (decide (x.k = s)))) G) := by
  refine call_of_fin H.find1 ?_
  have bx : ∀ G L (j : Nat) (z : SeenD), L[j]? = some none → prim ⟨G, L⟩ (.box j) [.agg z.cells] = some (.ptr (.l j) 3 0, ⟨G, L.set j (some (sBlk z.cells true))⟩) := fun G L j z hL => box_T (T := seenE) hL
  simp only [f_keys_find_1_B, enter, List.length_cons, List.length_nil, List.replicate, Nat.reduceAdd, Nat.reduceSub, List.cons_append, List.nil_append, seenE_av]
  simp (disch := first | (simp only [DS, reduceCtorEq]; done) | omega) only [WS, St.guard, St.put, evalO, reduceCtorEq, reduceIte, Nat.reduceAdd, Nat.reduceEqDiff, new_s, virtBlk_eq, box_s, box_vs, box_vi, box_vb, px_load_l, px_load_o, loadB_s, storeX, storeB_s, alloc_s, lay, whole, Option.join_some, List.drop_zero, List.drop_succ_cons, List.take_succ_cons, List.take_zero, List.drop_nil, List.nil_append, List.cons_append, Nat.reduceLeDiff, Nat.zero_add, and_self, and_true, cells_int, cells_bool, cells_str, cells_string, cells_agg, cells_own, cells_ro, cells_ptr, cells_nil, AV.lf.lfs, AV.lf, px_build, fills, build_string, build_str, build_int, WDR_some, Nat.reduceLeDiff, Nat.le_refl, Bool.and_self, bx, SeenD.cells, hp, vBin_eql_str, fin_tmp, leave_v]
  simp
def findK (ks : List Txt) (s : Txt) : Int × Bool := if sortedB ks then (((lowB ks s : Nat) : Int), decide (ks[lowB ks s]? = some s)) else (findV ks s, decide (fstB ks s < ks.length))
theorem findK_is {ks : List Txt} {s : Txt} : (findK ks s).2 = decide (fstB ks s < ks.length) := by
  unfold findK
  cases hs : sortedB ks with
  | false => rfl
  | true =>
    have e := fst_low (s := s) (sortedB_iff.1 hs)
    simp only [if_true]
    unfold findV at e
    by_cases h : fstB ks s < ks.length
    · rw [if_pos h] at e
      by_cases h2 : ks[lowB ks s]? = some s
      · rw [decide_eq_true h, decide_eq_true h2]
      · rw [if_neg h2] at e; omega
    · rw [if_neg h] at e
      by_cases h2 : ks[lowB ks s]? = some s
      · rw [if_pos h2] at e; omega
      · rw [decide_eq_false h, decide_eq_false h2]
theorem findK_at {ks : List Txt} {s : Txt} (h : fstB ks s < ks.length) : (findK ks s).1 = (fstB ks s : Nat) := by
  unfold findK
  cases hs : sortedB ks with
  | false => simp only [Bool.false_eq_true, if_false]; unfold findV; rw [if_pos h]
  | true =>
    have e := fst_low (s := s) (sortedB_iff.1 hs)
    simp only [if_true]
    unfold findV at e
    rw [if_pos h] at e
    by_cases h2 : ks[lowB ks s]? = some s
    · rw [if_pos h2] at e; exact e.symm
    · rw [if_neg h2] at e; omega
theorem kfind_spec (H : KeysLib prog) {G a} {xs : List SeenD} {s : Txt} (v : ∀ L, TView seenE ⟨G, L⟩ a xs) (hl : xs.length < 2 ^ 62) :
    Ev prog (.call "haberdash/keys.find" [a, .v (str s)] G) (.ret (.tup [.v (.int .i64 (findK (ksOf xs) s).1), .v (.bool (findK (ksOf xs) s).2)]) G) := by
  have hml : xs.length ≤ maxLen := by unfold maxLen; omega
  refine call_of_fin H.find ?_
  simp only [f_keys_find_B, enter, List.length_cons, List.length_nil, List.replicate, Nat.reduceAdd, Nat.reduceSub, List.cons_append, List.nil_append]
  simp (disch := first | (simp only [DS, reduceCtorEq]; done) | omega) only [WS, St.guard, St.put, evalO, reduceCtorEq, reduceIte, Nat.reduceAdd, Nat.reduceEqDiff, new_s, virtBlk_eq, box_s, box_vs, box_vi, box_vb, px_load_l, px_load_o, loadB_s, storeX, storeB_s, alloc_s, lay, whole, Option.join_some, List.drop_zero, List.drop_succ_cons, List.take_succ_cons, List.take_zero, List.drop_nil, List.nil_append, List.cons_append, Nat.reduceLeDiff, Nat.zero_add, and_self, and_true, cells_int, cells_bool, cells_str, cells_string, cells_agg, cells_own, cells_ro, cells_ptr, cells_nil, AV.lf.lfs, AV.lf, px_build, fills, build_string, build_str, build_int, WDR_some, Nat.reduceLeDiff, Nat.le_refl, Bool.and_self]
  refine (WP_p (x := .bool (sortedB (ksOf xs))) (by exact gSorted_spec (T := seenE) rfl H.sorted SeenD.k ((v _).into) hml (fun x y => byKey_spec H x y)) (by unfold Good; dsimp only; repeat (first | exact trivial | rw [goodN] | refine ⟨dBlk_good, ?_⟩ | refine goodD (by assumption) ?_ | refine ⟨sBlk_good (by first | rfl | assumption | (simp [AV.labs.labss, AV.labs, refLt]; done)), ?_⟩))).2 ?_
  cases hs : sortedB (ksOf xs)
  · have e1 : (findK (ksOf xs) s).1 = findV (ksOf xs) s := by unfold findK; rw [hs]; rfl
    have e2 : (findK (ksOf xs) s).2 = decide (findV (ksOf xs) s ≥ 0) := by
      unfold findK; rw [hs]
      simp only [Bool.false_eq_true, if_false]
      unfold findV
      by_cases h : fstB (ksOf xs) s < (ksOf xs).length
      · rw [if_pos h, decide_eq_true h]; symm; exact decide_eq_true (by omega)
      · rw [if_neg h, decide_eq_false h]; rfl
    rw [e1, e2]
    simp (disch := first | (simp only [DS, reduceCtorEq]; done) | omega) only [WS, St.guard, St.put, evalO, reduceCtorEq, reduceIte, Nat.reduceAdd, Nat.reduceEqDiff, new_s, virtBlk_eq, box_s, box_vs, box_vi, box_vb, px_load_l, px_load_o, loadB_s, storeX, storeB_s, alloc_s, lay, whole, Option.join_some, List.drop_zero, List.drop_succ_cons, List.take_succ_cons, List.take_zero, List.drop_nil, List.nil_append, List.cons_append, Nat.reduceLeDiff, Nat.zero_add, and_self, and_true, cells_int, cells_bool, cells_str, cells_string, cells_agg, cells_own, cells_ro, cells_ptr, cells_nil, AV.lf.lfs, AV.lf, px_build, fills, build_string, build_str, build_int, WDR_some, Nat.reduceLeDiff, Nat.le_refl, Bool.and_self, px_makeFunc]
    have hG : (⟨G, [some (sBlk [.v (str s)] true), some (sBlk [.v (str s), .v (.slice none 0 0), .v (.slice none 0 0)] true)]⟩ : Hp).into[G.length + 0]? = some (some (sBlk [.v (str s)] true)) :=
      into_data (h := ⟨G, [some (sBlk [.v (str s)] true), some (sBlk [.v (str s), .v (.slice none 0 0), .v (.slice none 0 0)] true)]⟩) (j := 0) rfl rfl
    have e : (.int .i64 (if xs.findIdx (fun x => decide (x.k = s)) < xs.length then (xs.findIdx (fun x => decide (x.k = s)) : Int) else -1) : Value) = .int .i64 (findV (ksOf xs) s) := by
      unfold findV fstB ksOf
      rw [findIdx_map', List.length_map]
    refine (WP_p (x := .int .i64 (findV (ksOf xs) s)) (by
      rw [← e]
      refine gIndexF_spec (T := seenE) rfl H.indexF (fun x => decide (x.k = s)) ((v _).into) hml (.fn "haberdash/keys.find$1" [] [.ptr (.o (G.length + 0)) 1 0]) fun x => ?_
      refine .opCallV rfl (r := .v (.bool (decide (x.k = s)))) (G2 := (⟨_, []⟩ : Hp).into) ?_ (back_pure rfl)
      simp only [List.nil_append, List.cons_append, List.map_cons, List.map_nil, av_ren]
      exact kfind1_spec H x (by rw [into_nil]; exact hG)) (by unfold Good; dsimp only; repeat (first | exact trivial | rw [goodN] | refine ⟨dBlk_good, ?_⟩ | refine goodD (by assumption) ?_ | refine ⟨sBlk_good (by first | rfl | assumption | (simp [AV.labs.labss, AV.labs, refLt]; done)), ?_⟩))).2 ?_
    simp (disch := first | (simp only [DS, reduceCtorEq]; done) | omega) only [WS, St.guard, St.put, evalO, reduceCtorEq, reduceIte, Nat.reduceAdd, Nat.reduceEqDiff, fin_tmp2]
    refine ⟨by simp, leave_lf rfl⟩
  · simp (disch := first | (simp only [DS, reduceCtorEq]; done) | omega) only [WS, St.guard, St.put, evalO, reduceCtorEq, reduceIte, Nat.reduceAdd, Nat.reduceEqDiff, new_s, virtBlk_eq, box_s, box_vs, box_vi, box_vb, px_load_l, px_load_o, loadB_s, storeX, storeB_s, alloc_s, lay, whole, Option.join_some, List.drop_zero, List.drop_succ_cons, List.take_succ_cons, List.take_zero, List.drop_nil, List.nil_append, List.cons_append, Nat.reduceLeDiff, Nat.zero_add, and_self, and_true, cells_int, cells_bool, cells_str, cells_string, cells_agg, cells_own, cells_ro, cells_ptr, cells_nil, AV.lf.lfs, AV.lf, px_build, fills, build_string, build_str, build_int, WDR_some, Nat.reduceLeDiff, Nat.le_refl, Bool.and_self]
    refine (WP_r (r := .tup [.v (.int .i64 (lowB (ksOf xs) s : Nat)), .v (.bool (decide ((ksOf xs)[lowB (ksOf xs) s]? = some s)))]) (by
      exact gSearch_spec (T := seenE) (x0 := ⟨s, noB, noB⟩) rfl H.search SeenD.k ((v _).into) hl (sortedB_iff.1 hs) (fun x y => byKey_spec H x y)) rfl (by unfold Good; dsimp only; repeat (first | exact trivial | rw [goodN] | refine ⟨dBlk_good, ?_⟩ | refine goodD (by assumption) ?_ | refine ⟨sBlk_good (by first | rfl | assumption | (simp [AV.labs.labss, AV.labs, refLt]; done)), ?_⟩))).2 ?_
    have e : findK (ksOf xs) s = (((lowB (ksOf xs) s : Nat) : Int), decide ((ksOf xs)[lowB (ksOf xs) s]? = some s)) := by unfold findK; rw [hs]; rfl
    rw [e]
    simp (disch := first | (simp only [DS, reduceCtorEq]; done) | omega) only [WS, St.guard, St.put, evalO, reduceCtorEq, reduceIte, Nat.reduceAdd, Nat.reduceEqDiff, fin_tmp2]
    refine ⟨by simp, leave_lf rfl⟩
end Go.AM
namespace Go.AM
variable {prog : String → Option IFn}
theorem Equal_spec (hf : prog "bytes.Equal" = some f_bytes_Equal) {G a b} {xs ys : List UInt8} (v : ∀ L, View ⟨G, L⟩ a 1 xs.length (xs.map byteAV)) (w : ∀ L, View ⟨G, L⟩ b 1 ys.length (ys.map byteAV)) :
    Ev prog (.call "bytes.Equal" [a, b] G) (.ret (.v (.bool (decide (xs = ys)))) G) := by
  refine call_of_fin hf ?_
  simp only [f_bytes_Equal_B, enter, List.length_cons, List.length_nil, List.replicate, Nat.reduceAdd, Nat.reduceSub, List.cons_append, List.nil_append]
  simp (disch := first | (simp only [DS, reduceCtorEq]; done) | omega) only [WS, St.guard, St.put, evalO, reduceCtorEq, reduceIte, Nat.reduceAdd, Nat.reduceEqDiff, (v _).bytesStr, (w _).bytesStr, vBin_eql_str, fin_tmp, leave_v]
  simp
def askK (xs : List SeenD) (s bq : Txt) : Txt × Int := match xs[fstB (ksOf xs) s]? with
  | none => ([], 0)
  | some x => if x.q.b = bq then (x.t.b, 1) else ([], 2)
def smallKT (xs : List SeenD) : Prop := ∀ x ∈ xs, x.t.b.length ≤ room
theorem keysAsk_spec (H : KeysLib prog) {G a aq} {xs : List SeenD} {s bq : Txt} (v : ∀ L, TView seenE ⟨G, L⟩ a xs) (wq : ∀ L, View ⟨G, L⟩ aq 1 bq.length (bq.map byteAV)) (hl : xs.length < 2 ^ 62) (hsm : smallKT xs) :
    ∃ r Bs, Ev prog (.call "haberdash/keys.Ask" [a, .v (str s), aq] G) (.ret (.tup [r, .v (.int .i64 (askK xs s bq).2)]) (G ++ Bs)) ∧ RetSlice G r Bs 1 (askK xs s bq).1.length ((askK xs s bq).1.map byteAV) := by
  have hkl : (ksOf xs).length = xs.length := by simp [ksOf]
  cases hx : xs[fstB (ksOf xs) s]? with
  | none =>
    have e : askK xs s bq = ([], 0) := by unfold askK; rw [hx]
    have hn : (findK (ksOf xs) s).2 = false := by
      rw [findK_is]
      refine decide_eq_false fun h => ?_
      rw [List.getElem?_eq_getElem (by omega)] at hx; cases hx
    rw [e]
    refine ⟨.v (.slice none 0 0), [], ?_, retSlice_nil (by omega)⟩
    rw [List.append_nil]
    refine call_of_fin H.ask ?_
    simp only [f_keys_Ask_B, enter, List.length_cons, List.length_nil, List.replicate, Nat.reduceAdd, Nat.reduceSub, List.cons_append, List.nil_append]
    simp (disch := first | (simp only [DS, reduceCtorEq]; done) | omega) only [WS, St.guard, St.put, evalO, reduceCtorEq, reduceIte, Nat.reduceAdd, Nat.reduceEqDiff]
    refine (WP_r (r := .tup [.v (.int .i64 (findK (ksOf xs) s).1), .v (.bool (findK (ksOf xs) s).2)]) (by exact kfind_spec H ((v _).into) hl) rfl (by unfold Good; dsimp only; repeat (first | exact trivial | rw [goodN] | refine ⟨dBlk_good, ?_⟩ | refine goodD (by assumption) ?_ | refine ⟨sBlk_good (by first | rfl | assumption | (simp [AV.labs.labss, AV.labs, refLt]; done)), ?_⟩))).2 ?_
    simp (disch := first | (simp only [DS, reduceCtorEq]; done) | omega) only [WS, St.guard, St.put, evalO, reduceCtorEq, reduceIte, Nat.reduceAdd, Nat.reduceEqDiff, hn, fin_tmp2]
    exact ⟨by simp, leave_lf rfl⟩
  | some x =>
    have hlt := lt_of_get hx
    have hn : (findK (ksOf xs) s).2 = true := by
      rw [findK_is]; exact decide_eq_true (by omega)
    have hi : (findK (ksOf xs) s).1 = (fstB (ksOf xs) s : Nat) := findK_at (by omega)
    generalize hf : fstB (ksOf xs) s = i at *
    have q := fun L => sn_at (v L) hx
    by_cases hq : x.q.b = bq
    · have e : askK xs s bq = (x.t.b, 1) := by unfold askK; rw [hf, hx]; exact if_pos hq
      rw [e]
      suffices hh : ∃ r G2, Ev prog (.call "haberdash/keys.Ask" [a, .v (str s), aq] G) (.ret r G2) ∧ ∃ r0 Bs, r = .tup [r0, .v (.int .i64 1)] ∧ G2 = G ++ Bs ∧ RetSlice G r0 Bs 1 x.t.b.length (x.t.b.map byteAV) by
        obtain ⟨r, G2, he, r0, Bs, rfl, rfl, h3⟩ := hh
        exact ⟨r0, Bs, he, h3⟩
      refine call_ex H.ask ?_
      simp only [f_keys_Ask_B, enter, List.length_cons, List.length_nil, List.replicate, Nat.reduceAdd, Nat.reduceSub, List.cons_append, List.nil_append]
      simp (disch := first | (simp only [DS, reduceCtorEq]; done) | omega) only [WS, St.guard, St.put, evalO, reduceCtorEq, reduceIte, Nat.reduceAdd, Nat.reduceEqDiff]
      refine (WP_r (r := .tup [.v (.int .i64 (findK (ksOf xs) s).1), .v (.bool (findK (ksOf xs) s).2)]) (by exact kfind_spec H ((v _).into) hl) rfl (by unfold Good; dsimp only; repeat (first | exact trivial | rw [goodN] | refine ⟨dBlk_good, ?_⟩ | refine goodD (by assumption) ?_ | refine ⟨sBlk_good (by first | rfl | assumption | (simp [AV.labs.labss, AV.labs, refLt]; done)), ?_⟩))).2 ?_
      simp (disch := first | (simp only [DS, reduceCtorEq]; done) | omega) only [WS, St.guard, St.put, evalO, reduceCtorEq, reduceIte, Nat.reduceAdd, Nat.reduceEqDiff, hn, hi, (q _).ix, (q _).f1, (q _).l1]
      refine (WP_p (x := .bool (decide (x.q.b = bq))) (by rw [List.map_cons, List.map_cons, List.map_nil, x.q.ren]; exact Equal_spec H.equal (fun L => x.q.view _) ((wq _).into bytes_lfs)) (by unfold Good; dsimp only; repeat (first | exact trivial | rw [goodN] | refine ⟨dBlk_good, ?_⟩ | refine goodD (by assumption) ?_ | refine ⟨sBlk_good (by first | rfl | assumption | (simp [AV.labs.labss, AV.labs, refLt]; done)), ?_⟩))).2 ?_
      simp (disch := first | (simp only [DS, reduceCtorEq]; done) | omega) only [WS, St.guard, St.put, evalO, reduceCtorEq, reduceIte, Nat.reduceAdd, Nat.reduceEqDiff, decide_eq_true hq, (q _).ix, (q _).f2, (q _).l2]
      refine WP_slice (esz := 1) (len := x.t.b.length) (cells := x.t.b.map byteAV) (fun a => a) (fun _ _ => rfl) (by
        rw [List.map_cons, List.map_nil, x.t.ren]
        exact Clone_spec H.bclone (fun L => x.t.view _) (fun L => x.t.isNil _) x.t.nil (hsm x (List.mem_of_getElem? hx))) (by unfold Good; dsimp only; repeat (first | exact trivial | rw [goodN] | refine ⟨dBlk_good, ?_⟩ | refine goodD (by assumption) ?_ | refine ⟨sBlk_good (by first | rfl | assumption | (simp [AV.labs.labss, AV.labs, refLt]; done)), ?_⟩)) rfl fun b B hat => ?_
      simp (disch := first | (simp only [DS, reduceCtorEq]; done) | omega) only [WS, St.guard, St.put, evalO, reduceCtorEq, reduceIte, Nat.reduceAdd, Nat.reduceEqDiff, fin_tmp2]
      refine ⟨by simp, ?_⟩
      obtain ⟨r0, Bs, h1, h2⟩ := leave_at (h := ⟨G, [B]⟩) hat rfl (fun a => .tup [a, .v (.int .i64 1)]) (fun _ _ => rfl) (fun a => by simp [AV.labs, AV.labs.labss]) (fun a h => by simp [AV.lf, AV.lf.lfs, h])
      exact ⟨_, _, h1, r0, Bs, rfl, rfl, h2⟩
    · have e : askK xs s bq = ([], 2) := by unfold askK; rw [hf, hx]; exact if_neg hq
      rw [e]
      refine ⟨.v (.slice none 0 0), [], ?_, retSlice_nil (by omega)⟩
      rw [List.append_nil]
      refine call_of_fin H.ask ?_
      simp only [f_keys_Ask_B, enter, List.length_cons, List.length_nil, List.replicate, Nat.reduceAdd, Nat.reduceSub, List.cons_append, List.nil_append]
      simp (disch := first | (simp only [DS, reduceCtorEq]; done) | omega) only [WS, St.guard, St.put, evalO, reduceCtorEq, reduceIte, Nat.reduceAdd, Nat.reduceEqDiff]
      refine (WP_r (r := .tup [.v (.int .i64 (findK (ksOf xs) s).1), .v (.bool (findK (ksOf xs) s).2)]) (by exact kfind_spec H ((v _).into) hl) rfl (by unfold Good; dsimp only; repeat (first | exact trivial | rw [goodN] | refine ⟨dBlk_good, ?_⟩ | refine goodD (by assumption) ?_ | refine ⟨sBlk_good (by first | rfl | assumption | (simp [AV.labs.labss, AV.labs, refLt]; done)), ?_⟩))).2 ?_
      simp (disch := first | (simp only [DS, reduceCtorEq]; done) | omega) only [WS, St.guard, St.put, evalO, reduceCtorEq, reduceIte, Nat.reduceAdd, Nat.reduceEqDiff, hn, hi, (q _).ix, (q _).f1, (q _).l1]
      refine (WP_p (x := .bool (decide (x.q.b = bq))) (by rw [List.map_cons, List.map_cons, List.map_nil, x.q.ren]; exact Equal_spec H.equal (fun L => x.q.view _) ((wq _).into bytes_lfs)) (by unfold Good; dsimp only; repeat (first | exact trivial | rw [goodN] | refine ⟨dBlk_good, ?_⟩ | refine goodD (by assumption) ?_ | refine ⟨sBlk_good (by first | rfl | assumption | (simp [AV.labs.labss, AV.labs, refLt]; done)), ?_⟩))).2 ?_
      simp (disch := first | (simp only [DS, reduceCtorEq]; done) | omega) only [WS, St.guard, St.put, evalO, reduceCtorEq, reduceIte, Nat.reduceAdd, Nat.reduceEqDiff, decide_eq_false hq, fin_tmp2]
      exact ⟨by simp, leave_lf rfl⟩
theorem refAsk_spec (H : KeysLib prog) {G a aq} {xs : List SeenD} {s bq : Txt} (v : ∀ L, TView seenE ⟨G, L⟩ a xs) (wq : ∀ L, View ⟨G, L⟩ aq 1 bq.length (bq.map byteAV)) (hl : xs.length ≤ maxLen) (hsm : smallKT xs) :
    ∃ r Bs, Ev prog (.call "haberdash/haberdashref25.Ask" [a, .v (str s), aq] G) (.ret (.tup [r, .v (.int .i64 (askK xs s bq).2)]) (G ++ Bs)) ∧ RetSlice G r Bs 1 (askK xs s bq).1.length ((askK xs s bq).1.map byteAV) := by
  have hml : xs.length ≤ 9223372036854775807 := hl
  have hkl : (ksOf xs).length = xs.length := by simp [ksOf]
  have na : ∀ ks, noRef ks a = true := fun ks => noRef_out (View.out (v []))
  have nq : ∀ ks, noRef ks aq = true := fun ks => noRef_out (View.out (wq []))
  suffices hh : ∃ r G2, Ev prog (.call "haberdash/haberdashref25.Ask" [a, .v (str s), aq] G) (.ret r G2) ∧ ∃ r0 Bs, r = .tup [r0, .v (.int .i64 (askK xs s bq).2)] ∧ G2 = G ++ Bs ∧ RetSlice G r0 Bs 1 (askK xs s bq).1.length ((askK xs s bq).1.map byteAV) by
    obtain ⟨r, G2, he, r0, Bs, rfl, rfl, h3⟩ := hh
    exact ⟨r0, Bs, he, h3⟩
  refine call_ex H.rask ?_
  simp only [f_ref25_Ask_B, enter, List.length_cons, List.length_nil, List.replicate, Nat.reduceAdd, Nat.reduceSub, List.cons_append, List.nil_append]
  simp (disch := first | (simp only [DS, reduceCtorEq]; done) | omega) only [WS, St.guard, St.put, evalO, reduceCtorEq, reduceIte, Nat.reduceAdd, Nat.reduceEqDiff]
  have fin0 : ∀ {B : Option Blk} {w : Int}, ∃ r G2, (⟨G, [B]⟩ : Hp).leave (.tup [.v (.slice none 0 0), .v (.int .i64 w)]) = some (r, G2) ∧ ∃ r0 Bs, r = .tup [r0, .v (.int .i64 w)] ∧ G2 = G ++ Bs ∧ RetSlice G r0 Bs 1 ([] : Txt).length (([] : Txt).map byteAV) := fun {B w} =>
    ⟨_, _, leave_lf rfl, _, [], rfl, (List.append_nil _).symm, retSlice_nil (by omega)⟩
  refine WC_countP (fun i => ∀ (j : Nat) x, j < i → xs[j]? = some x → x.k ≠ s) (fun i => ⟨f_ref25_Ask_H0 a (.v (str s)) aq (.v (.int .i64 (i : Nat))), ⟨G, [none]⟩⟩) xs.length ?_ (fun j x h => by omega) (fun i hi hp => ?_) (fun hp => ?_)
  · exact clear_fre (by simp only [clear_nil, List.foldl_cons, List.foldl_nil, Option.some.injEq, LS, reduceCtorEq, reduceIte, Nat.reduceAdd] <;> rfl) (by rfl) (by simp only [f_ref25_Ask_H0, List.all_cons, List.all_nil, noRef_v, noRef_dead, noRef_own, noRef_ptr, noRef_nil, Bool.and_true, Bool.true_and, Bool.and_self, List.contains_cons, List.contains_nil, Bool.or_false, Nat.reduceBEq, Bool.not_false, na, nq]) (by rfl)
  · have hlt' : (i : Int) < (xs.length : Int) := by omega
    have hx : xs[i]? = some xs[i] := List.getElem?_eq_getElem hi
    generalize xs[i] = x at *
    have q := fun L => sn_at (v L) hx
    simp (disch := first | (simp only [DS, reduceCtorEq]; done) | omega) only [f_ref25_Ask_L0, f_ref25_Ask_H0, WS, St.guard, St.put, evalO, reduceCtorEq, reduceIte, Nat.reduceAdd, Nat.reduceEqDiff, (v _).lenSlice, hlt', decide_true, (q _).ix, (q _).f0, (q _).l0, vBin_neq_str]
    by_cases hc : x.k = s
    · have e : fstB (ksOf xs) s = i := findIdx_is (by omega) (fun j y hj hy => by
        unfold ksOf at hy
        rw [List.getElem?_map] at hy
        obtain ⟨z, hz, rfl⟩ := Option.map_eq_some_iff.1 hy
        exact decide_eq_false (hp j z hj hz)) (fun y hy => by
        unfold ksOf at hy
        rw [List.getElem?_map, hx] at hy
        cases hy; exact decide_eq_true hc)
      have hd : decide (x.k ≠ s) = false := decide_eq_false (by simp [hc])
      simp (disch := first | (simp only [DS, reduceCtorEq]; done) | omega) only [WS, St.guard, St.put, evalO, reduceCtorEq, reduceIte, Nat.reduceAdd, Nat.reduceEqDiff, hd, (q _).ix, (q _).f1, (q _).l1]
      refine WDP_any rfl (fun X _ => by exact (x.q.view _).bytesStr) (by rfl) ?_
      simp (disch := first | (simp only [DS, reduceCtorEq]; done) | omega) only [WS, St.guard, St.put, evalO, reduceCtorEq, reduceIte, Nat.reduceAdd, Nat.reduceEqDiff]
      refine WDP_any rfl (fun X _ => by exact (wq _).bytesStr) (by rfl) ?_
      simp (disch := first | (simp only [DS, reduceCtorEq]; done) | omega) only [WS, St.guard, St.put, evalO, reduceCtorEq, reduceIte, Nat.reduceAdd, Nat.reduceEqDiff, vBin_neq_str]
      by_cases hq : x.q.b = bq
      · have e2 : askK xs s bq = (x.t.b, 1) := by unfold askK; rw [e, hx]; exact if_pos hq
        have hd2 : decide (x.q.b ≠ bq) = false := decide_eq_false (by simp [hq])
        obtain ⟨b, B, hat, hap⟩ := append_nil_at 0 (esz := 1) (len := x.t.b.length) (cells := x.t.b.map byteAV) bytes_lfs (by simp) (by omega)
        simp (disch := first | (simp only [DS, reduceCtorEq]; done) | omega) only [WS, St.guard, St.put, evalO, reduceCtorEq, reduceIte, Nat.reduceAdd, Nat.reduceEqDiff, hd2, (q _).ix, (q _).f2, (q _).l2]
        rw [hap (by have := hsm x (List.mem_of_getElem? hx); omega) rfl (x.t.view _)]
        simp (disch := first | (simp only [DS, reduceCtorEq]; done) | omega) only [WS, St.guard, St.put, evalO, reduceCtorEq, reduceIte, Nat.reduceAdd, Nat.reduceEqDiff, fin_tmp2, e2]
        refine ⟨by simp, ?_⟩
        obtain ⟨r0, Bs, h1, h2⟩ := leave_at (h := ⟨G, [B]⟩) hat rfl (fun a => .tup [a, .v (.int .i64 1)]) (fun _ _ => rfl) (fun a => by simp [AV.labs, AV.labs.labss]) (fun a h => by simp [AV.lf, AV.lf.lfs, h])
        exact ⟨_, _, h1, r0, Bs, rfl, rfl, h2⟩
      · have e2 : askK xs s bq = ([], 2) := by unfold askK; rw [e, hx]; exact if_neg hq
        have hd2 : decide (x.q.b ≠ bq) = true := decide_eq_true hq
        simp (disch := first | (simp only [DS, reduceCtorEq]; done) | omega) only [WS, St.guard, St.put, evalO, reduceCtorEq, reduceIte, Nat.reduceAdd, Nat.reduceEqDiff, hd2, fin_tmp2, e2]
        exact ⟨by simp, fin0⟩
    · have hd : decide (x.k ≠ s) = true := decide_eq_true hc
      simp (disch := first | (simp only [DS, reduceCtorEq]; done) | omega) only [WS, St.guard, St.put, evalO, reduceCtorEq, reduceIte, Nat.reduceAdd, Nat.reduceEqDiff, hd, vBin_add_i64]
      refine ⟨clear_fre (by simp only [clear_nil, List.foldl_cons, List.foldl_nil, Option.some.injEq, LS, reduceCtorEq, reduceIte, Nat.reduceAdd] <;> rfl) (by rfl) (by simp only [f_ref25_Ask_H0, List.all_cons, List.all_nil, noRef_v, noRef_dead, noRef_own, noRef_ptr, noRef_nil, Bool.and_true, Bool.true_and, Bool.and_self, List.contains_cons, List.contains_nil, Bool.or_false, Nat.reduceBEq, Bool.not_false, na, nq]) (by rfl), fun j y hj h1 => ?_⟩
      by_cases hji : j < i
      · exact hp j y hji h1
      · obtain rfl : j = i := by omega
        rw [hx] at h1; cases h1; exact hc
  · have e : fstB (ksOf xs) s = (ksOf xs).length := findIdx_is (Nat.le_refl _) (fun j y hj hy => by
        unfold ksOf at hy
        rw [List.getElem?_map] at hy
        obtain ⟨z, hz, rfl⟩ := Option.map_eq_some_iff.1 hy
        exact decide_eq_false (hp j z (lt_of_get hz) hz)) (fun y hy => by simp at hy)
    have e2 : askK xs s bq = ([], 0) := by unfold askK; rw [e, hkl, List.getElem?_eq_none (Nat.le_refl _)]
    simp (disch := first | (simp only [DS, reduceCtorEq]; done) | omega) only [f_ref25_Ask_L0, f_ref25_Ask_H0, WS, St.guard, St.put, evalO, reduceCtorEq, reduceIte, Nat.reduceAdd, Nat.reduceEqDiff, (v _).lenSlice, decide_false, fin_tmp2, e2]
    exact ⟨by simp, fin0⟩
end Go.AM
namespace Go.AM
variable {prog : String → Option IFn}
abbrev insN : String := "slices.Insert[[]haberdash/api.Seen,haberdash/api.Seen]"
abbrev sclN : String := "slices.Clone[[]haberdash/api.Seen,haberdash/api.Seen]"
structure KeysLib2 (prog : String → Option IFn) : Prop extends KeysLib prog where
  insert : prog "haberdash/keys.Insert" = some f_keys_Insert
  sclone : prog sclN = some f_slices_Clone___api_Seen_api_Seen_
  sins : prog insN = some xFn
  kclone : prog "haberdash/keys.Clone" = some f_keys_Clone
  put : prog "haberdash/keys.Put" = some f_keys_Put
  rput : prog "haberdash/haberdashref25.Put" = some f_ref25_Put
def seenZs : List Value := [.string ⟨#[]⟩, .slice none 0 0, .slice none 0 0]
theorem KeysLib2.sc (H : KeysLib2 prog) : prog sclN = some ⟨8, 2, [.tmp 2], cloneB 3 64 seenZs⟩ := H.sclone.trans (congrArg some rfl)
theorem WDP_callL {f sites xs m dst l} {k : List Kf} {s : St} {Q : Out → St → Prop} {a : AV} {h' : Hp} (he : Ev prog (.op (.call f sites) xs s.h) (.val a h')) (hg : Good s.h) (h : WD prog l k (({ s with h := h' } : St).put dst a) Q) :
    WDP prog (.call f sites) xs [] m true dst l k s Q := ⟨a, h', fun X _ => he, hg.okAt, .inl rfl, by simp, h⟩
theorem set_none {L : List (Option Blk)} {site : Nat} (hL : L[site]? = some none) : L.set site none = L := by
  apply List.ext_getElem?
  intro k
  rw [List.getElem?_set]
  by_cases hk : site = k
  · subst hk; rw [if_pos rfl, if_pos (lt_of_get hL), hL]
  · rw [if_neg hk]
def CAns (site : Nat) (b : AV) (B : Option Blk) (xs : List SeenD) : Prop :=
  (b = .v (.slice none 0 0) ∧ B = none ∧ xs = []) ∨ (b = .own (.l site) 0 0 0 3 (some 0) ∧ B = some (dBlk [] false false) ∧ xs = []) ∨
    (b = .own (.l site) (xs.length * 3) 0 xs.length 3 none ∧ B = some (dBlk (seenE.row xs) true false) ∧ 0 < xs.length)
theorem CAns.lab {site b B xs} (h : CAns site b B xs) : ∀ c, B = some c → c.labs = [] := by
  rcases h with ⟨_, rfl, _⟩ | ⟨_, rfl, _⟩ | ⟨_, rfl, _⟩ <;> intro c hc <;> cases hc <;> rfl
theorem CloneNilT {nm} {esz bytes : Nat} {z : List Value} (hf : prog nm = some ⟨8, 2, [.tmp 2], cloneB esz bytes z⟩) {G a} (hn : ∀ L, (⟨G, L⟩ : Hp).isNil .slice a = some true) :
    Ev prog (.call nm [a] G) (.ret (.v (.slice none 0 0)) G) := by
  refine call_of_fin hf ?_
  simp only [cloneB, enter, List.length_cons, List.length_nil, List.replicate, Nat.reduceAdd, Nat.reduceSub, List.cons_append, List.nil_append]
  simp (disch := first | (simp only [DS, reduceCtorEq]; done) | omega) only [WS, St.guard, St.put, evalO, reduceCtorEq, reduceIte, Nat.reduceAdd, Nat.reduceEqDiff, isNilV, hn, fin_tmp, leave_v]
  simp
theorem CloneZeroT {nm} {esz bytes : Nat} {z : List Value} (hf : prog nm = some ⟨8, 2, [.tmp 2], cloneB esz bytes z⟩) {G a} (w : ∀ L, View ⟨G, L⟩ a esz 0 []) (hn : ∀ L, (⟨G, L⟩ : Hp).isNil .slice a = some false) :
    Ev prog (.call nm [a] G) (.ret (.own (.o G.length) 0 0 0 esz (some 0)) (G ++ [some (dBlk [] false false)])) := by
  refine call_of_fin hf ?_
  simp only [cloneB, enter, List.length_cons, List.length_nil, List.replicate, Nat.reduceAdd, Nat.reduceSub, List.cons_append, List.nil_append]
  simp (disch := first | (simp only [DS, reduceCtorEq]; done) | omega) only [WS, St.guard, St.put, evalO, reduceCtorEq, reduceIte, Nat.reduceAdd, Nat.reduceEqDiff, isNilV, hn]
  rw [build0T rfl]
  simp (disch := first | (simp only [DS, reduceCtorEq]; done) | omega) only [WS, St.guard, St.put, evalO, reduceCtorEq, reduceIte, Nat.reduceAdd, Nat.reduceEqDiff]
  have ap : prim ⟨G, [some (dBlk [] false false), none]⟩ (.append 1 false esz bytes) [.own (.l 0) 0 0 0 esz (some 0), a] = some (.own (.l 0) 0 0 0 esz (some 0), ⟨G, [some (dBlk [] false false), none]⟩) := by
    simp only [prim, (w _).source, Option.bind_some, Hp.mayFreeze, Bool.false_eq_true, if_false, Hp.append, List.length_nil, Nat.zero_mul, if_true, Hp.get, List.getElem?_cons_zero, Option.join_some]
    exact if_pos ⟨rfl, trivial, by omega, rfl⟩
  rw [ap]
  simp (disch := first | (simp only [DS, reduceCtorEq]; done) | omega) only [WS, St.guard, St.put, evalO, reduceCtorEq, reduceIte, Nat.reduceAdd, Nat.reduceEqDiff, fin_tmp]
  exact ⟨by simp, leave_own1 (j := 0) rfl rfl⟩
theorem isNil_into {G X a} {nb : Bool} {esz len cells} (w : View ⟨G, X⟩ a esz len cells) (ho : ∀ k n off l e c, a ≠ .own (.l k) n off l e c) (hn : (⟨G, X⟩ : Hp).isNil .slice a = some nb) (hd : AV.lf.lfs cells = true) :
    ∀ L, (⟨(⟨G, X⟩ : Hp).into, L⟩ : Hp).isNil .slice (a.ren (up G.length)) = some nb := fun L => by
  rcases w.cases with ⟨rfl, _, _⟩ | ⟨nl, rfl⟩ | ⟨ℓ, n, off, cap, B, rfl, hB, hl, hc, hlt⟩
  · exact hn
  · exact hn
  · cases ℓ with
    | l k => exact absurd rfl (ho k _ _ _ _ _)
    | o p =>
      rw [isNil_own hB hl] at hn
      have hp : G[p]? = some (some B) := get_o.1 hB
      have : (⟨(⟨G, X⟩ : Hp).into, L⟩ : Hp).get (.o p) = some B := by
        simp only [Hp.get]
        rw [into_o, if_pos (lt_of_get hp), hp]; rfl
      show (⟨(⟨G, X⟩ : Hp).into, L⟩ : Hp).isNil .slice (.own (.o p) n off len esz cap) = _
      rw [isNil_own this hl]; exact hn
theorem no_l {G a esz len cells} (w : ∀ L, View ⟨G, L⟩ a esz len cells) : ∀ k n off l e c, a ≠ .own (.l k) n off l e c := by
  intro k n off l e c h
  subst h
  have := (w []).hsees
  simp [Hp.sees, Hp.get] at this
theorem sclone_op (H : KeysLib2 prog) {G L : List (Option Blk)} {site : Nat} {a : AV} {xs : List SeenD} {nb : Bool} (v : ∀ L, TView seenE ⟨G, L⟩ a xs) (hn : ∀ L, (⟨G, L⟩ : Hp).isNil .slice a = some nb) (hb : nb = true → xs = [])
    (hr : xs.length * 64 ≤ room) (hL : L[site]? = some none) (hg : Good ⟨G, L⟩) : ∃ b B, Ev prog (.op (.call sclN [site]) [a] ⟨G, L⟩) (.val b ⟨G, L.set site B⟩) ∧ CAns site b B xs := by
  have hfr : [site].all (free L) = true := by simp [free_of_get hL]
  have hni := isNil_into (v L) (no_l v) (hn L) (seenE.row_lf xs)
  have vi : ∀ L', View ⟨(⟨G, L⟩ : Hp).into, L'⟩ (a.ren (up G.length)) 3 xs.length (seenE.row xs) := (v L).into
  cases nb with
  | true =>
    refine ⟨.v (.slice none 0 0), none, ?_, .inl ⟨rfl, rfl, hb rfl⟩⟩
    rw [set_none hL]
    exact op_none (h := ⟨G, L⟩) (CloneNilT H.sc hni) (by simp) hfr hg
  | false =>
    by_cases h0 : xs.length = 0
    · have hx : xs = [] := List.eq_nil_of_length_eq_zero h0
      subst hx
      exact ⟨_, _, op_news (h := ⟨G, L⟩) (Bs := [some (dBlk [] false false)]) (CloneZeroT H.sc vi hni) (data1 dBlk_l) rfl (by simp) hfr hg ren_own1, .inr (.inl ⟨rfl, rfl, rfl⟩)⟩
    · exact ⟨_, _, op_news (h := ⟨G, L⟩) (Bs := [some (dBlk (seenE.row xs) true false)]) (CloneT H.sc vi (seenE.row_lf xs) hni (by omega) hr) (data1 dBlk_l) rfl (by simp) hfr hg ren_own1, .inr (.inr ⟨rfl, rfl, by omega⟩)⟩
def insAt (xs : List SeenD) (i : Nat) (x : SeenD) : List SeenD := xs.take i ++ x :: xs.drop i
theorem insAt_row {xs : List SeenD} {i : Nat} {x : SeenD} (hi : i ≤ xs.length) : seenE.row (insAt xs i x) = (seenE.row xs).take (i * 3) ++ x.cells ++ (seenE.row xs).drop (i * 3) := by
  have e : seenE.row xs = seenE.row (xs.take i) ++ seenE.row (xs.drop i) := by rw [← seenE.row_append, List.take_append_drop]
  have hl : (seenE.row (xs.take i)).length = i * 3 := by rw [seenE.row_len, List.length_take, Nat.min_eq_left hi]; rfl
  rw [e, List.take_left' hl, List.drop_left' hl, insAt, seenE.row_append]
  simp only [List.append_assoc]
  rfl
theorem insAt_len {xs : List SeenD} {i : Nat} {x : SeenD} (hi : i ≤ xs.length) : (insAt xs i x).length = xs.length + 1 := by
  simp [insAt]; omega
def plB (x : SeenD) : Blk := { newBlk x.cells with plain := true }
theorem plB_eq {x : SeenD} : plB x = { cells := x.cells, opn := false, wr := true, data := true, virt := false, plain := true } := by
  unfold plB newBlk; rw [x.lf]
theorem plB_labs {x : SeenD} : (plB x).labs = [] := by rw [plB_eq]; rfl
theorem back_none {h h' : Hp} {sites : List Nat} {r : AV} (hG : h'.G.length = h.G.length) (hL : h'.L.length = h.L.length) (hg' : Good h') (hn : sites.Nodup) (hf : sites.all (free h.L) = true) (hf' : sites.all (free h'.L) = true) :
    h.back sites h'.into r = some (r.ren (down h.G.length h.L.length sites), h') := by
  have hb := back_into (h := h) (h' := h') (sites := sites) (Bs := []) (r := r) hG hL hg'.refsOK (by simp) hn hf hf'
  rw [List.append_nil] at hb
  rw [hb]
  have e : (padTo sites.length []).map (Option.map (Blk.ren (down h.G.length h.L.length sites))) = List.replicate sites.length none := by simp [padTo]
  rw [e, putAll_none hf']
theorem insert_op (H : KeysLib2 prog) {G : List (Option Blk)} {bx : Blk} {b : AV} {B : Option Blk} {xs : List SeenD} {x : SeenD} {i : Nat} (hbx : bx.labs = []) (hC : CAns 1 b B xs) (hi : i ≤ xs.length) (hl : xs.length < 1000000) :
    ∃ r h', Ev prog (.op (.call insN [3]) [b, .v (.int .i64 (i : Int)), .own (.l 2) 3 0 1 3 (some 1)] ⟨G, [some bx, B, some (plB x), none]⟩) (.val r h') ∧
      h'.leave r = some (.own (.o G.length) ((xs.length + 1) * 3) 0 (xs.length + 1) 3 none, G ++ [some (dBlk (seenE.row (insAt xs i x)) true false)]) := by
  obtain ⟨h, hh⟩ : ∃ h : Hp, h = ⟨G, [some bx, B, some (plB x), none]⟩ := ⟨_, rfl⟩
  have hg : Good h := by
    rw [hh]
    refine ⟨by rw [hbx]; rfl, goodL_opt (fun c hc => by rw [hC.lab c hc]; rfl) ⟨by rw [plB_labs]; rfl, trivial⟩⟩
  have hG : h.G = G := by rw [hh]
  have hLl : h.L.length = 4 := by rw [hh]; rfl
  have hfr : [3].all (free h.L) = true := by rw [hh]; rfl
  have hq : h.into[G.length + 2]? = some (some (plB x)) := by
    have := into_data (h := h) (j := 2) (b := plB x) (by rw [hh]; rfl) plB_labs
    rw [hG] at this; exact this
  have hin : h.into.length = G.length + 4 := by rw [into_len, hG, hLl]
  have hV : x.cells.length = 3 := rfl
  have hup : ∀ k, (AV.own (.l k) 3 0 1 3 (some 1)).ren (up h.G.length) = .own (.o (G.length + k)) 3 0 1 3 (some 1) := fun k => by rw [hG]; rfl
  have key : ∀ {q}, xIns ([b, .v (.int .i64 (i : Int)), .own (.l 2) 3 0 1 3 (some 1)].map (AV.ren (up h.G.length))) h.into = some q → Ev prog (.call insN ([b, .v (.int .i64 (i : Int)), .own (.l 2) 3 0 1 3 (some 1)].map (AV.ren (up h.G.length))) h.into) (.ret q.1 q.2) := fun {q} hx => by
    refine .orc H.sins ?_
    unfold xRun
    rw [if_pos rfl]; exact hx
  rw [← hh]
  rcases hC with ⟨rfl, rfl, rfl⟩ | ⟨rfl, rfl, rfl⟩ | ⟨rfl, rfl, h0⟩
  · have i0 : i = 0 := by simpa using hi
    subst i0
    have hx : xIns ([.v (.slice none 0 0), .v (.int .i64 ((0 : Nat) : Int)), .own (.l 2) 3 0 1 3 (some 1)].map (AV.ren (up h.G.length))) h.into = some (.own (.o h.into.length) 3 0 1 3 none, h.into ++ [some (dBlk x.cells true false)]) := by
      simp only [List.map_cons, List.map_nil, hup]
      unfold xIns
      simp only [AV.ren, hq, Option.join_some]
      rw [if_pos ⟨by rw [plB_eq]; rfl, by rw [plB_eq], by rw [plB_eq], by rw [plB_eq]⟩, if_pos ⟨rfl, by rw [plB_eq]; exact x.lf⟩, plB_eq]; rfl
    refine ⟨_, _, op_news (Bs := [some (dBlk x.cells true false)]) (key hx) (data1 dBlk_l) rfl (by simp) hfr hg ren_own1, ?_⟩
    rw [hh]
    refine (leave_own1 (j := 3) (b := dBlk x.cells true false) rfl rfl).trans ?_
    rfl
  · have i0 : i = 0 := by simpa using hi
    subst i0
    have hp : h.into[G.length + 1]? = some (some (dBlk [] false false)) := by
      have := into_data (h := h) (j := 1) (b := dBlk [] false false) (by rw [hh]; rfl) rfl
      rw [hG] at this; exact this
    have hx : xIns ([.own (.l 1) 0 0 0 3 (some 0), .v (.int .i64 ((0 : Nat) : Int)), .own (.l 2) 3 0 1 3 (some 1)].map (AV.ren (up h.G.length))) h.into = some (.own (.o h.into.length) 3 0 1 3 none, h.into ++ [some (dBlk x.cells true false)]) := by
      simp only [List.map_cons, List.map_nil, hup]
      have e : (AV.own (.l 1) 0 0 0 3 (some 0)).ren (up h.G.length) = .own (.o (G.length + 1)) 0 0 0 3 (some 0) := by rw [hG]; rfl
      rw [e]
      unfold xIns
      simp only [AV.ren, hq, hp, Option.join_some]
      rw [if_pos ⟨by rw [plB_eq]; rfl, by rw [plB_eq], by rw [plB_eq], by rw [plB_eq]⟩, if_pos ⟨trivial, trivial, trivial, rfl, rfl, rfl, by rw [plB_eq]; exact x.lf⟩, plB_eq]; rfl
    refine ⟨_, _, op_news (Bs := [some (dBlk x.cells true false)]) (key hx) (data1 dBlk_l) rfl (by simp) hfr hg ren_own1, ?_⟩
    rw [hh]
    refine (leave_own1 (j := 3) (b := dBlk x.cells true false) rfl rfl).trans ?_
    rfl
  · have hp : h.into[G.length + 1]? = some (some (dBlk (seenE.row xs) true false)) := by
      have := into_data (h := h) (j := 1) (b := dBlk (seenE.row xs) true false) (by rw [hh]; rfl) rfl
      rw [hG] at this; exact this
    obtain ⟨h', hh'⟩ : ∃ h' : Hp, h' = ⟨G, [some bx, some (dBlk (seenE.row (insAt xs i x)) true false), some (plB x), none]⟩ := ⟨_, rfl⟩
    have hg' : Good h' := by
      rw [hh']
      exact ⟨by rw [hbx]; rfl, dBlk_good, by rw [plB_labs]; rfl, trivial⟩
    have hset : h.into.set (G.length + 1) (some (dBlk (seenE.row (insAt xs i x)) true false)) = h'.into := by
      have := into_set (h := h) (j := 1) (b := dBlk (seenE.row (insAt xs i x)) true false) rfl
      rw [hG] at this
      rw [this, hh, hh']; rfl
    have hx : xIns ([.own (.l 1) (xs.length * 3) 0 xs.length 3 none, .v (.int .i64 (i : Int)), .own (.l 2) 3 0 1 3 (some 1)].map (AV.ren (up h.G.length))) h.into = some (.own (.o (G.length + 1)) ((xs.length + 1) * 3) 0 (xs.length + 1) 3 none, h'.into) := by
      simp only [List.map_cons, List.map_nil, hup]
      have e : (AV.own (.l 1) (xs.length * 3) 0 xs.length 3 none).ren (up h.G.length) = .own (.o (G.length + 1)) (xs.length * 3) 0 xs.length 3 none := by rw [hG]; rfl
      rw [e]
      unfold xIns
      simp only [AV.ren, hq, hp, Option.join_some]
      rw [if_pos ⟨by rw [plB_eq]; rfl, by rw [plB_eq], by rw [plB_eq], by rw [plB_eq]⟩,
        if_pos ⟨by omega, trivial, seenE.row_len xs, rfl, rfl, rfl, rfl, rfl, by rw [plB_eq]; exact x.lf, seenE.row_lf xs, by omega, by simpa using hi, h0, hl⟩, ← hset, insAt_row hi, plB_eq]
      rfl
    refine ⟨.own (.l 1) ((xs.length + 1) * 3) 0 (xs.length + 1) 3 none, h', ?_, ?_⟩
    · refine .opCall hg.okBlks (key hx) ?_
      rw [back_none (by rw [hG, hh']) (by rw [hLl, hh']; rfl) hg' (by simp) hfr (by rw [hh']; rfl)]
      congr 2
      simp only [AV.ren, down, hG, hLl]
      rw [if_neg (by omega), if_pos (by omega), Nat.add_sub_cancel_left]
    · rw [hh']
      exact leave_own1 (j := 1) rfl rfl
theorem sortedB_rise : ∀ {ks : List Txt}, rise ks = true → sortedB ks = true
  | [], _ => rfl
  | [_], _ => rfl
  | a :: b :: r, h => by
    have h1 : Op.bytesLess a b = true ∧ rise (b :: r) = true := by simpa [rise] using h
    simp only [sortedB, Bool.and_eq_true, Bool.not_eq_true']
    exact ⟨less_asymm h1.1, sortedB_rise h1.2⟩
def insK (xs : List SeenD) (x : SeenD) : List SeenD := insAt xs (lowB (ksOf xs) x.k) x
theorem low_le (xs : List SeenD) (s : Txt) : lowB (ksOf xs) s ≤ xs.length := by
  have : lowB (ksOf xs) s ≤ (ksOf xs).length := List.findIdx_le_length
  simpa [ksOf] using this
theorem keysInsert_spec (H : KeysLib2 prog) {G a} {xs : List SeenD} {x : SeenD} {nb : Bool} (v : ∀ L, TView seenE ⟨G, L⟩ a xs) (hn : ∀ L, (⟨G, L⟩ : Hp).isNil .slice a = some nb) (hb : nb = true → xs = []) (hl : xs.length < 1000000) (hs : sortedB (ksOf xs) = true) :
    Ev prog (.call "haberdash/keys.Insert" [a, .agg x.cells] G) (.ret (.own (.o G.length) ((xs.length + 1) * 3) 0 (xs.length + 1) 3 none) (G ++ [some (dBlk (seenE.row (insK xs x)) true false)])) := by
  have hroom : room = 140737488355328 := rfl
  refine call_of_fin H.insert ?_
  simp only [f_keys_Insert_B, enter, List.length_cons, List.length_nil, List.replicate, Nat.reduceAdd, Nat.reduceSub, List.cons_append, List.nil_append]
  have bx : ∀ L (j : Nat), L[j]? = some none → prim ⟨G, L⟩ (.box j) [.agg x.cells] = some (.ptr (.l j) 3 0, ⟨G, L.set j (some (sBlk x.cells true))⟩) := fun L j hL => box_T (T := seenE) hL
  have ld0 : ∀ A B C, prim ⟨G, [some (sBlk x.cells true), A, B, C]⟩ (.load 1 false) [.ptr (.l 0) 3 0] = some (.v (str x.k), ⟨G, [some (sBlk x.cells true), A, B, C]⟩) := fun A B C => rfl
  have ld3 : ∀ A B C, prim ⟨G, [some (sBlk x.cells true), A, B, C]⟩ (.load 3 true) [.ptr (.l 0) 3 0] = some (.agg x.cells, ⟨G, [some (sBlk x.cells true), A, B, C]⟩) := fun A B C => rfl
  have hbl : (sBlk x.cells true).labs = [] := rfl
  have hf : findK (ksOf xs) x.k = (((lowB (ksOf xs) x.k : Nat) : Int), decide ((ksOf xs)[lowB (ksOf xs) x.k]? = some x.k)) := by unfold findK; rw [hs]; rfl
  simp (disch := first | (simp only [DS, reduceCtorEq]; done) | omega) only [WS, St.guard, St.put, evalO, reduceCtorEq, reduceIte, Nat.reduceAdd, Nat.reduceEqDiff, bx, new_s, virtBlk_eq, box_s, box_vs, box_vi, box_vb, px_load_l, px_load_o, loadB_s, storeX, storeB_s, alloc_s, lay, whole, Option.join_some, List.drop_zero, List.drop_succ_cons, List.take_succ_cons, List.take_zero, List.drop_nil, List.nil_append, List.cons_append, Nat.reduceLeDiff, Nat.zero_add, and_self, and_true, cells_int, cells_bool, cells_str, cells_string, cells_agg, cells_own, cells_ro, cells_ptr, cells_nil, AV.lf.lfs, AV.lf, px_build, fills, build_string, build_str, build_int, WDR_some, Nat.reduceLeDiff, Nat.le_refl, Bool.and_self, ld0]
  refine (WP_r (r := .tup [.v (.int .i64 (findK (ksOf xs) x.k).1), .v (.bool (findK (ksOf xs) x.k).2)]) (by exact kfind_spec H.toKeysLib ((v _).into) (by omega)) rfl (by exact ⟨by rw [hbl]; rfl, trivial⟩)).2 ?_
  rw [hf]
  generalize hi : lowB (ksOf xs) x.k = i
  have hile : i ≤ xs.length := by rw [← hi]; exact low_le xs x.k
  simp (disch := first | (simp only [DS, reduceCtorEq]; done) | omega) only [WS, St.guard, St.put, evalO, reduceCtorEq, reduceIte, Nat.reduceAdd, Nat.reduceEqDiff]
  have hg0 : Good ⟨G, [some (sBlk x.cells true), none, none, none]⟩ := ⟨by rw [hbl]; rfl, trivial⟩
  obtain ⟨b, B, hcl, hC⟩ := sclone_op (prog := prog) H (G := G) (L := [some (sBlk x.cells true), none, none, none]) (site := 1) v hn hb (by omega) rfl hg0
  have hg1 : Good ⟨G, [some (sBlk x.cells true), B, none, none]⟩ := ⟨by rw [hbl]; rfl, goodL_opt (fun c hc => by rw [hC.lab c hc]; rfl) trivial⟩
  have hg2 : Good ⟨G, [some (sBlk x.cells true), B, some (plB x), none]⟩ := ⟨by rw [hbl]; rfl, goodL_opt (fun c hc => by rw [hC.lab c hc]; rfl) ⟨by rw [plB_labs]; rfl, trivial⟩⟩
  refine WDP_go (h1 := ⟨G, [some (sBlk x.cells true), B, none, none]⟩) (by exact hcl) (by rfl) hg0 rfl (.inr ⟨rfl, hg1⟩) ?_
  have hmax : maxs .i64 (i : Int) [.v (.int .i64 0)] = some (i : Int) := by
    simp only [maxs]; rw [if_neg (by omega)]
  simp (disch := first | (simp only [DS, reduceCtorEq]; done) | omega) only [WS, St.guard, St.put, evalO, reduceCtorEq, reduceIte, Nat.reduceAdd, Nat.reduceEqDiff, WDX_some, reduceIte, if_true, if_false, Bool.and_true, Bool.true_and, true_and, Bool.false_eq_true, false_or, true_or, Hp.over, AM.over, over_nil, List.foldl_cons, List.foldl_nil, List.set_cons_zero, List.set_cons_succ, List.getElem?_cons_zero, List.getElem?_cons_succ, Option.join_some, List.length_cons, List.length_nil, Prim.sites, List.cons_append, List.nil_append, hmax]
  refine WDP_er (by exact hg1) (by rfl) ?_
  refine ⟨_, _, ld3 none none none, rfl, .inr ⟨rfl, hg1⟩, ?_⟩
  simp (disch := first | (simp only [DS, reduceCtorEq]; done) | omega) only [WS, St.guard, St.put, evalO, reduceCtorEq, reduceIte, Nat.reduceAdd, Nat.reduceEqDiff, WDX_some, reduceIte, if_true, if_false, Bool.and_true, Bool.true_and, true_and, Bool.false_eq_true, false_or, true_or, Hp.over, AM.over, over_nil, List.foldl_cons, List.foldl_nil, List.set_cons_zero, List.set_cons_succ, List.getElem?_cons_zero, List.getElem?_cons_succ, Option.join_some, List.length_cons, List.length_nil, Prim.sites, List.cons_append, List.nil_append]
  have bp : prim ⟨G, [some (sBlk x.cells true), none, none, none]⟩ (.buildPlain 2 3 1 [.string ⟨#[]⟩, .slice none 0 0, .slice none 0 0] [(0, 3)]) [.agg x.cells] = some (.own (.l 2) 3 0 1 3 (some 1), ⟨G, [some (sBlk x.cells true), none, some (plB x), none]⟩) := rfl
  refine WDP_er (by exact hg1) (by rfl) ?_
  refine ⟨_, _, bp, rfl, .inr ⟨rfl, hg2⟩, ?_⟩
  simp (disch := first | (simp only [DS, reduceCtorEq]; done) | omega) only [WS, St.guard, St.put, evalO, reduceCtorEq, reduceIte, Nat.reduceAdd, Nat.reduceEqDiff, WDX_some, reduceIte, if_true, if_false, Bool.and_true, Bool.true_and, true_and, Bool.false_eq_true, false_or, true_or, Hp.over, AM.over, over_nil, List.foldl_cons, List.foldl_nil, List.set_cons_zero, List.set_cons_succ, List.getElem?_cons_zero, List.getElem?_cons_succ, Option.join_some, List.length_cons, List.length_nil, Prim.sites, List.cons_append, List.nil_append]
  obtain ⟨r, h', he, hlv⟩ := insert_op (prog := prog) H (G := G) (bx := sBlk x.cells true) (x := x) (i := i) hbl hC hile hl
  refine WDP_callL (by exact he) (by exact hg2) ?_
  simp (disch := first | (simp only [DS, reduceCtorEq]; done) | omega) only [WS, St.guard, St.put, evalO, reduceCtorEq, reduceIte, Nat.reduceAdd, Nat.reduceEqDiff, fin_tmp]
  refine ⟨by simp, ?_⟩
  rw [hlv]
  unfold insK
  rw [hi]
end Go.AM
