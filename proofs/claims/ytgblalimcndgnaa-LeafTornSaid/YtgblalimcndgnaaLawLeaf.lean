import Derived.Test.YtgblalimcndgnaaLeafC
import Derived.Test.YtgblalimcndgnaaAMD
set_option linter.unusedVariables false
set_option linter.unusedSimpArgs false
/- The laws of leaves: awake; room; what any bytes are. -/
namespace Go.AM
variable {prog : String → Option IFn}

structure LeafFns (prog : String → Option IFn) : Prop extends TakeLib prog where
  bytes : prog "haberdash/haberdashhelp.Bytes" = some f_help_Bytes
  leq : prog "haberdash/haberdashhelp.Leaf" = some f_help_Leaf
  awake : prog "haberdash/haberdashlaw07.awake" = some f_law07_awake

def awL : LeafD := ⟨1#32, 0#32, true, true, [97]⟩
theorem awL_right : awL.right = true := by decide
theorem awL_bytes : awL.bytes = awL.front ++ (be4 awL.sum ++ be4 awL.e) := bytes_eq (by decide)

theorem awake7_spec (H : LeafFns prog) {G} : Ev prog (.call "haberdash/haberdashlaw07.awake" [] G) (.ret (.v (.bool true)) G) := by
  refine call_of_fin H.awake ?_
  have hl := bytes_len (x := awL) (by decide)
  have lbm : (awL.bytes.map byteAV).length = 64 := by simp [hl]
  have g3 : awL.bytes.getD 3 0 = 1 := by rw [awL_bytes]; rfl
  have g8 : awL.bytes.getD 8 0 = 3 := by rw [awL_bytes]; rfl
  have g10 : awL.bytes.getD 10 0 = 97 := by rw [awL_bytes]; rfl
  have g63 : awL.bytes.getD 63 0 = 1 := by rw [awL_bytes]; rfl
  have hlaid : awL.laid = .tup [.agg (awL.bytes.map byteAV), .v (.int .i64 0)] := by unfold LeafD.laid; rw [awL_right]; rfl
  simp only [f_law07_awake_B, enter, List.length_cons, List.length_nil, List.replicate, Nat.reduceAdd, Nat.reduceSub, List.cons_append, List.nil_append]
  simp (disch := first | (simp only [ne_eq, reduceCtorEq, not_false_eq_true, implies_true]; done) | omega) only [WS, St.guard, St.put, evalO, reduceCtorEq, reduceIte, Nat.reduceAdd]
  have vb : ∀ L, View ⟨G, some (dBlk [byteAV 97] false false) :: L⟩ (.own (.l 0) 1 0 1 1 (some 1)) 1 awL.d.length (awL.d.map byteAV) := fun L => own_view1 (j := 0) rfl rfl (by simp [awL])
  refine (WR_eq (build1 (n := 1) (xs := [byteAV 97]) (by rfl) (by rfl) (by rfl) (cells_bytes (bs := [97])) (by rfl))).2 ?_
  simp (disch := first | (simp only [ne_eq, reduceCtorEq, not_false_eq_true, implies_true]; done) | omega) only [WS, St.guard, St.put, evalO, reduceCtorEq, reduceIte, Nat.reduceAdd]
  refine (WR_same (.own (.l 0) 1 0 1 1 (some 1)) (by rfl)).2 ?_
  simp (disch := first | (simp only [ne_eq, reduceCtorEq, not_false_eq_true, implies_true]; done) | omega) only [WS, St.guard, St.put, evalO, reduceCtorEq, reduceIte, Nat.reduceAdd]
  refine (WR_same (.agg (awL.cells (.own (.l 0) 1 0 1 1 (some 1)))) (by rfl)).2 ?_
  simp (disch := first | (simp only [ne_eq, reduceCtorEq, not_false_eq_true, implies_true]; done) | omega) only [WS, St.guard, St.put, evalO, reduceCtorEq, reduceIte, Nat.reduceAdd]
  rw [WP_r (r := awL.laid) (by exact Lay_spec H.toLeafLib ((vb [none, none, none, none]).into bytes_lfs)) laid_lf (by exact ⟨dBlk_good, trivial⟩)]
  rw [hlaid]
  simp (disch := first | (simp only [ne_eq, reduceCtorEq, not_false_eq_true, implies_true]; done) | omega) only [WS, St.guard, St.put, evalO, reduceCtorEq, reduceIte, Nat.reduceAdd]
  rw [alloc_zeros rfl]
  simp (disch := first | (simp only [ne_eq, reduceCtorEq, not_false_eq_true, implies_true]; done) | omega) only [WS, St.guard, St.put, evalO, reduceCtorEq, reduceIte, Nat.reduceAdd, px_extract, List.getElem?_cons_zero, List.getElem?_cons_succ]
  rw [store_all (j := 1) rfl (by simp [zs64_len]) lbm bytes_lfs]
  simp (disch := first | (simp only [ne_eq, reduceCtorEq, not_false_eq_true, implies_true]; done) | omega) only [WS, St.guard, St.put, evalO, reduceCtorEq, reduceIte, Nat.reduceAdd, px_load_l, List.getElem?_cons_zero, List.getElem?_cons_succ, Option.join_some, loadB_all lbm]
  have ht := Take_spec H.toTakeLib (G := (⟨G, [some (dBlk [byteAV 97] false false), some (dBlk (awL.bytes.map byteAV) false false), none, none, none]⟩ : Hp).into) hl
  rw [takeX_bytes awL_right, takeOK_bytes awL_right] at ht
  refine WP_slice (esz := 1) (len := awL.d.length) (cells := awL.d.map byteAV) (fun a => .tup [.agg (awL.cells a), .v (.bool true)]) (fun _ _ => rfl) (by rw [List.map_cons, ren_bytes]; exact ht) (by exact ⟨dBlk_good, dBlk_good, trivial⟩) rfl fun a B hat => ?_
  simp (disch := first | (simp only [ne_eq, reduceCtorEq, not_false_eq_true, implies_true]; done) | omega) only [WS, St.guard, St.put, evalO, reduceCtorEq, reduceIte, Nat.reduceAdd, px_extract, List.getElem?_cons_zero, List.getElem?_cons_succ]
  rw [alloc_s rfl]
  simp (disch := first | (simp only [ne_eq, reduceCtorEq, not_false_eq_true, implies_true]; done) | omega) only [WS, St.guard, St.put, evalO, reduceCtorEq, reduceIte, Nat.reduceAdd]
  rw [store_s (j := 3) (n := 5) (off := 0) (sz := 5) (xs := awL.cells a) rfl rfl rfl rfl (by omega), show lay [AV.v (.int .u32 0), .v (.int .u32 0), .v (.bool false), .v (.bool false), .v (.slice none 0 0)] 0 (awL.cells a) = awL.cells a from rfl]
  obtain ⟨d, hd⟩ : ∃ d, d = (true && AV.lf.lfs (awL.cells a)) := ⟨_, rfl⟩
  rw [← hd]
  have ld4 : ∀ b0 b1 b2 b4, prim ⟨G, [b0, b1, b2, some (sBlk (awL.cells a) d), b4]⟩ (.load 1 false) [.ptr (.l 3) 5 (0 + 4)] = some (a, ⟨G, [b0, b1, b2, some (sBlk (awL.cells a) d), b4]⟩) := fun _ _ _ _ => rfl
  have hlab : ∀ g k, 2 < k → (AV.labs.labss (awL.cells a)).all (refLt g k) = true := fun g k hk => by
    have := hat.ref (g := g) hk
    simpa [LeafD.cells, AV.labs.labss, AV.labs] using this
  simp (disch := first | (simp only [ne_eq, reduceCtorEq, not_false_eq_true, implies_true]; done) | omega) only [WS, St.guard, St.put, evalO, reduceCtorEq, reduceIte, Nat.reduceAdd, show ((0 : Int) == 0) = true from rfl, ld4]
  simp (disch := first | (simp only [ne_eq, reduceCtorEq, not_false_eq_true, implies_true]; done) | omega) only [WS, St.guard, St.put, evalO, reduceCtorEq, reduceIte, Nat.reduceAdd, ld4, px_indexArr, natOf_int, Int.reduceLE, Int.reduceToNat, Option.bind_some, Nat.reduceLT, Nat.reduceMul, Nat.reduceAdd, Nat.zero_add, Nat.mul_one, Nat.reduceLeDiff, and_self, and_true, px_load_l, Option.join_some, loadB_byte hl, g3, g8, g10, g63, byteAV_u8, show Value.int .u8 1 = u8 1 from rfl, show Value.int .u8 3 = u8 3 from rfl, show Value.int .u8 97 = u8 97 from rfl]
  refine (WR_eq (build1 (n := 1) (xs := [byteAV 97]) (by rfl) (by rfl) (by rfl) (cells_bytes (bs := [97])) (by rfl))).2 ?_
  simp (disch := first | (simp only [ne_eq, reduceCtorEq, not_false_eq_true, implies_true]; done) | omega) only [WS, St.guard, St.put, evalO, reduceCtorEq, reduceIte, Nat.reduceAdd]
  refine (WR_same (.own (.l 4) 1 0 1 1 (some 1)) (by rfl)).2 ?_
  simp (disch := first | (simp only [ne_eq, reduceCtorEq, not_false_eq_true, implies_true]; done) | omega) only [WS, St.guard, St.put, evalO, reduceCtorEq, reduceIte, Nat.reduceAdd]
  have gd : Good ⟨G, [some (dBlk [AV.v (u8 97)] false false), some (dBlk (awL.bytes.map byteAV) false false), B, some (sBlk (awL.cells a) d), some (dBlk [byteAV 97] false false)]⟩ :=
    ⟨dBlk_good, dBlk_good, goodL_opt (fun b hb => hat.good hb) ⟨sBlk_good (hlab _ _ (by omega)), dBlk_good, trivial⟩⟩
  have v1 : View ⟨G, [some (dBlk [AV.v (u8 97)] false false), some (dBlk (awL.bytes.map byteAV) false false), B, some (sBlk (awL.cells a) d), some (dBlk [byteAV 97] false false)]⟩ a 1 awL.d.length (awL.d.map byteAV) := hat.view rfl
  have v2 : View ⟨G, [some (dBlk [AV.v (u8 97)] false false), some (dBlk (awL.bytes.map byteAV) false false), B, some (sBlk (awL.cells a) d), some (dBlk [byteAV 97] false false)]⟩ (.own (.l 4) 1 0 1 1 (some 1)) 1 ([97] : List UInt8).length (([97] : List UInt8).map byteAV) := own_view1 (j := 4) rfl rfl (by simp)
  rw [WP_p (x := .bool (decide (awL.d = [97]))) (by exact Bytes_spec H.bytes (v1.into bytes_lfs) (v2.into bytes_lfs)) gd]
  simp (disch := first | (simp only [ne_eq, reduceCtorEq, not_false_eq_true, implies_true]; done) | omega) only [WS, St.guard, St.put, evalO, reduceCtorEq, reduceIte, Nat.reduceAdd, fin_tmp, leave_v]
  simp [awL]

/-! ### LeafRoom -/
theorem rep_bytes {n : Nat} : List.replicate n (AV.v (.int .u8 0)) = (List.replicate n (0 : UInt8)).map byteAV := by simp [byteAV]

theorem LeafRoom_law (H : LeafFns prog) (hp : prog "haberdash/haberdashlaw07.LeafRoom" = some f_law07_LeafRoom) {as} (h : IsAll [(.int .i64), .bool, (.int .u32), (.int .u32)] as) :
    ∃ G2, Ev prog (.call "haberdash/haberdashlaw07.LeafRoom" as []) (.ret (.v (.bool true)) G2) := by
  rcases as with _ | ⟨a0, _ | ⟨a1, _ | ⟨a2, _ | ⟨a3, _ | _⟩⟩⟩⟩ <;> try (simp [IsAll] at h; done)
  obtain ⟨⟨c0, h0, rfl⟩, ⟨c1, h1, rfl⟩, ⟨c2, h2, rfl⟩, ⟨c3, h3, rfl⟩, _⟩ := h
  obtain ⟨n0, rfl, hn0⟩ := is_i64 h0
  obtain ⟨last, rfl⟩ := h1
  obtain ⟨e, rfl⟩ := is_u32 h2
  obtain ⟨nm, rfl⟩ := is_u32 h3
  refine ⟨[], call_of_fin hp ?_⟩
  simp only [f_law07_LeafRoom_B, enter, List.length_cons, List.length_nil, List.replicate, Nat.reduceAdd, Nat.reduceSub, List.cons_append, List.nil_append, Ty.arg, intAV]
  simp (disch := first | (simp only [ne_eq, reduceCtorEq, not_false_eq_true, implies_true]; done) | omega) only [WS, St.guard, St.put, evalO, reduceCtorEq, reduceIte, Nat.reduceAdd]
  rw [vRem_u64_lit (z := 50) 50 rfl (by omega)]
  have hn := umod_lt (c := n0) (n := 50) (by omega)
  generalize umod n0 50 = n at *
  simp (disch := first | (simp only [ne_eq, reduceCtorEq, not_false_eq_true, implies_true]; done) | omega) only [WS, St.guard, St.put, evalO, reduceCtorEq, reduceIte, Nat.reduceAdd, wrap_i64_nat]
  rw [make_data rfl (Nat.le_refl _) (by unfold room; omega) (by unfold room; omega), rep_bytes]
  simp (disch := first | (simp only [ne_eq, reduceCtorEq, not_false_eq_true, implies_true]; done) | omega) only [WS, St.guard, St.put, evalO, reduceCtorEq, reduceIte, Nat.reduceAdd]
  obtain ⟨x, hx⟩ : ∃ x, x = (⟨e, nm, false, last, List.replicate n 0⟩ : LeafD) := ⟨_, rfl⟩
  have hxl : x.d.length = n := by rw [hx]; simp
  have hxd : x.d = List.replicate n 0 := by rw [hx]
  refine (WR_same (.agg (x.cells (.own (.l 0) n 0 n 1 (some n)))) (by rw [hx]; rfl)).2 ?_
  simp (disch := first | (simp only [ne_eq, reduceCtorEq, not_false_eq_true, implies_true]; done) | omega) only [WS, St.guard, St.put, evalO, reduceCtorEq, reduceIte, Nat.reduceAdd]
  rw [alloc_s rfl]
  simp (disch := first | (simp only [ne_eq, reduceCtorEq, not_false_eq_true, implies_true]; done) | omega) only [WS, St.guard, St.put, evalO, reduceCtorEq, reduceIte, Nat.reduceAdd]
  rw [store_s (j := 1) (n := 5) (off := 0) (sz := 5) (xs := x.cells (.own (.l 0) n 0 n 1 (some n))) rfl rfl rfl rfl (by omega), show lay [AV.v (.int .u32 0), .v (.int .u32 0), .v (.bool false), .v (.bool false), .v (.slice none 0 0)] 0 (x.cells (.own (.l 0) n 0 n 1 (some n))) = x.cells (.own (.l 0) n 0 n 1 (some n)) from rfl]
  obtain ⟨d, hd⟩ : ∃ d, d = (true && AV.lf.lfs (x.cells (.own (.l 0) n 0 n 1 (some n)))) := ⟨_, rfl⟩
  rw [← hd]
  have ld : ∀ b0 b2, prim ⟨[], [b0, some (sBlk (x.cells (.own (.l 0) n 0 n 1 (some n))) d), b2]⟩ (.load 5 true) [.ptr (.l 1) 5 0] = some (.agg (x.cells (.own (.l 0) n 0 n 1 (some n))), ⟨[], [b0, some (sBlk (x.cells (.own (.l 0) n 0 n 1 (some n))) d), b2]⟩) := fun _ _ => rfl
  have gd : ∀ b, (∀ B, b = some B → B.labs = []) → Good ⟨[], [some (dBlk ((List.replicate n (0 : UInt8)).map byteAV) false false), some (sBlk (x.cells (.own (.l 0) n 0 n 1 (some n))) d), b]⟩ := fun b hb =>
    ⟨dBlk_good, sBlk_good (by simp [LeafD.cells, AV.labs.labss, AV.labs, refLt]), goodL_opt (fun B hB => by rw [hb B hB]; rfl) trivial⟩
  have vo : View ⟨[], [some (dBlk ((List.replicate n (0 : UInt8)).map byteAV) false false), some (sBlk (x.cells (.own (.l 0) n 0 n 1 (some n))) d), none]⟩ (.own (.l 0) n 0 n 1 (some n)) 1 x.d.length (x.d.map byteAV) := by
    rw [hxl, hxd]; exact own_view1 (j := 0) rfl (by simp) (by simp)
  simp (disch := first | (simp only [ne_eq, reduceCtorEq, not_false_eq_true, implies_true]; done) | omega) only [WS, St.guard, St.put, evalO, reduceCtorEq, reduceIte, Nat.reduceAdd, ld]
  rw [WP_r (r := x.laid) (by exact Lay_spec H.toLeafLib (vo.into bytes_lfs)) laid_lf (gd _ (by simp))]
  have hld : ∀ L, prim ⟨[], L⟩ (.extract 0) [x.laid] = some (.agg ((if x.right then x.bytes else zs64).map byteAV), ⟨[], L⟩) := fun L => by unfold LeafD.laid; split <;> rfl
  have hle : ∀ L, prim ⟨[], L⟩ (.extract 1) [x.laid] = some (.v (.int .i64 (if x.right then 0 else 2)), ⟨[], L⟩) := fun L => by unfold LeafD.laid; split <;> rfl
  obtain ⟨y, hy⟩ : ∃ y, y = if x.right then x.bytes else zs64 := ⟨_, rfl⟩
  have lyl : y.length = 64 := by rw [hy]; split; exact bytes_len (right_len (by assumption)).2; exact zs64_len
  have lym : (y.map byteAV).length = 64 := by simp [lyl]
  rw [← hy] at hld
  simp (disch := first | (simp only [ne_eq, reduceCtorEq, not_false_eq_true, implies_true]; done) | omega) only [WS, St.guard, St.put, evalO, reduceCtorEq, reduceIte, Nat.reduceAdd]
  rw [hld]
  simp (disch := first | (simp only [ne_eq, reduceCtorEq, not_false_eq_true, implies_true]; done) | omega) only [WS, St.guard, St.put, evalO, reduceCtorEq, reduceIte, Nat.reduceAdd, hle]
  rw [alloc_zeros rfl]
  simp (disch := first | (simp only [ne_eq, reduceCtorEq, not_false_eq_true, implies_true]; done) | omega) only [WS, St.guard, St.put, evalO, reduceCtorEq, reduceIte, Nat.reduceAdd]
  rw [store_all (j := 2) rfl (by simp [zs64_len]) lym bytes_lfs]
  simp (disch := first | (simp only [ne_eq, reduceCtorEq, not_false_eq_true, implies_true]; done) | omega) only [WS, St.guard, St.put, evalO, reduceCtorEq, reduceIte, Nat.reduceAdd, c0, vBin_neq_u32]
  have hright : x.right = (e != 0#32 && (((n : Int) == 46) || (last && (decide ((n : Int) ≥ 1) && decide ((n : Int) < 46))))) := by
    have : x.e = e ∧ x.l = last := by rw [hx]; exact ⟨rfl, rfl⟩
    unfold LeafD.right
    rw [this.1, this.2, hxl]
    cases (e != 0#32) <;> cases last <;> simp only [Bool.false_and, Bool.true_and, Bool.false_or, Bool.true_or, Bool.or_false, Bool.and_true]
    · rw [Bool.eq_iff_iff]; simp; omega
    · rw [Bool.eq_iff_iff]; simp; omega
  have gd2 := gd (some (dBlk (y.map byteAV) false false)) (by intro B hB; cases hB; rfl)
  have aw := awake7_spec H (G := (⟨[], [some (dBlk ((List.replicate n (0 : UInt8)).map byteAV) false false), some (sBlk (x.cells (.own (.l 0) n 0 n 1 (some n))) d), some (dBlk (y.map byteAV) false false)]⟩ : Hp).into)
  cases h1 : (e != 0#32)
  · simp (disch := first | (simp only [ne_eq, reduceCtorEq, not_false_eq_true, implies_true]; done) | omega) only [WS, St.guard, St.put, evalO, reduceCtorEq, reduceIte, Nat.reduceAdd, hright, h1, Bool.false_or, Bool.true_or, Bool.or_false, Bool.or_true]
    rw [WP_p (x := .bool true) aw gd2]
    simp (disch := first | (simp only [ne_eq, reduceCtorEq, not_false_eq_true, implies_true]; done) | omega) only [WS, St.guard, St.put, evalO, reduceCtorEq, reduceIte, Nat.reduceAdd, show ((0 : Int) == 0) = true from rfl, show ((2 : Int) == 0) = false from rfl, show ((0 : Int) == 2) = false from rfl, show ((2 : Int) == 2) = true from rfl, fin_tmp, leave_v]
    simp
  cases h2 : ((n : Int) == 46)
  · cases last
    · simp (disch := first | (simp only [ne_eq, reduceCtorEq, not_false_eq_true, implies_true]; done) | omega) only [WS, St.guard, St.put, evalO, reduceCtorEq, reduceIte, Nat.reduceAdd, hright, h1, h2, Bool.false_or, Bool.true_or, Bool.or_false, Bool.or_true]
      rw [WP_p (x := .bool true) aw gd2]
      simp (disch := first | (simp only [ne_eq, reduceCtorEq, not_false_eq_true, implies_true]; done) | omega) only [WS, St.guard, St.put, evalO, reduceCtorEq, reduceIte, Nat.reduceAdd, show ((0 : Int) == 0) = true from rfl, show ((2 : Int) == 0) = false from rfl, show ((0 : Int) == 2) = false from rfl, show ((2 : Int) == 2) = true from rfl, fin_tmp, leave_v]
      simp
    cases h3 : decide ((n : Int) ≥ 1)
    · simp (disch := first | (simp only [ne_eq, reduceCtorEq, not_false_eq_true, implies_true]; done) | omega) only [WS, St.guard, St.put, evalO, reduceCtorEq, reduceIte, Nat.reduceAdd, hright, h1, h2, h3, Bool.false_or, Bool.true_or, Bool.or_false, Bool.or_true]
      rw [WP_p (x := .bool true) aw gd2]
      simp (disch := first | (simp only [ne_eq, reduceCtorEq, not_false_eq_true, implies_true]; done) | omega) only [WS, St.guard, St.put, evalO, reduceCtorEq, reduceIte, Nat.reduceAdd, show ((0 : Int) == 0) = true from rfl, show ((2 : Int) == 0) = false from rfl, show ((0 : Int) == 2) = false from rfl, show ((2 : Int) == 2) = true from rfl, fin_tmp, leave_v]
      simp
    cases h4 : decide ((n : Int) < 46)
    · simp (disch := first | (simp only [ne_eq, reduceCtorEq, not_false_eq_true, implies_true]; done) | omega) only [WS, St.guard, St.put, evalO, reduceCtorEq, reduceIte, Nat.reduceAdd, hright, h1, h2, h3, h4, Bool.false_or, Bool.true_or, Bool.or_false, Bool.or_true]
      rw [WP_p (x := .bool true) aw gd2]
      simp (disch := first | (simp only [ne_eq, reduceCtorEq, not_false_eq_true, implies_true]; done) | omega) only [WS, St.guard, St.put, evalO, reduceCtorEq, reduceIte, Nat.reduceAdd, show ((0 : Int) == 0) = true from rfl, show ((2 : Int) == 0) = false from rfl, show ((0 : Int) == 2) = false from rfl, show ((2 : Int) == 2) = true from rfl, fin_tmp, leave_v]
      simp
    · simp (disch := first | (simp only [ne_eq, reduceCtorEq, not_false_eq_true, implies_true]; done) | omega) only [WS, St.guard, St.put, evalO, reduceCtorEq, reduceIte, Nat.reduceAdd, hright, h1, h2, h3, h4, Bool.false_or, Bool.true_or, Bool.or_false, Bool.or_true]
      rw [WP_p (x := .bool true) aw gd2]
      simp (disch := first | (simp only [ne_eq, reduceCtorEq, not_false_eq_true, implies_true]; done) | omega) only [WS, St.guard, St.put, evalO, reduceCtorEq, reduceIte, Nat.reduceAdd, show ((0 : Int) == 0) = true from rfl, show ((2 : Int) == 0) = false from rfl, show ((0 : Int) == 2) = false from rfl, show ((2 : Int) == 2) = true from rfl, fin_tmp, leave_v]
      simp
  · simp (disch := first | (simp only [ne_eq, reduceCtorEq, not_false_eq_true, implies_true]; done) | omega) only [WS, St.guard, St.put, evalO, reduceCtorEq, reduceIte, Nat.reduceAdd, hright, h1, h2, Bool.false_or, Bool.true_or, Bool.or_false, Bool.or_true]
    rw [WP_p (x := .bool true) aw gd2]
    simp (disch := first | (simp only [ne_eq, reduceCtorEq, not_false_eq_true, implies_true]; done) | omega) only [WS, St.guard, St.put, evalO, reduceCtorEq, reduceIte, Nat.reduceAdd, show ((0 : Int) == 0) = true from rfl, show ((2 : Int) == 0) = false from rfl, show ((0 : Int) == 2) = false from rfl, show ((2 : Int) == 2) = true from rfl, fin_tmp, leave_v]
    simp

end Go.AM

/- The laws of leaves: what any 64 bytes are. -/
namespace Go.AM
variable {prog : String → Option IFn}

theorem sl60 {h ℓ} : prim h (.sliceArr 64 1 true false false) [.ptr ℓ 64 0, .v (.int .i64 60)] = some (.own ℓ 64 60 4 1 (some 4), h) := sliceArr_lo (i := 60) (by omega) (by omega)
theorem sl4 {h ℓ} : prim h (.sliceArr 64 1 false true false) [.ptr ℓ 64 0, .v (.int .i64 4)] = some (.own ℓ 64 0 4 1 (some 64), h) := sliceArr_hi (j := 4) (by omega) (by omega)
theorem vBin_shr_u32_lit {x : BitVec 32} {n : Nat} {z : Int} (hz : z = n) {k : IntKind} : vBin .shr (u32 x) (.int k z) = some (u32 (x >>> n)) := by subst hz; exact vBin_shr_u32

theorem LeafTakes_law (H : LeafFns prog) (hp : prog "haberdash/haberdashlaw07.LeafTakes" = some f_law07_LeafTakes) {as} (h : IsAll [(.arr 64 (.int .u8)), .bool] as) :
    ∃ G2, Ev prog (.call "haberdash/haberdashlaw07.LeafTakes" as []) (.ret (.v (.bool true)) G2) := by
  rcases as with _ | ⟨a0, _ | ⟨a1, _ | _⟩⟩ <;> try (simp [IsAll] at h; done)
  obtain ⟨⟨c0', h0, rfl⟩, ⟨c1', h1, rfl⟩, _⟩ := h
  obtain ⟨bs, rfl, hl⟩ := is_arr_bytes h0
  obtain ⟨right, rfl⟩ := h1
  refine ⟨[], call_of_fin hp ?_⟩
  simp only [f_law07_LeafTakes_B, enter, List.length_cons, List.length_nil, List.replicate, Nat.reduceAdd, Nat.reduceSub, List.cons_append, List.nil_append, Ty.arg]
  simp (disch := first | (simp only [ne_eq, reduceCtorEq, not_false_eq_true, implies_true]; done) | omega) only [WS, St.guard, St.put, evalO, reduceCtorEq, reduceIte, Nat.reduceAdd]
  rw [box_bytes rfl]
  simp (disch := first | (simp only [ne_eq, reduceCtorEq, not_false_eq_true, implies_true]; done) | omega) only [WS, St.guard, St.put, evalO, reduceCtorEq, reduceIte, Nat.reduceAdd, hl]
  cases right
  · simp (disch := first | (simp only [ne_eq, reduceCtorEq, not_false_eq_true, implies_true]; done) | omega) only [WS, St.guard, St.put, evalO, reduceCtorEq, reduceIte, Nat.reduceAdd]
    obtain ⟨cs, hcs⟩ : ∃ cs, cs = bs := ⟨_, rfl⟩
    rw [← hcs]
    have lc : cs.length = 64 := by rw [hcs, hl]
    have lcm : (cs.map byteAV).length = 64 := by simp [lc]

    simp (disch := first | (simp only [ne_eq, reduceCtorEq, not_false_eq_true, implies_true]; done) | omega) only [WS, St.guard, St.put, evalO, reduceCtorEq, reduceIte, Nat.reduceAdd, px_load_l, Option.join_some, loadB_all lcm]
    have ht := Take_spec H.toTakeLib (G := (⟨[], [some (dBlk (cs.map byteAV) false false), none, none, none, none]⟩ : Hp).into) lc
    refine WP_slice (esz := 1) (len := (takeX cs).d.length) (cells := (takeX cs).d.map byteAV) (fun a => .tup [.agg ((takeX cs).cells a), .v (.bool (takeOK cs))]) (fun _ _ => rfl) (by rw [List.map_cons, ren_bytes]; exact ht) (by exact ⟨dBlk_good, trivial⟩) rfl fun a B hat => ?_
    simp (disch := first | (simp only [ne_eq, reduceCtorEq, not_false_eq_true, implies_true]; done) | omega) only [WS, St.guard, St.put, evalO, reduceCtorEq, reduceIte, Nat.reduceAdd, px_extract]
    rw [alloc_s rfl]
    simp (disch := first | (simp only [ne_eq, reduceCtorEq, not_false_eq_true, implies_true]; done) | omega) only [WS, St.guard, St.put, evalO, reduceCtorEq, reduceIte, Nat.reduceAdd]
    rw [store_s (j := 2) (n := 5) (off := 0) (sz := 5) (xs := (takeX cs).cells a) rfl rfl rfl rfl (by omega), show lay [AV.v (.int .u32 0), .v (.int .u32 0), .v (.bool false), .v (.bool false), .v (.slice none 0 0)] 0 ((takeX cs).cells a) = (takeX cs).cells a from rfl]
    obtain ⟨d, hd⟩ : ∃ d, d = (true && AV.lf.lfs ((takeX cs).cells a)) := ⟨_, rfl⟩
    rw [← hd]
    have hlab : ∀ g k, 1 < k → (AV.labs.labss ((takeX cs).cells a)).all (refLt g k) = true := fun g k hk => by
      have := hat.ref (g := g) hk
      simpa [LeafD.cells, AV.labs.labss, AV.labs] using this
    simp (disch := first | (simp only [ne_eq, reduceCtorEq, not_false_eq_true, implies_true]; done) | omega) only [WS, St.guard, St.put, evalO, reduceCtorEq, reduceIte, Nat.reduceAdd, px_load_l, Option.join_some, loadB_all lcm]
    have ht2 := RefTake_spec H.toTakeLib (G := (⟨[], [some (dBlk (cs.map byteAV) false false), B, some (sBlk ((takeX cs).cells a) d), none, none]⟩ : Hp).into) lc
    refine WP_slice (esz := 1) (len := (takeX cs).d.length) (cells := (takeX cs).d.map byteAV) (fun a => .tup [.agg ((takeX cs).cells a), .v (.bool (takeOK cs))]) (fun _ _ => rfl) (by rw [List.map_cons, ren_bytes]; exact ht2) (by exact ⟨dBlk_good, goodL_opt (fun b hb => hat.good hb) ⟨sBlk_good (hlab _ _ (by omega)), trivial⟩⟩) rfl fun a2 B2 hat2 => ?_
    simp (disch := first | (simp only [ne_eq, reduceCtorEq, not_false_eq_true, implies_true]; done) | omega) only [WS, St.guard, St.put, evalO, reduceCtorEq, reduceIte, Nat.reduceAdd, px_extract]
    rw [alloc_s rfl]
    simp (disch := first | (simp only [ne_eq, reduceCtorEq, not_false_eq_true, implies_true]; done) | omega) only [WS, St.guard, St.put, evalO, reduceCtorEq, reduceIte, Nat.reduceAdd]
    rw [store_s (j := 4) (n := 5) (off := 0) (sz := 5) (xs := (takeX cs).cells a2) rfl rfl rfl rfl (by omega), show lay [AV.v (.int .u32 0), .v (.int .u32 0), .v (.bool false), .v (.bool false), .v (.slice none 0 0)] 0 ((takeX cs).cells a2) = (takeX cs).cells a2 from rfl]
    obtain ⟨d2, hd2⟩ : ∃ d, d = (true && AV.lf.lfs ((takeX cs).cells a2)) := ⟨_, rfl⟩
    rw [← hd2]
    have hlab2 : ∀ g k, 3 < k → (AV.labs.labss ((takeX cs).cells a2)).all (refLt g k) = true := fun g k hk => by
      have := hat2.ref (g := g) hk
      simpa [LeafD.cells, AV.labs.labss, AV.labs] using this
    have gd : Good ⟨[], [some (dBlk (cs.map byteAV) false false), B, some (sBlk ((takeX cs).cells a) d), B2, some (sBlk ((takeX cs).cells a2) d2)]⟩ :=
      ⟨dBlk_good, goodL_opt (fun b hb => hat.good hb) ⟨sBlk_good (hlab _ _ (by omega)), goodL_opt (fun b hb => hat2.good hb) ⟨sBlk_good (hlab2 _ _ (by omega)), trivial⟩⟩⟩
    have v1 : View ⟨[], [some (dBlk (cs.map byteAV) false false), B, some (sBlk ((takeX cs).cells a) d), B2, some (sBlk ((takeX cs).cells a2) d2)]⟩ a 1 (takeX cs).d.length ((takeX cs).d.map byteAV) := hat.view rfl
    have v2 : View ⟨[], [some (dBlk (cs.map byteAV) false false), B, some (sBlk ((takeX cs).cells a) d), B2, some (sBlk ((takeX cs).cells a2) d2)]⟩ a2 1 (takeX cs).d.length ((takeX cs).d.map byteAV) := hat2.view rfl
    have l2 : ∀ b0 b1 b3 b4, prim ⟨[], [b0, b1, some (sBlk ((takeX cs).cells a) d), b3, b4]⟩ (.load 5 true) [.ptr (.l 2) 5 0] = some (.agg ((takeX cs).cells a), ⟨[], [b0, b1, some (sBlk ((takeX cs).cells a) d), b3, b4]⟩) := fun _ _ _ _ => rfl
    have l4 : ∀ b0 b1 b2 b3, prim ⟨[], [b0, b1, b2, b3, some (sBlk ((takeX cs).cells a2) d2)]⟩ (.load 5 true) [.ptr (.l 4) 5 0] = some (.agg ((takeX cs).cells a2), ⟨[], [b0, b1, b2, b3, some (sBlk ((takeX cs).cells a2) d2)]⟩) := fun _ _ _ _ => rfl
    have l0 : ∀ L, prim ⟨[], some (dBlk (cs.map byteAV) false false) :: L⟩ (.load 64 true) [.ptr (.l 0) 64 0] = some (.agg (cs.map byteAV), ⟨[], some (dBlk (cs.map byteAV) false false) :: L⟩) := fun L => by
      simp only [px_load_l, List.getElem?_cons_zero, Option.join_some, loadB_all lcm]
    simp (disch := first | (simp only [ne_eq, reduceCtorEq, not_false_eq_true, implies_true]; done) | omega) only [WS, St.guard, St.put, evalO, reduceCtorEq, reduceIte, Nat.reduceAdd]
    refine WDP_r (r := .v (.bool true)) (fun X _ => awake7_spec H) rfl gd ?_
    simp (disch := first | (simp only [ne_eq, reduceCtorEq, not_false_eq_true, implies_true]; done) | omega) only [WS, St.guard, St.put, evalO, reduceCtorEq, reduceIte, Nat.reduceAdd, l2, l4, beq_self_eq_true]
    refine WDP_r (r := .v (.bool (leafEq (takeX cs) (takeX cs)))) (fun X _ => by exact LeafEq_spec H.leq H.bytes (v1.into bytes_lfs) (v2.into bytes_lfs)) rfl gd ?_
    simp (disch := first | (simp only [ne_eq, reduceCtorEq, not_false_eq_true, implies_true]; done) | omega) only [WS, St.guard, St.put, evalO, reduceCtorEq, reduceIte, Nat.reduceAdd, leafEq_iff.2 rfl, l0]
    refine WDP_r (r := .v (u32 (maxU (get4 cs 0) (get4 cs 60)))) (fun X _ => by rw [List.map_cons, ren_bytes]; exact Mark_spec H.mark H.get lc) rfl gd ?_
    simp (disch := first | (simp only [ne_eq, reduceCtorEq, not_false_eq_true, implies_true]; done) | omega) only [WS, St.guard, St.put, evalO, reduceCtorEq, reduceIte, Nat.reduceAdd, l0]
    refine WDP_r (r := .v (u32 (maxU (get4 cs 0) (get4 cs 60)))) (fun X _ => by rw [List.map_cons, ren_bytes]; exact RefMark_spec H.rmark H.rfour lc) rfl gd ?_
    simp (disch := first | (simp only [ne_eq, reduceCtorEq, not_false_eq_true, implies_true]; done) | omega) only [WS, St.guard, St.put, evalO, reduceCtorEq, reduceIte, Nat.reduceAdd, beq_self_eq_true, fin_tmp, leave_v]
    simp

  · simp (disch := first | (simp only [ne_eq, reduceCtorEq, not_false_eq_true, implies_true]; done) | omega) only [WS, St.guard, St.put, evalO, reduceCtorEq, reduceIte, Nat.reduceAdd, sl56]
    have pv : View ⟨[], [some (dBlk (bs.map byteAV) false false), none, none, none, none]⟩ (.own (.l 0) 64 0 56 1 (some 64)) 1 ((bs.drop 0).take 56).length (((bs.drop 0).take 56).map byteAV) := by
      have := piece_view (G := []) (L := [some (dBlk (bs.map byteAV) false false), none, none, none, none]) (ℓ := .l 0) (off := 0) (len := 56) (cap := some 64) rfl hl (by omega) (by simp)
      rwa [show ((bs.drop 0).take 56).length = 56 by simp [hl]]
    rw [WP_p (x := u32 (crcMore 0#32 ((bs.drop 0).take 56))) (by exact RefSum_spec H.rmore H.rsum (pv.into bytes_lfs) (by simp [hl])) (by exact ⟨dBlk_good, trivial⟩)]
    generalize crcMore 0#32 ((bs.drop 0).take 56) = s
    simp (disch := first | (simp only [ne_eq, reduceCtorEq, not_false_eq_true, implies_true]; done) | omega) only [WS, St.guard, St.put, evalO, reduceCtorEq, reduceIte, Nat.reduceAdd, px_indexArr, natOf_int, Int.reduceLE, Int.reduceToNat, Option.bind_some, Nat.reduceLT, Nat.reduceMul, Nat.reduceAdd, Nat.zero_add, Nat.mul_one, Nat.reduceLeDiff, and_self, and_true, conv_u32_u8', vBin_shr_u32_lit (n := 8) (z := 8) rfl, vBin_shr_u32_lit (n := 16) (z := 16) rfl, vBin_shr_u32_lit (n := 24) (z := 24) rfl]
    rw [store_byte (j := 0) rfl hl (by omega)]
    simp (disch := first | (simp only [ne_eq, reduceCtorEq, not_false_eq_true, implies_true]; done) | omega) only [WS, St.guard, St.put, evalO, reduceCtorEq, reduceIte, Nat.reduceAdd, px_indexArr, natOf_int, Int.reduceLE, Int.reduceToNat, Option.bind_some, Nat.reduceLT, Nat.reduceMul, Nat.reduceAdd, Nat.zero_add, Nat.mul_one, Nat.reduceLeDiff, and_self, and_true]
    rw [store_byte (j := 0) rfl (by simp [hl]) (by omega)]
    simp (disch := first | (simp only [ne_eq, reduceCtorEq, not_false_eq_true, implies_true]; done) | omega) only [WS, St.guard, St.put, evalO, reduceCtorEq, reduceIte, Nat.reduceAdd, px_indexArr, natOf_int, Int.reduceLE, Int.reduceToNat, Option.bind_some, Nat.reduceLT, Nat.reduceMul, Nat.reduceAdd, Nat.zero_add, Nat.mul_one, Nat.reduceLeDiff, and_self, and_true]
    rw [store_byte (j := 0) rfl (by simp [hl]) (by omega)]
    simp (disch := first | (simp only [ne_eq, reduceCtorEq, not_false_eq_true, implies_true]; done) | omega) only [WS, St.guard, St.put, evalO, reduceCtorEq, reduceIte, Nat.reduceAdd, px_indexArr, natOf_int, Int.reduceLE, Int.reduceToNat, Option.bind_some, Nat.reduceLT, Nat.reduceMul, Nat.reduceAdd, Nat.zero_add, Nat.mul_one, Nat.reduceLeDiff, and_self, and_true]
    rw [store_byte (j := 0) rfl (by simp [hl]) (by omega)]
    obtain ⟨es, hes⟩ : ∃ es, es = (((bs.set 56 (UInt8.ofNat (s >>> 24).toNat)).set 57 (UInt8.ofNat (s >>> 16).toNat)).set 58 (UInt8.ofNat (s >>> 8).toNat)).set 59 (UInt8.ofNat s.toNat) := ⟨_, rfl⟩
    have le : es.length = 64 := by rw [hes]; simp [hl]
    rw [← hes]
    simp (disch := first | (simp only [ne_eq, reduceCtorEq, not_false_eq_true, implies_true]; done) | omega) only [WS, St.guard, St.put, evalO, reduceCtorEq, reduceIte, Nat.reduceAdd, sl60, sl4]
    have pv4 : View ⟨[], [some (dBlk (es.map byteAV) false false), none, none, none, none]⟩ (.own (.l 0) 64 0 4 1 (some 64)) 1 4 (((es.drop 0).take 4).map byteAV) :=
      piece_view rfl le (by omega) (by simp)
    refine WDP_turn (copy_own (j := 0) rfl le (by omega) pv4 (by omega)) (by exact rfl) (by exact rfl) (by exact rfl) ?_
    obtain ⟨cs, hcs⟩ : ∃ cs, cs = blit es 60 ((es.drop 0).take 4) := ⟨_, rfl⟩
    have lc : cs.length = 64 := by rw [hcs, blit_len (by simp [le]), le]
    have lcm : (cs.map byteAV).length = 64 := by simp [lc]
    rw [← hcs]

    simp (disch := first | (simp only [ne_eq, reduceCtorEq, not_false_eq_true, implies_true]; done) | omega) only [WS, St.guard, St.put, evalO, reduceCtorEq, reduceIte, Nat.reduceAdd, px_load_l, Option.join_some, loadB_all lcm]
    have ht := Take_spec H.toTakeLib (G := (⟨[], [some (dBlk (cs.map byteAV) false false), none, none, none, none]⟩ : Hp).into) lc
    refine WP_slice (esz := 1) (len := (takeX cs).d.length) (cells := (takeX cs).d.map byteAV) (fun a => .tup [.agg ((takeX cs).cells a), .v (.bool (takeOK cs))]) (fun _ _ => rfl) (by rw [List.map_cons, ren_bytes]; exact ht) (by exact ⟨dBlk_good, trivial⟩) rfl fun a B hat => ?_
    simp (disch := first | (simp only [ne_eq, reduceCtorEq, not_false_eq_true, implies_true]; done) | omega) only [WS, St.guard, St.put, evalO, reduceCtorEq, reduceIte, Nat.reduceAdd, px_extract]
    rw [alloc_s rfl]
    simp (disch := first | (simp only [ne_eq, reduceCtorEq, not_false_eq_true, implies_true]; done) | omega) only [WS, St.guard, St.put, evalO, reduceCtorEq, reduceIte, Nat.reduceAdd]
    rw [store_s (j := 2) (n := 5) (off := 0) (sz := 5) (xs := (takeX cs).cells a) rfl rfl rfl rfl (by omega), show lay [AV.v (.int .u32 0), .v (.int .u32 0), .v (.bool false), .v (.bool false), .v (.slice none 0 0)] 0 ((takeX cs).cells a) = (takeX cs).cells a from rfl]
    obtain ⟨d, hd⟩ : ∃ d, d = (true && AV.lf.lfs ((takeX cs).cells a)) := ⟨_, rfl⟩
    rw [← hd]
    have hlab : ∀ g k, 1 < k → (AV.labs.labss ((takeX cs).cells a)).all (refLt g k) = true := fun g k hk => by
      have := hat.ref (g := g) hk
      simpa [LeafD.cells, AV.labs.labss, AV.labs] using this
    simp (disch := first | (simp only [ne_eq, reduceCtorEq, not_false_eq_true, implies_true]; done) | omega) only [WS, St.guard, St.put, evalO, reduceCtorEq, reduceIte, Nat.reduceAdd, px_load_l, Option.join_some, loadB_all lcm]
    have ht2 := RefTake_spec H.toTakeLib (G := (⟨[], [some (dBlk (cs.map byteAV) false false), B, some (sBlk ((takeX cs).cells a) d), none, none]⟩ : Hp).into) lc
    refine WP_slice (esz := 1) (len := (takeX cs).d.length) (cells := (takeX cs).d.map byteAV) (fun a => .tup [.agg ((takeX cs).cells a), .v (.bool (takeOK cs))]) (fun _ _ => rfl) (by rw [List.map_cons, ren_bytes]; exact ht2) (by exact ⟨dBlk_good, goodL_opt (fun b hb => hat.good hb) ⟨sBlk_good (hlab _ _ (by omega)), trivial⟩⟩) rfl fun a2 B2 hat2 => ?_
    simp (disch := first | (simp only [ne_eq, reduceCtorEq, not_false_eq_true, implies_true]; done) | omega) only [WS, St.guard, St.put, evalO, reduceCtorEq, reduceIte, Nat.reduceAdd, px_extract]
    rw [alloc_s rfl]
    simp (disch := first | (simp only [ne_eq, reduceCtorEq, not_false_eq_true, implies_true]; done) | omega) only [WS, St.guard, St.put, evalO, reduceCtorEq, reduceIte, Nat.reduceAdd]
    rw [store_s (j := 4) (n := 5) (off := 0) (sz := 5) (xs := (takeX cs).cells a2) rfl rfl rfl rfl (by omega), show lay [AV.v (.int .u32 0), .v (.int .u32 0), .v (.bool false), .v (.bool false), .v (.slice none 0 0)] 0 ((takeX cs).cells a2) = (takeX cs).cells a2 from rfl]
    obtain ⟨d2, hd2⟩ : ∃ d, d = (true && AV.lf.lfs ((takeX cs).cells a2)) := ⟨_, rfl⟩
    rw [← hd2]
    have hlab2 : ∀ g k, 3 < k → (AV.labs.labss ((takeX cs).cells a2)).all (refLt g k) = true := fun g k hk => by
      have := hat2.ref (g := g) hk
      simpa [LeafD.cells, AV.labs.labss, AV.labs] using this
    have gd : Good ⟨[], [some (dBlk (cs.map byteAV) false false), B, some (sBlk ((takeX cs).cells a) d), B2, some (sBlk ((takeX cs).cells a2) d2)]⟩ :=
      ⟨dBlk_good, goodL_opt (fun b hb => hat.good hb) ⟨sBlk_good (hlab _ _ (by omega)), goodL_opt (fun b hb => hat2.good hb) ⟨sBlk_good (hlab2 _ _ (by omega)), trivial⟩⟩⟩
    have v1 : View ⟨[], [some (dBlk (cs.map byteAV) false false), B, some (sBlk ((takeX cs).cells a) d), B2, some (sBlk ((takeX cs).cells a2) d2)]⟩ a 1 (takeX cs).d.length ((takeX cs).d.map byteAV) := hat.view rfl
    have v2 : View ⟨[], [some (dBlk (cs.map byteAV) false false), B, some (sBlk ((takeX cs).cells a) d), B2, some (sBlk ((takeX cs).cells a2) d2)]⟩ a2 1 (takeX cs).d.length ((takeX cs).d.map byteAV) := hat2.view rfl
    have l2 : ∀ b0 b1 b3 b4, prim ⟨[], [b0, b1, some (sBlk ((takeX cs).cells a) d), b3, b4]⟩ (.load 5 true) [.ptr (.l 2) 5 0] = some (.agg ((takeX cs).cells a), ⟨[], [b0, b1, some (sBlk ((takeX cs).cells a) d), b3, b4]⟩) := fun _ _ _ _ => rfl
    have l4 : ∀ b0 b1 b2 b3, prim ⟨[], [b0, b1, b2, b3, some (sBlk ((takeX cs).cells a2) d2)]⟩ (.load 5 true) [.ptr (.l 4) 5 0] = some (.agg ((takeX cs).cells a2), ⟨[], [b0, b1, b2, b3, some (sBlk ((takeX cs).cells a2) d2)]⟩) := fun _ _ _ _ => rfl
    have l0 : ∀ L, prim ⟨[], some (dBlk (cs.map byteAV) false false) :: L⟩ (.load 64 true) [.ptr (.l 0) 64 0] = some (.agg (cs.map byteAV), ⟨[], some (dBlk (cs.map byteAV) false false) :: L⟩) := fun L => by
      simp only [px_load_l, List.getElem?_cons_zero, Option.join_some, loadB_all lcm]
    simp (disch := first | (simp only [ne_eq, reduceCtorEq, not_false_eq_true, implies_true]; done) | omega) only [WS, St.guard, St.put, evalO, reduceCtorEq, reduceIte, Nat.reduceAdd]
    refine WDP_r (r := .v (.bool true)) (fun X _ => awake7_spec H) rfl gd ?_
    simp (disch := first | (simp only [ne_eq, reduceCtorEq, not_false_eq_true, implies_true]; done) | omega) only [WS, St.guard, St.put, evalO, reduceCtorEq, reduceIte, Nat.reduceAdd, l2, l4, beq_self_eq_true]
    refine WDP_r (r := .v (.bool (leafEq (takeX cs) (takeX cs)))) (fun X _ => by exact LeafEq_spec H.leq H.bytes (v1.into bytes_lfs) (v2.into bytes_lfs)) rfl gd ?_
    simp (disch := first | (simp only [ne_eq, reduceCtorEq, not_false_eq_true, implies_true]; done) | omega) only [WS, St.guard, St.put, evalO, reduceCtorEq, reduceIte, Nat.reduceAdd, leafEq_iff.2 rfl, l0]
    refine WDP_r (r := .v (u32 (maxU (get4 cs 0) (get4 cs 60)))) (fun X _ => by rw [List.map_cons, ren_bytes]; exact Mark_spec H.mark H.get lc) rfl gd ?_
    simp (disch := first | (simp only [ne_eq, reduceCtorEq, not_false_eq_true, implies_true]; done) | omega) only [WS, St.guard, St.put, evalO, reduceCtorEq, reduceIte, Nat.reduceAdd, l0]
    refine WDP_r (r := .v (u32 (maxU (get4 cs 0) (get4 cs 60)))) (fun X _ => by rw [List.map_cons, ren_bytes]; exact RefMark_spec H.rmark H.rfour lc) rfl gd ?_
    simp (disch := first | (simp only [ne_eq, reduceCtorEq, not_false_eq_true, implies_true]; done) | omega) only [WS, St.guard, St.put, evalO, reduceCtorEq, reduceIte, Nat.reduceAdd, beq_self_eq_true, fin_tmp, leave_v]
    simp

end Go.AM
