import Derived.Test.YtgblalimcndgnaaLawLeaf
import Derived.Test.YtgblalimcndgnaaHelp
import Derived.Test.YtgblalimcndgnaaLawCrc
set_option linter.unusedVariables false
set_option linter.unusedSimpArgs false
/- Leaves: one near to any. -/
namespace Go.AM
variable {prog : String → Option IFn}

theorem SliceAt.sub {site a B esz len cells} (h : SliceAt site a B esz len cells) {i j : Nat} (hij : i ≤ j) (hj : j ≤ len) :
    SliceAt site (AM.sub a esz i j) B esz (j - i) ((cells.drop (i * esz)).take ((j - i) * esz)) := by
  refine ⟨fun hL => (h.view hL).sub hij hj, h.data, fun ℓ hl => h.labs ℓ ?_⟩
  revert hl
  cases a <;> simp [AM.sub, AV.labs]

/-- A field is written. -/
theorem store_f {G L} {j n off : Nat} {x : AV} {cells : List AV} {d : Bool} (hL : L[j]? = some (some (sBlk cells d))) (hx : x.cellsOf = some [x]) (hn : cells.length = n) (ho : off < n) :
    prim ⟨G, L⟩ (.store 1 false) [.ptr (.l j) n off, x] = some (.v undef, ⟨G, L.set j (some (sBlk (cells.set off x) (d && AV.lf.lfs [x])))⟩) := by
  rw [store_s (sz := 1) (xs := [x]) hL hx hn rfl (by omega), lay_one (by omega)]

/-- Appending noughts to a slice that may grow. -/
theorem appendZ_own {G L} {site j esz bytes len k : Nat} {zero : List Value} {cells : List AV} {v : Bool} {kk : IntKind} (hL : L[j]? = some (some (dBlk cells true v))) (hl : cells.length = len * esz) (hz : zero.length = esz) (hp : 0 < esz)
    (h0 : 0 < k) (hr : (len + k) * bytes ≤ room) (hd : AV.lf.lfs (List.replicate k (zero.map AV.v)).flatten = true) :
    prim ⟨G, L⟩ (.appendZ site esz bytes zero) [.own (.l j) (len * esz) 0 len esz none, .v (.int kk (k : Int))] =
      some (.own (.l j) ((len + k) * esz) 0 (len + k) esz none, ⟨G, L.set j (some (dBlk (cells ++ (List.replicate k (zero.map AV.v)).flatten) true false))⟩) := by
  have hk : k * bytes ≤ room := Nat.le_trans (Nat.mul_le_mul_right _ (by omega)) hr
  rw [px_appendZ, natOf_nat, Option.bind_some, if_pos ⟨hk, hz⟩]
  have hnl : (List.replicate k (zero.map AV.v)).flatten.length = k * esz := by simp [hz]
  generalize (List.replicate k (zero.map AV.v)).flatten = new at *
  simp only [Hp.append, hnl, if_true, Hp.get, hL, Option.join_some, dBlk_cells]
  have hm : len * esz < (len + k) * esz := Nat.mul_lt_mul_of_pos_right (by omega) hp
  refine (if_pos ⟨hl, trivial, hr, rfl⟩).trans ?_
  rw [if_neg (by omega), if_neg (by simp [dBlk]), if_neg (by omega)]
  refine (if_pos ⟨trivial, rfl⟩).trans ?_
  rw [List.take_of_length_le (by omega)]
  simp only [dBlk, hd, Bool.and_true, Hp.put]

def zs46 : List UInt8 := List.replicate 46 0
theorem zs46_len : zs46.length = 46 := by simp [zs46]
theorem zs46_cells : (List.replicate 46 [AV.v (.int .u8 0)]).flatten = zs46.map byteAV := rfl

/-- What is appended to nothing, and noughts behind it. -/
theorem near_app (ds : List UInt8) : ∃ a0 C0 a B0 B1, ((SliceAt 0 a B0 1 (ds.length + 46) ((ds ++ zs46).map byteAV) ∧ B1 = none) ∨ (SliceAt 1 a B1 1 (ds.length + 46) ((ds ++ zs46).map byteAV) ∧ B0 = none)) ∧
    ∀ {G L x}, View ⟨G, none :: none :: L⟩ x 1 ds.length (ds.map byteAV) → ds.length + 46 ≤ room →
      prim ⟨G, none :: none :: L⟩ (.append 0 false 1 1) [.v (.slice none 0 0), x] = some (a0, ⟨G, C0 :: none :: L⟩) ∧
      prim ⟨G, C0 :: none :: L⟩ (.appendZ 1 1 1 [.int .u8 0]) [a0, .v (.int .i64 46)] = some (a, ⟨G, B0 :: B1 :: L⟩) := by
  by_cases h0 : ds.length = 0
  · have : ds = [] := List.eq_nil_of_length_eq_zero h0
    subst this
    refine ⟨.v (.slice none 0 0), none, .own (.l 1) 46 0 46 1 none, none, some (dBlk (zs46.map byteAV) true false), .inr ⟨⟨fun {G L} hL => own_view (len := 46) (esz := 1) hL (by simp [zs46_len]) (by omega), fun b h => by cases h; rfl, by simp [AV.labs]⟩, rfl⟩, fun {G L x} v hr => ?_⟩
    refine ⟨append_nil0 v, ?_⟩
    rw [px_appendZ]
    rfl
  · refine ⟨.own (.l 0) (ds.length * 1) 0 ds.length 1 none, some (dBlk (ds.map byteAV) true false), .own (.l 0) ((ds.length + 46) * 1) 0 (ds.length + 46) 1 none, some (dBlk ((ds ++ zs46).map byteAV) true false), none,
      .inl ⟨⟨fun {G L} hL => own_view hL (by simp [zs46_len]) (by omega), fun b h => by cases h; rfl, by simp [AV.labs]⟩, rfl⟩, fun {G L x} v hr => ?_⟩
    refine ⟨append_nil v bytes_lfs rfl (by omega) (by omega), ?_⟩
    have := appendZ_own (G := G) (L := some (dBlk (ds.map byteAV) true false) :: none :: L) (site := 1) (j := 0) (esz := 1) (bytes := 1) (len := ds.length) (k := 46) (zero := [.int .u8 0]) (kk := .i64) rfl (by simp) rfl (by omega) (by omega) (by omega) rfl
    refine this.trans ?_
    rw [List.map_append]
    rfl

def nearD (x : LeafD) : LeafD := ⟨maxU x.e 1, x.n, x.f, x.l, (x.d.take 46 ++ zs46).take (if x.l then 1 + x.n.toNat % 46 else 46)⟩
theorem nearD_len {x : LeafD} : (nearD x).d.length = if x.l then 1 + x.n.toNat % 46 else 46 := by
  have : (nearD x).d = (x.d.take 46 ++ zs46).take (if x.l then 1 + x.n.toNat % 46 else 46) := rfl
  rw [this, List.length_take, List.length_append, zs46_len]
  have : x.n.toNat % 46 < 46 := Nat.mod_lt _ (by omega)
  split <;> omega
theorem maxU_one (e : BitVec 32) : (maxU e 1 != 0#32) = true := by
  unfold maxU
  split
  · rfl
  · rename_i h
    have h1 : (1 : BitVec 32).toNat = 1 := rfl
    rw [h1] at h
    have : e ≠ 0#32 := fun he => h (by rw [he]; decide)
    simpa using this
theorem nearD_right {x : LeafD} : (nearD x).right = true := by
  have hl := nearD_len (x := x)
  have he : (nearD x).e = maxU x.e 1 := rfl
  have hll : (nearD x).l = x.l := rfl
  have : x.n.toNat % 46 < 46 := Nat.mod_lt _ (by omega)
  unfold LeafD.right
  rw [he, maxU_one, hl, hll]
  cases x.l
  · simp
  · simp; omega

theorem vBin_rem_u32_lit {x : BitVec 32} {z : Int} (n : Nat) (hz : z = n) (h0 : 0 < n) : vBin .rem (u32 x) (.int .u32 z) = some (.int .u32 ((x.toNat % n : Nat) : Int)) := by
  subst hz
  simp only [vBin, u32, ne_eq, not_true_eq_false, if_false]
  rw [if_neg (by omega)]
  rfl

theorem near_spec (hf : prog "haberdash/haberdashlaw07.near" = some f_law07_near) {G a} {x : LeafD} (w : ∀ L, View ⟨G, L⟩ a 1 x.d.length (x.d.map byteAV)) :
    ∃ r Bs, Ev prog (.call "haberdash/haberdashlaw07.near" [.agg (x.cells a)] G) (.ret (.agg ((nearD x).cells r)) (G ++ Bs)) ∧ RetSlice G r Bs 1 (nearD x).d.length ((nearD x).d.map byteAV) := by
  obtain ⟨r, G2, he, a, Bs, rfl, rfl, hr⟩ := call_ex (prog := prog) (P := fun r G2 => ∃ a Bs, r = .agg ((nearD x).cells a) ∧ G2 = G ++ Bs ∧ RetSlice G a Bs 1 (nearD x).d.length ((nearD x).d.map byteAV))
    hf (args := [.agg (x.cells a)]) (G := G) (by
    simp only [f_law07_near_B, enter, List.length_cons, List.length_nil, List.replicate, Nat.reduceAdd, Nat.reduceSub, List.cons_append, List.nil_append]
    simp (disch := first | (simp only [ne_eq, reduceCtorEq, not_false_eq_true, implies_true]; done) | omega) only [WS, St.guard, St.put, evalO, reduceCtorEq, reduceIte, Nat.reduceAdd]
    have cs : x.cells a = [.v (u32 x.e), .v (u32 x.n), .v (.bool x.f), .v (.bool x.l), a] := rfl
    rw [cs, box_s rfl]
    simp (disch := first | (simp only [ne_eq, reduceCtorEq, not_false_eq_true, implies_true]; done) | omega) only [WS, St.guard, St.put, evalO, reduceCtorEq, reduceIte, Nat.reduceAdd]
    rw [alloc_s rfl]
    simp (disch := first | (simp only [ne_eq, reduceCtorEq, not_false_eq_true, implies_true]; done) | omega) only [WS, St.guard, St.put, evalO, reduceCtorEq, reduceIte, Nat.reduceAdd, px_load_l, loadB_s, List.getElem?_cons_zero, List.getElem?_cons_succ, Option.join_some, List.drop_zero, List.drop_succ_cons, List.take_succ_cons, List.take_zero, whole, List.length_cons, List.length_nil, Nat.reduceAdd, Nat.reduceLeDiff, Nat.zero_add, and_self, and_true, c0, c1, max_u32]
    rw [store_f (by exact rfl) (by exact rfl) (by exact rfl) (by omega)]
    simp (disch := first | (simp only [ne_eq, reduceCtorEq, not_false_eq_true, implies_true]; done) | omega) only [WS, St.guard, St.put, evalO, reduceCtorEq, reduceIte, Nat.reduceAdd, px_load_l, loadB_s, List.getElem?_cons_zero, List.getElem?_cons_succ, Option.join_some, List.drop_zero, List.drop_succ_cons, List.take_succ_cons, List.take_zero, whole, List.length_cons, List.length_nil, Nat.reduceAdd, Nat.reduceLeDiff, Nat.zero_add, and_self, and_true, (w _).lenSlice, min_46]
    rw [(w _).sliceHi (Nat.min_le_left _ _)]
    simp (disch := first | (simp only [ne_eq, reduceCtorEq, not_false_eq_true, implies_true]; done) | omega) only [WS, St.guard, St.put, evalO, reduceCtorEq, reduceIte, Nat.reduceAdd]
    have w2 : ∀ L, View ⟨G, L⟩ (sub a 1 0 (min x.d.length 46)) 1 (x.d.take 46).length ((x.d.take 46).map byteAV) := fun L => by
      have := (w L).sub (i := 0) (j := min x.d.length 46) (by omega) (Nat.min_le_left _ _)
      simp only [Nat.zero_mul, List.drop_zero, Nat.sub_zero, Nat.mul_one] at this
      rw [List.length_take, Nat.min_comm 46, List.map_take, ← List.take_length (l := x.d.map byteAV), List.take_take]
      simp only [List.length_map, Nat.min_comm 46]
      exact this
    obtain ⟨a0, C0, a1, B0, B1, hat, happ⟩ := near_app (x.d.take 46)
    have hla : (x.d.take 46).length ≤ 46 := by simp; omega
    obtain ⟨p1, p2⟩ := happ (w2 _) (by unfold room; omega)
    rw [p1]
    simp (disch := first | (simp only [ne_eq, reduceCtorEq, not_false_eq_true, implies_true]; done) | omega) only [WS, St.guard, St.put, evalO, reduceCtorEq, reduceIte, Nat.reduceAdd]
    rw [p2]
    simp (disch := first | (simp only [ne_eq, reduceCtorEq, not_false_eq_true, implies_true]; done) | omega) only [WS, St.guard, St.put, evalO, reduceCtorEq, reduceIte, Nat.reduceAdd, px_load_l, loadB_s, List.getElem?_cons_zero, List.getElem?_cons_succ, Option.join_some, List.drop_zero, List.drop_succ_cons, List.take_succ_cons, List.take_zero, whole, List.length_cons, List.length_nil, Nat.reduceAdd, Nat.reduceLeDiff, Nat.zero_add, and_self, and_true]
    have ca : a1.cellsOf = some [a1] := by
      rcases hat with ⟨h, _⟩ | ⟨h, _⟩
      · exact (h.view (G := []) (L := [B0]) rfl).cellsOf
      · exact (h.view (G := []) (L := [none, B1]) rfl).cellsOf
    rw [store_f (by exact rfl) ca (by exact rfl) (by omega)]
    simp (disch := first | (simp only [ne_eq, reduceCtorEq, not_false_eq_true, implies_true]; done) | omega) only [WS, St.guard, St.put, evalO, reduceCtorEq, reduceIte, Nat.reduceAdd, px_load_l, loadB_s, List.getElem?_cons_zero, List.getElem?_cons_succ, Option.join_some, List.drop_zero, List.drop_succ_cons, List.take_succ_cons, List.take_zero, whole, List.length_cons, List.length_nil, Nat.reduceAdd, Nat.reduceLeDiff, Nat.zero_add, and_self, and_true]
    obtain ⟨d1, hd1⟩ : ∃ d, d = (AV.lf.lfs [AV.v (u32 x.e), AV.v (u32 x.n), AV.v (Value.bool x.f), AV.v (Value.bool x.l), a] && AV.lf.lfs [AV.v (u32 (maxU x.e 1#32))] && AV.lf.lfs [a1]) := ⟨_, rfl⟩
    rw [← hd1]
    have va : ∀ L, View ⟨G, B0 :: B1 :: L⟩ a1 1 ((x.d.take 46).length + 46) ((x.d.take 46 ++ zs46).map byteAV) := fun L => by
      rcases hat with ⟨h, _⟩ | ⟨h, _⟩
      · exact h.view rfl
      · exact h.view rfl
    obtain ⟨m, hm⟩ : ∃ m, m = if x.l then 1 + x.n.toNat % 46 else 46 := ⟨_, rfl⟩
    have hmr : x.n.toNat % 46 < 46 := Nat.mod_lt _ (by omega)
    have hm46 : m ≤ 46 := by rw [hm]; split <;> omega
    have c1a : ∀ n : Nat, (1 : Int) + (n : Int) = ((1 + n : Nat) : Int) := fun n => by omega
    have fin : ∀ d2 d3, ∃ (r : AV) (G2 : List (Option Blk)), (⟨G, [B0, B1, some (sBlk [AV.v (u32 (maxU x.e 1#32)), AV.v (u32 x.n), AV.v (Value.bool x.f), AV.v (Value.bool x.l), sub a1 1 0 m] d2), some (sBlk ((nearD x).cells (sub a1 1 0 m)) d3)]⟩ : Hp).leave (.agg ((nearD x).cells (sub a1 1 0 m))) = some (r, G2) ∧
        ∃ a Bs, r = .agg ((nearD x).cells a) ∧ G2 = G ++ Bs ∧ RetSlice G a Bs 1 (nearD x).d.length ((nearD x).d.map byteAV) := by
      intro d2 d3
      have hl : (nearD x).d.length = m := by rw [nearD_len, hm]
      have hdd : (nearD x).d.map byteAV = ((((x.d.take 46 ++ zs46).map byteAV).drop (0 * 1)).take ((m - 0) * 1)) := by
        have : (nearD x).d = (x.d.take 46 ++ zs46).take m := by rw [hm]; rfl
        rw [this, Nat.zero_mul, List.drop_zero, Nat.sub_zero, Nat.mul_one, List.map_take]
      have go : ∀ site B, SliceAt site a1 B 1 ((x.d.take 46).length + 46) ((x.d.take 46 ++ zs46).map byteAV) → SliceAt site (sub a1 1 0 m) B 1 (nearD x).d.length ((nearD x).d.map byteAV) := fun site B h => by
        rw [hl, hdd]; exact h.sub (by omega) (by omega)
      rcases hat with ⟨h, _⟩ | ⟨h, _⟩
      · obtain ⟨r, Bs, hlv, hret⟩ := leave_at (h := ⟨G, [B0, B1, some (sBlk [AV.v (u32 (maxU x.e 1#32)), AV.v (u32 x.n), AV.v (Value.bool x.f), AV.v (Value.bool x.l), sub a1 1 0 m] d2), some (sBlk ((nearD x).cells (sub a1 1 0 m)) d3)]⟩) (go _ _ h) rfl
          (fun a => .agg ((nearD x).cells a)) (fun _ _ => rfl) (fun a => by simp [LeafD.cells, AV.labs, AV.labs.labss]) (fun a ha => by simp [LeafD.cells, AV.lf, AV.lf.lfs, ha])
        exact ⟨_, _, hlv, r, Bs, rfl, rfl, hret⟩
      · obtain ⟨r, Bs, hlv, hret⟩ := leave_at (h := ⟨G, [B0, B1, some (sBlk [AV.v (u32 (maxU x.e 1#32)), AV.v (u32 x.n), AV.v (Value.bool x.f), AV.v (Value.bool x.l), sub a1 1 0 m] d2), some (sBlk ((nearD x).cells (sub a1 1 0 m)) d3)]⟩) (go _ _ h) rfl
          (fun a => .agg ((nearD x).cells a)) (fun _ _ => rfl) (fun a => by simp [LeafD.cells, AV.labs, AV.labs.labss]) (fun a ha => by simp [LeafD.cells, AV.lf, AV.lf.lfs, ha])
        exact ⟨_, _, hlv, r, Bs, rfl, rfl, hret⟩
    have cz : (sub a1 1 0 m).cellsOf = some [sub a1 1 0 m] := ((va []).sub (i := 0) (j := m) (by omega) (by omega)).cellsOf
    have cn : (nearD x).cells (sub a1 1 0 m) = [AV.v (u32 (maxU x.e 1#32)), AV.v (u32 x.n), AV.v (Value.bool x.f), AV.v (Value.bool x.l), sub a1 1 0 m] := rfl
    cases hxl : x.l
    · rw [hxl, if_neg (by simp)] at hm
      subst hm
      simp only [hxl] at fin cn
      simp (disch := first | (simp only [ne_eq, reduceCtorEq, not_false_eq_true, implies_true]; done) | omega) only [WS, St.guard, St.put, evalO, reduceCtorEq, reduceIte, Nat.reduceAdd, px_load_l, loadB_s, List.getElem?_cons_zero, List.getElem?_cons_succ, Option.join_some, List.drop_zero, List.drop_succ_cons, List.take_succ_cons, List.take_zero, whole, List.length_cons, List.length_nil, Nat.reduceAdd, Nat.reduceLeDiff, Nat.zero_add, and_self, and_true]
      refine (WR_eq ((va _).sliceHi (k := .i64) (j := 46) (by omega))).2 ?_
      simp (disch := first | (simp only [ne_eq, reduceCtorEq, not_false_eq_true, implies_true]; done) | omega) only [WS, St.guard, St.put, evalO, reduceCtorEq, reduceIte, Nat.reduceAdd, px_load_l, loadB_s, List.getElem?_cons_zero, List.getElem?_cons_succ, Option.join_some, List.drop_zero, List.drop_succ_cons, List.take_succ_cons, List.take_zero, whole, List.length_cons, List.length_nil, Nat.reduceAdd, Nat.reduceLeDiff, Nat.zero_add, and_self, and_true]
      rw [store_f (by exact rfl) cz (by exact rfl) (by omega)]
      simp (disch := first | (simp only [ne_eq, reduceCtorEq, not_false_eq_true, implies_true]; done) | omega) only [WS, St.guard, St.put, evalO, reduceCtorEq, reduceIte, Nat.reduceAdd, px_load_l, loadB_s, List.getElem?_cons_zero, List.getElem?_cons_succ, Option.join_some, List.drop_zero, List.drop_succ_cons, List.take_succ_cons, List.take_zero, whole, List.length_cons, List.length_nil, Nat.reduceAdd, Nat.reduceLeDiff, Nat.zero_add, and_self, and_true]
      rw [store_s (j := 3) (n := 5) (off := 0) (sz := 5) (xs := (nearD x).cells (sub a1 1 0 46)) rfl (by rw [cn]; rfl) rfl rfl (by omega)]
      simp (disch := first | (simp only [ne_eq, reduceCtorEq, not_false_eq_true, implies_true]; done) | omega) only [WS, St.guard, St.put, evalO, reduceCtorEq, reduceIte, Nat.reduceAdd, px_load_l, loadB_s, List.getElem?_cons_zero, List.getElem?_cons_succ, Option.join_some, List.drop_zero, List.drop_succ_cons, List.take_succ_cons, List.take_zero, whole, List.length_cons, List.length_nil, Nat.reduceAdd, Nat.reduceLeDiff, Nat.zero_add, and_self, and_true]
      exact ⟨by simp, fin _ _⟩
    · rw [hxl, if_pos rfl] at hm
      simp only [hxl] at fin cn
      simp (disch := first | (simp only [ne_eq, reduceCtorEq, not_false_eq_true, implies_true]; done) | omega) only [WS, St.guard, St.put, evalO, reduceCtorEq, reduceIte, Nat.reduceAdd, px_load_l, loadB_s, List.getElem?_cons_zero, List.getElem?_cons_succ, Option.join_some, List.drop_zero, List.drop_succ_cons, List.take_succ_cons, List.take_zero, whole, List.length_cons, List.length_nil, Nat.reduceAdd, Nat.reduceLeDiff, Nat.zero_add, and_self, and_true, vBin_rem_u32_lit (z := 46) 46 rfl, wrap_i64_nat, vBin_add_i64, c1a, ← hm]
      rw [(va _).sliceHi (j := m) (by omega)]
      simp (disch := first | (simp only [ne_eq, reduceCtorEq, not_false_eq_true, implies_true]; done) | omega) only [WS, St.guard, St.put, evalO, reduceCtorEq, reduceIte, Nat.reduceAdd, px_load_l, loadB_s, List.getElem?_cons_zero, List.getElem?_cons_succ, Option.join_some, List.drop_zero, List.drop_succ_cons, List.take_succ_cons, List.take_zero, whole, List.length_cons, List.length_nil, Nat.reduceAdd, Nat.reduceLeDiff, Nat.zero_add, and_self, and_true]
      rw [store_f (by exact rfl) cz (by exact rfl) (by omega)]
      simp (disch := first | (simp only [ne_eq, reduceCtorEq, not_false_eq_true, implies_true]; done) | omega) only [WS, St.guard, St.put, evalO, reduceCtorEq, reduceIte, Nat.reduceAdd, px_load_l, loadB_s, List.getElem?_cons_zero, List.getElem?_cons_succ, Option.join_some, List.drop_zero, List.drop_succ_cons, List.take_succ_cons, List.take_zero, whole, List.length_cons, List.length_nil, Nat.reduceAdd, Nat.reduceLeDiff, Nat.zero_add, and_self, and_true]
      rw [store_s (j := 3) (n := 5) (off := 0) (sz := 5) (xs := (nearD x).cells (sub a1 1 0 m)) rfl (by rw [cn]; rfl) rfl rfl (by omega)]
      simp (disch := first | (simp only [ne_eq, reduceCtorEq, not_false_eq_true, implies_true]; done) | omega) only [WS, St.guard, St.put, evalO, reduceCtorEq, reduceIte, Nat.reduceAdd, px_load_l, loadB_s, List.getElem?_cons_zero, List.getElem?_cons_succ, Option.join_some, List.drop_zero, List.drop_succ_cons, List.take_succ_cons, List.take_zero, whole, List.length_cons, List.length_nil, Nat.reduceAdd, Nat.reduceLeDiff, Nat.zero_add, and_self, and_true]
      exact ⟨by simp, fin _ _⟩)
  exact ⟨a, Bs, he, hr⟩
end Go.AM

/- The laws of leaves: any leaf as an argument; Own and Kept of bytes; what any leaf's bytes are. -/
namespace Go.AM
variable {prog : String → Option IFn}

abbrev leafTy : Ty := .fcons (.int .u32) (.fcons (.int .u32) (.fcons .bool (.fcons .bool (.fcons (.slice (.int .u8)) .fnil))))
theorem is_leaf {cs : List AV} (h : leafTy.Is cs) : ∃ a, ∃ x : LeafD, cs = x.cells a ∧ (∀ h, View h a 1 x.d.length (x.d.map byteAV)) ∧ x.d.length ≤ maxLen := by
  obtain ⟨c1, r1, rfl, h1, c2, r2, rfl, h2, c3, r3, rfl, h3, c4, r4, rfl, h4, c5, r5, rfl, h5, h6⟩ := h
  obtain ⟨e, rfl⟩ := is_u32 h1
  obtain ⟨n, rfl⟩ := is_u32 h2
  obtain ⟨f, rfl⟩ := h3
  obtain ⟨l, rfl⟩ := h4
  obtain ⟨a, bs, rfl, v, hl⟩ := is_bytes h5
  exact ⟨a, ⟨e, n, f, l, bs⟩, by rw [show r5 = [] from h6]; rfl, v, hl⟩

theorem sliceAt_any {a esz len cells} {site : Nat} (v : ∀ h, View h a esz len cells) : SliceAt site a none esz len cells := by
  refine ⟨fun _ => v _, fun b h => (by cases h), fun ℓ hl => ?_⟩
  rcases (v ⟨[], []⟩).cases with ⟨rfl, _, _⟩ | ⟨nl, rfl⟩ | ⟨ℓ', n, off, cap, b, rfl, hB, _⟩
  · simp [AV.labs] at hl
  · simp [AV.labs] at hl
  · cases ℓ' <;> simp [Hp.get] at hB

def bEnc : Enc UInt8 := ⟨fun b => [byteAV b], 1, false, fun _ => rfl, by omega, .inr rfl, fun _ => rfl, fun _ b => ⟨byteAV b, rfl, rfl⟩⟩
theorem bEnc_row (bs : List UInt8) : bEnc.row bs = bs.map byteAV := by
  induction bs with
  | nil => rfl
  | cons b bs ih => rw [List.map_cons, ← ih]; rfl
theorem bView {h a} {bs : List UInt8} (v : View h a 1 bs.length (bs.map byteAV)) : TView bEnc h a bs := by
  unfold TView
  rw [bEnc_row]; exact v

/-- A call that hands back one new row of data. -/
theorem WP_one {f xs dst l site} {k : List Kf} {s : St} {Q : Out → St → Prop} {n off len esz : Nat} {cap} {cells : List AV} {o v : Bool}
    (he : Ev prog (.call f (xs.map (AV.ren (up s.h.G.length))) s.h.into) (.ret (.own (.o s.h.into.length) n off len esz cap) (s.h.into ++ [some (dBlk cells o v)])))
    (hg : Good s.h) (hf : s.h.L[site]? = some none) (hQ : WO prog l k (({ s with h := ⟨s.h.G, s.h.L.set site (some (dBlk cells o v))⟩ } : St).put dst (.own (.l site) n off len esz cap)) Q) :
    WP prog (.call f [site]) xs dst l k s Q := by
  have hd : down s.h.G.length s.h.L.length [site] (.o s.h.into.length) = some (.l site) := by
    simp only [down, into_len]
    rw [if_neg (by omega), if_neg (by omega), Nat.sub_self]; rfl
  rw [WP_new (sites := [site]) he hg.okBlks hg.refsOK (by simp) (by simp) (by simp [free_of_get hf])]
  have hbr : (dBlk cells o v).ren (down s.h.G.length s.h.L.length [site]) = dBlk cells o v := blk_ren_id fun ℓ hℓ => by cases hℓ
  have hb : (padTo 1 [some (dBlk cells o v)]).map (Option.map (Blk.ren (down s.h.G.length s.h.L.length [site]))) = [some (dBlk cells o v)] := by simp [padTo, hbr]
  simp only [List.length_singleton, hb, putAll, AV.ren, hd]
  exact hQ

structure NearFns (prog : String → Option IFn) : Prop extends LeafFns prog where
  near : prog "haberdash/haberdashlaw07.near" = some f_law07_near
  own : prog "haberdash/haberdashhelp.Own[byte]" = some f_help_Own_byte_
  kept : prog "haberdash/haberdashhelp.Kept[byte]" = some f_help_Kept_byte_
  same : prog "haberdash/haberdashhelp.Same[byte]" = some f_help_Same_byte_
  plain : prog "haberdash/haberdashhelp.Plain[byte]" = some f_help_Plain_byte_
  plain1 : prog "haberdash/haberdashhelp.Plain[byte]$1" = some f_help_Plain_byte__1

theorem ownB (H : NearFns prog) {G a} {bs : List UInt8} (x0 : UInt8) (v : ∀ L, View ⟨G, L⟩ a 1 bs.length (bs.map byteAV)) (hr : bs.length + 3 ≤ room) :
    Ev prog (.call "haberdash/haberdashhelp.Own[byte]" [a, byteAV x0] G) (.ret (.own (.o G.length) (bs.length + 3) 0 bs.length 1 (some (bs.length + 3))) (G ++ [some (dBlk ((bs ++ [x0, x0, x0]).map byteAV) false false)])) := by
  have := own_spec (prog := prog) (T := bEnc) (byt := 1) (z := [.int .u8 0]) rfl (H.own.trans (congrArg some (by rfl))) x0 (fun L => bView (v L)) hr (by omega)
  rw [ownCells, bEnc_row, show bEnc.esz = 1 from rfl, Nat.mul_one] at this
  exact this

theorem plainB (H : NearFns prog) : PlainOK prog "haberdash/haberdashhelp.Plain[byte]" bEnc := by
  refine plain_ok (same := "haberdash/haberdashhelp.Same[byte]") (one := "haberdash/haberdashhelp.Plain[byte]$1") (H.plain.trans (congrArg some (by rfl))) (H.same.trans (congrArg some (by rfl))) fun {G} x y => ?_
  refine call_of_fin H.plain1 ?_
  simp only [f_help_Plain_byte__1_B, enter, List.length_cons, List.length_nil, List.replicate, Nat.reduceAdd, Nat.reduceSub, List.cons_append, List.nil_append, show ∀ b, bEnc.av b = .v (u8 b) from fun _ => rfl]
  simp (disch := first | (simp only [ne_eq, reduceCtorEq, not_false_eq_true, implies_true]; done) | omega) only [WS, St.guard, St.put, evalO, reduceCtorEq, reduceIte, Nat.reduceAdd, fin_tmp, leave_v]
  have e : (x == y) = decide (x = y) := by rw [Bool.eq_iff_iff]; simp
  simp [e]

theorem keptB (H : NearFns prog) {G p b} {bs : List UInt8} (x0 : UInt8) (hp : G[p]? = some (some (dBlk ((bs ++ [x0, x0, x0]).map byteAV) false false))) (w : ∀ L, View ⟨G, L⟩ b 1 bs.length (bs.map byteAV)) (hx : bs.length < 2 ^ 61) :
    Ev prog (.call "haberdash/haberdashhelp.Kept[byte]" [.own (.o p) (bs.length + 3) 0 bs.length 1 (some (bs.length + 3)), b, byteAV x0] G) (.ret (.v (.bool true)) G) := by
  have := kept_spec (prog := prog) (T := bEnc) (plain := "haberdash/haberdashhelp.Plain[byte]") (cmp := .bin .neq) (x0 := x0) (H.kept.trans (congrArg some (by rfl))) (plainB H) rfl (fun h => by
    rw [show bEnc.av x0 = .v (u8 x0) from rfl, px_bin]; simp [vBin, u8]) (by rw [ownCells, bEnc_row]; exact hp) (fun L => bView (w L)) hx
  rw [show bEnc.esz = 1 from rfl, Nat.mul_one] at this
  exact this

theorem LeafLays_law (H : NearFns prog) (hp : prog "haberdash/haberdashlaw07.LeafLays" = some f_law07_LeafLays) {as} (h : IsAll [leafTy, .bool] as) :
    ∃ G2, Ev prog (.call "haberdash/haberdashlaw07.LeafLays" as []) (.ret (.v (.bool true)) G2) := by
  rcases as with _ | ⟨a0, _ | ⟨a1, _ | _⟩⟩ <;> try (simp [IsAll] at h; done)
  obtain ⟨⟨c0', h0, rfl⟩, ⟨c1', h1, rfl⟩, _⟩ := h
  obtain ⟨a, x, rfl, v, hl⟩ := is_leaf h0
  obtain ⟨any, rfl⟩ := h1
  refine ⟨[], call_of_fin hp ?_⟩
  have hat0 : SliceAt 0 a none 1 x.d.length (x.d.map byteAV) := sliceAt_any v
  simp only [f_law07_LeafLays_B, enter, List.length_cons, List.length_nil, List.replicate, Nat.reduceAdd, Nat.reduceSub, List.cons_append, List.nil_append, Ty.arg]
  simp (disch := first | (simp only [ne_eq, reduceCtorEq, not_false_eq_true, implies_true]; done) | omega) only [WS, St.guard, St.put, evalO, reduceCtorEq, reduceIte, Nat.reduceAdd]
  have hbox : ∀ L : List (Option Blk), L[1]? = some none → prim ⟨[], L⟩ (.box 1) [.agg (x.cells a)] = some (.ptr (.l 1) 5 0, ⟨[], L.set 1 (some (sBlk (x.cells a) (AV.lf.lfs (x.cells a))))⟩) := fun L hL => box_s hL
  rw [hbox _ rfl]
  have ld4 : ∀ (y : LeafD) (b : AV) (b0 : Option Blk) d L, prim ⟨[], b0 :: some (sBlk (y.cells b) d) :: L⟩ (.load 1 false) [.ptr (.l 1) 5 4] = some (b, ⟨[], b0 :: some (sBlk (y.cells b) d) :: L⟩) := fun _ _ _ _ _ => rfl
  have ld1 : ∀ (y : LeafD) (b : AV) (b0 : Option Blk) d L, prim ⟨[], b0 :: some (sBlk (y.cells b) d) :: L⟩ (.load 5 true) [.ptr (.l 1) 5 0] = some (.agg (y.cells b), ⟨[], b0 :: some (sBlk (y.cells b) d) :: L⟩) := fun _ _ _ _ _ => rfl
  have ld3 : ∀ (y : LeafD) (b : AV) (b0 b1 b2 : Option Blk) d L, prim ⟨[], b0 :: b1 :: b2 :: some (sBlk (y.cells b) d) :: L⟩ (.load 5 true) [.ptr (.l 3) 5 0] = some (.agg (y.cells b), ⟨[], b0 :: b1 :: b2 :: some (sBlk (y.cells b) d) :: L⟩) := fun _ _ _ _ _ _ _ => rfl
  have ld34 : ∀ (y : LeafD) (b : AV) (b0 b1 b2 : Option Blk) d L, prim ⟨[], b0 :: b1 :: b2 :: some (sBlk (y.cells b) d) :: L⟩ (.load 1 false) [.ptr (.l 3) 5 4] = some (b, ⟨[], b0 :: b1 :: b2 :: some (sBlk (y.cells b) d) :: L⟩) := fun _ _ _ _ _ _ _ => rfl
  have st1 : ∀ (y z : LeafD) (b c : AV) (b0 : Option Blk) d L, prim ⟨[], b0 :: some (sBlk (y.cells b) d) :: L⟩ (.store 5 false) [.ptr (.l 1) 5 0, .agg (z.cells c)] = some (.v undef, ⟨[], b0 :: some (sBlk (z.cells c) (d && AV.lf.lfs (z.cells c))) :: L⟩) := fun y z b c b0 d L =>
    store_s (L := b0 :: some (sBlk (y.cells b) d) :: L) (cells := y.cells b) (d := d) (j := 1) (n := 5) (off := 0) (sz := 5) (xs := z.cells c) rfl rfl rfl rfl (by omega)
  have st3 : ∀ (z : LeafD) (c : AV) (b0 b1 b2 : Option Blk) d L, prim ⟨[], b0 :: b1 :: b2 :: some (sBlk noLeaf d) :: L⟩ (.store 5 false) [.ptr (.l 3) 5 0, .agg (z.cells c)] = some (.v undef, ⟨[], b0 :: b1 :: b2 :: some (sBlk (z.cells c) (d && AV.lf.lfs (z.cells c))) :: L⟩) := fun z c b0 b1 b2 d L =>
    store_s (L := b0 :: b1 :: b2 :: some (sBlk noLeaf d) :: L) (cells := noLeaf) (d := d) (j := 3) (n := 5) (off := 0) (sz := 5) (xs := z.cells c) rfl rfl rfl rfl (by omega)
  have st34 : ∀ (y : LeafD) (b c : AV) (b0 b1 b2 : Option Blk) d L, c.cellsOf = some [c] → prim ⟨[], b0 :: b1 :: b2 :: some (sBlk (y.cells b) d) :: L⟩ (.store 1 false) [.ptr (.l 3) 5 4, c] = some (.v undef, ⟨[], b0 :: b1 :: b2 :: some (sBlk (y.cells c) (d && AV.lf.lfs [c])) :: L⟩) := fun y b c b0 b1 b2 d L hc =>
    store_f (L := b0 :: b1 :: b2 :: some (sBlk (y.cells b) d) :: L) (cells := y.cells b) (d := d) (j := 3) (n := 5) (off := 4) rfl hc rfl (by omega)
  have lab : ∀ (y : LeafD) (b : AV) g k, b.labs.all (refLt g k) = true → (AV.labs.labss (y.cells b)).all (refLt g k) = true := fun y b g k hb => by
    simpa [LeafD.cells, AV.labs.labss, AV.labs] using hb
  simp (disch := first | (simp only [ne_eq, reduceCtorEq, not_false_eq_true, implies_true]; done) | omega) only [WS, St.guard, St.put, evalO, reduceCtorEq, reduceIte, Nat.reduceAdd, ld4, (v _).lenSlice]
  by_cases hgt : (x.d.length : Int) > 100
  · simp (disch := first | (simp only [ne_eq, reduceCtorEq, not_false_eq_true, implies_true]; done) | omega) only [WS, St.guard, St.put, evalO, reduceCtorEq, reduceIte, Nat.reduceAdd, hgt, decide_true]
    rw [WP_p (x := .bool true) (by exact awake7_spec H.toLeafFns) (by exact ⟨sBlk_good (lab _ _ _ _ (hat0.ref (by omega))), trivial⟩)]
    simp (disch := first | (simp only [ne_eq, reduceCtorEq, not_false_eq_true, implies_true]; done) | omega) only [WS, St.guard, St.put, evalO, reduceCtorEq, reduceIte, Nat.reduceAdd, fin_tmp, leave_v]
    simp
  simp (disch := first | (simp only [ne_eq, reduceCtorEq, not_false_eq_true, implies_true]; done) | omega) only [WS, St.guard, St.put, evalO, reduceCtorEq, reduceIte, Nat.reduceAdd, hgt, decide_false]
  cases any
  case' false =>
    simp (disch := first | (simp only [ne_eq, reduceCtorEq, not_false_eq_true, implies_true]; done) | omega) only [WS, St.guard, St.put, evalO, reduceCtorEq, reduceIte, Nat.reduceAdd, ld1]
    refine WP_slice (esz := 1) (len := (nearD x).d.length) (cells := (nearD x).d.map byteAV) (fun r => .agg ((nearD x).cells r)) (fun _ _ => rfl) (by exact near_spec H.near ((hat0.view rfl).into bytes_lfs)) (by exact ⟨sBlk_good (lab _ _ _ _ (hat0.ref (by omega))), trivial⟩) rfl fun b B0 hat => ?_
    simp (disch := first | (simp only [ne_eq, reduceCtorEq, not_false_eq_true, implies_true]; done) | omega) only [WS, St.guard, St.put, evalO, reduceCtorEq, reduceIte, Nat.reduceAdd, st1]
    have hl1 : (nearD x).d.length ≤ 100 := by rw [nearD_len]; have := Nat.mod_lt x.n.toNat (show 46 > 0 by omega); split <;> omega
    generalize nearD x = y at *
    generalize (AV.lf.lfs (x.cells a) && AV.lf.lfs (y.cells b)) = d
  case' true =>
    simp (disch := first | (simp only [ne_eq, reduceCtorEq, not_false_eq_true, implies_true]; done) | omega) only [WS, St.guard, St.put, evalO, reduceCtorEq, reduceIte, Nat.reduceAdd]
    have hat := hat0
    have hl1 : x.d.length ≤ 100 := by omega
    generalize (AV.lf.lfs (x.cells a)) = d
    obtain ⟨y, rfl⟩ : ∃ y, y = x := ⟨x, rfl⟩
    obtain ⟨b, rfl⟩ : ∃ b, b = a := ⟨a, rfl⟩
  all_goals
    simp (disch := first | (simp only [ne_eq, reduceCtorEq, not_false_eq_true, implies_true]; done) | omega) only [WS, St.guard, St.put, evalO, reduceCtorEq, reduceIte, Nat.reduceAdd, ld1]
    rw [alloc_s rfl]
    simp (disch := first | (simp only [ne_eq, reduceCtorEq, not_false_eq_true, implies_true]; done) | omega) only [WS, St.guard, St.put, evalO, reduceCtorEq, reduceIte, Nat.reduceAdd]
    refine (WR_eq (st3 _ _ _ _ _ _ _)).2 ?_
    simp (disch := first | (simp only [ne_eq, reduceCtorEq, not_false_eq_true, implies_true]; done) | omega) only [WS, St.guard, St.put, evalO, reduceCtorEq, reduceIte, Nat.reduceAdd, ld4]
    generalize AV.lf.lfs (y.cells b) = d3
    have hr71 : AV.v (.int .u8 71) = byteAV 71 := rfl
    have hb1 : ∀ k, 0 < k → b.labs.all (refLt 0 k) = true := fun k hk => hat.ref hk
    have gd0 : Good ⟨[], [_, some (sBlk (y.cells b) d), none, some (sBlk (y.cells b) d3), none, none]⟩ :=
      goodL_opt (fun B h => hat.good h) ⟨sBlk_good (lab _ _ _ _ (hb1 _ (by simp))), sBlk_good (lab _ _ _ _ (hb1 _ (by simp))), trivial⟩
    refine WP_one (by rw [hr71]; exact ownB H 71 ((hat.view rfl).into bytes_lfs) (by unfold room; omega)) gd0 rfl ?_
    simp (disch := first | (simp only [ne_eq, reduceCtorEq, not_false_eq_true, implies_true]; done) | omega) only [WS, St.guard, St.put, evalO, reduceCtorEq, reduceIte, Nat.reduceAdd]
    refine (WR_eq (st34 _ _ _ _ _ _ _ _ rfl)).2 ?_
    obtain ⟨o, ho⟩ : ∃ o, o = AV.own (.l 2) (y.d.length + 3) 0 y.d.length 1 (some (y.d.length + 3)) := ⟨_, rfl⟩
    obtain ⟨fs, hfs⟩ : ∃ fs, fs = y.d ++ [71, 71, 71] := ⟨_, rfl⟩
    rw [← ho, ← hfs]
    generalize (d3 && AV.lf.lfs [o]) = d4
    have ho1 : ∀ k, 2 < k → o.labs.all (refLt 0 k) = true := fun k hk => by rw [ho]; simp [AV.labs, refLt, hk]
    have gd1 : ∀ c4 c5 : Option Blk, (∀ B, c4 = some B → B.labs = []) → (∀ B, c5 = some B → B.labs = []) → Good ⟨[], [_, some (sBlk (y.cells b) d), some (dBlk (fs.map byteAV) false false), some (sBlk (y.cells o) d4), c4, c5]⟩ := fun c4 c5 h4 h5 =>
      goodL_opt (fun B h => hat.good h) ⟨sBlk_good (lab _ _ _ _ (hb1 _ (by simp))), dBlk_good, sBlk_good (lab _ _ _ _ (ho1 _ (by simp))), goodL_opt (fun B h => by rw [h4 B h]; rfl) (goodL_opt (fun B h => by rw [h5 B h]; rfl) trivial)⟩
    simp (disch := first | (simp only [ne_eq, reduceCtorEq, not_false_eq_true, implies_true]; done) | omega) only [WS, St.guard, St.put, evalO, reduceCtorEq, reduceIte, Nat.reduceAdd, ld3]
    have vo : ∀ (b0 b1 : Option Blk) T, View ⟨[], b0 :: b1 :: some (dBlk (fs.map byteAV) false false) :: T⟩ o 1 y.d.length (y.d.map byteAV) := fun b0 b1 T => by
      have := piece_view (G := []) (L := b0 :: b1 :: some (dBlk (fs.map byteAV) false false) :: T) (ℓ := .l 2) (n := y.d.length + 3) (off := 0) (len := y.d.length) (cap := some (y.d.length + 3)) rfl (by rw [hfs]; simp) (by omega) (by simp)
      rw [show (fs.drop 0).take y.d.length = y.d by rw [hfs]; simp] at this
      rw [ho]; exact this
    rw [WP_r (r := y.laid) (by exact Lay_spec H.toLeafLib ((vo _ _ _).into bytes_lfs)) laid_lf (gd1 none none (by simp) (by simp))]
    have hld : ∀ L, prim ⟨[], L⟩ (.extract 0) [y.laid] = some (.agg ((if y.right then y.bytes else zs64).map byteAV), ⟨[], L⟩) := fun L => by unfold LeafD.laid; split <;> rfl
    have hle : ∀ L, prim ⟨[], L⟩ (.extract 1) [y.laid] = some (.v (.int .i64 (if y.right then 0 else 2)), ⟨[], L⟩) := fun L => by unfold LeafD.laid; split <;> rfl
    obtain ⟨z, hz⟩ : ∃ z, z = if y.right then y.bytes else zs64 := ⟨_, rfl⟩
    have lzl : z.length = 64 := by rw [hz]; split; exact bytes_len (right_len (by assumption)).2; exact zs64_len
    have lzm : (z.map byteAV).length = 64 := by simp [lzl]
    rw [← hz] at hld
    simp (disch := first | (simp only [ne_eq, reduceCtorEq, not_false_eq_true, implies_true]; done) | omega) only [WS, St.guard, St.put, evalO, reduceCtorEq, reduceIte, Nat.reduceAdd]
    rw [hld]
    simp (disch := first | (simp only [ne_eq, reduceCtorEq, not_false_eq_true, implies_true]; done) | omega) only [WS, St.guard, St.put, evalO, reduceCtorEq, reduceIte, Nat.reduceAdd, hle]
    rw [alloc_zeros rfl]
    simp (disch := first | (simp only [ne_eq, reduceCtorEq, not_false_eq_true, implies_true]; done) | omega) only [WS, St.guard, St.put, evalO, reduceCtorEq, reduceIte, Nat.reduceAdd]
    rw [store_all (j := 4) rfl (by simp [zs64_len]) lzm bytes_lfs]
    simp (disch := first | (simp only [ne_eq, reduceCtorEq, not_false_eq_true, implies_true]; done) | omega) only [WS, St.guard, St.put, evalO, reduceCtorEq, reduceIte, Nat.reduceAdd, ld1]
    rw [WP_r (r := y.laid) (by exact RefLay_spec H.toLeafLib ((hat.view rfl).into bytes_lfs)) laid_lf (gd1 _ none (by intro B hB; cases hB; rfl) (by simp))]
    simp (disch := first | (simp only [ne_eq, reduceCtorEq, not_false_eq_true, implies_true]; done) | omega) only [WS, St.guard, St.put, evalO, reduceCtorEq, reduceIte, Nat.reduceAdd]
    rw [hld]
    simp (disch := first | (simp only [ne_eq, reduceCtorEq, not_false_eq_true, implies_true]; done) | omega) only [WS, St.guard, St.put, evalO, reduceCtorEq, reduceIte, Nat.reduceAdd, hle]
    rw [alloc_zeros rfl]
    simp (disch := first | (simp only [ne_eq, reduceCtorEq, not_false_eq_true, implies_true]; done) | omega) only [WS, St.guard, St.put, evalO, reduceCtorEq, reduceIte, Nat.reduceAdd]
    rw [store_all (j := 5) rfl (by simp [zs64_len]) lzm bytes_lfs]
    simp (disch := first | (simp only [ne_eq, reduceCtorEq, not_false_eq_true, implies_true]; done) | omega) only [WS, St.guard, St.put, evalO, reduceCtorEq, reduceIte, Nat.reduceAdd]
    have gd2 := gd1 (some (dBlk (z.map byteAV) false false)) (some (dBlk (z.map byteAV) false false)) (by intro B hB; cases hB; rfl) (by intro B hB; cases hB; rfl)
    rw [WP_p (x := .bool true) (by exact awake7_spec H.toLeafFns) gd2]
    simp (disch := first | (simp only [ne_eq, reduceCtorEq, not_false_eq_true, implies_true]; done) | omega) only [WS, St.guard, St.put, evalO, reduceCtorEq, reduceIte, Nat.reduceAdd, px_load_l, Option.join_some, loadB_all lzm, eq64 lzl lzl, ld34, ld4, decide_true]
    rw [WP_p (x := .bool true) (by rw [ho, hr71]; exact keptB H (p := 2) 71 (by rw [← hfs]; rfl) ((hat.view rfl).into bytes_lfs) (by omega)) gd2]
    simp (disch := first | (simp only [ne_eq, reduceCtorEq, not_false_eq_true, implies_true]; done) | omega) only [WS, St.guard, St.put, evalO, reduceCtorEq, reduceIte, Nat.reduceAdd, fin_tmp, leave_v]
    simp
end Go.AM

/- The laws of leaves: what is laid is taken as it was. -/
namespace Go.AM
variable {prog : String → Option IFn}

theorem leaf_lab {y : LeafD} {b : AV} {g k : Nat} (hb : b.labs.all (refLt g k) = true) : (AV.labs.labss (y.cells b)).all (refLt g k) = true := by
  simpa [LeafD.cells, AV.labs.labss, AV.labs] using hb
theorem nearD_len46 {x : LeafD} : (nearD x).d.length ≤ 46 := by
  rw [nearD_len]; have := Nat.mod_lt x.n.toNat (show 46 > 0 by omega); split <;> omega
theorem laid_right {y : LeafD} (h : y.right = true) : y.laid = .tup [.agg (y.bytes.map byteAV), .v (.int .i64 0)] := by unfold LeafD.laid; rw [if_pos h]
theorem leaf_box {L : List (Option Blk)} {j : Nat} {x : LeafD} {a : AV} (hL : L[j]? = some none) : prim ⟨[], L⟩ (.box j) [.agg (x.cells a)] = some (.ptr (.l j) 5 0, ⟨[], L.set j (some (sBlk (x.cells a) (AV.lf.lfs (x.cells a))))⟩) := box_s hL
theorem leaf_store {L : List (Option Blk)} {j : Nat} {z : LeafD} {c : AV} {cells : List AV} {d : Bool} (hL : L[j]? = some (some (sBlk cells d))) (hc : cells.length = 5) :
    prim ⟨[], L⟩ (.store 5 false) [.ptr (.l j) 5 0, .agg (z.cells c)] = some (.v undef, ⟨[], L.set j (some (sBlk (z.cells c) (d && AV.lf.lfs (z.cells c))))⟩) := by
  have := store_s (G := []) (L := L) (cells := cells) (d := d) (j := j) (n := 5) (off := 0) (sz := 5) (x := .agg (z.cells c)) (xs := z.cells c) hL rfl hc rfl (by omega)
  rw [this]
  have e : lay cells 0 (z.cells c) = z.cells c := by
    unfold lay
    rw [List.take_zero, List.nil_append, Nat.zero_add, List.drop_of_length_le (by rw [hc]; simp [LeafD.cells]), List.append_nil]
  rw [e]

theorem LeafBack_law (H : NearFns prog) (hp : prog "haberdash/haberdashlaw07.LeafBack" = some f_law07_LeafBack) {as} (h : IsAll [leafTy] as) :
    ∃ G2, Ev prog (.call "haberdash/haberdashlaw07.LeafBack" as []) (.ret (.v (.bool true)) G2) := by
  rcases as with _ | ⟨a0, _ | _⟩ <;> try (simp [IsAll] at h; done)
  obtain ⟨⟨c0', h0, rfl⟩, _⟩ := h
  obtain ⟨a, x, rfl, v, hl⟩ := is_leaf h0
  refine ⟨[], call_of_fin hp ?_⟩
  have hat0 : SliceAt 0 a none 1 x.d.length (x.d.map byteAV) := sliceAt_any v
  simp only [f_law07_LeafBack_B, enter, List.length_cons, List.length_nil, List.replicate, Nat.reduceAdd, Nat.reduceSub, List.cons_append, List.nil_append, Ty.arg]
  simp (disch := first | (simp only [ne_eq, reduceCtorEq, not_false_eq_true, implies_true]; done) | omega) only [WS, St.guard, St.put, evalO, reduceCtorEq, reduceIte, Nat.reduceAdd]
  rw [leaf_box rfl]
  have ld1 : ∀ (y : LeafD) (b : AV) (b0 : Option Blk) d L, prim ⟨[], b0 :: some (sBlk (y.cells b) d) :: L⟩ (.load 5 true) [.ptr (.l 1) 5 0] = some (.agg (y.cells b), ⟨[], b0 :: some (sBlk (y.cells b) d) :: L⟩) := fun _ _ _ _ _ => rfl
  have ld10 : ∀ (y : LeafD) (b : AV) (b0 : Option Blk) d L, prim ⟨[], b0 :: some (sBlk (y.cells b) d) :: L⟩ (.load 1 false) [.ptr (.l 1) 5 0] = some (.v (u32 y.e), ⟨[], b0 :: some (sBlk (y.cells b) d) :: L⟩) := fun _ _ _ _ _ => rfl
  have ld4 : ∀ (y : LeafD) (b : AV) (b0 b1 b2 b3 : Option Blk) d L, prim ⟨[], b0 :: b1 :: b2 :: b3 :: some (sBlk (y.cells b) d) :: L⟩ (.load 5 true) [.ptr (.l 4) 5 0] = some (.agg (y.cells b), ⟨[], b0 :: b1 :: b2 :: b3 :: some (sBlk (y.cells b) d) :: L⟩) := fun _ _ _ _ _ _ _ _ => rfl
  simp (disch := first | (simp only [ne_eq, reduceCtorEq, not_false_eq_true, implies_true]; done) | omega) only [WS, St.guard, St.put, evalO, reduceCtorEq, reduceIte, Nat.reduceAdd, ld1]
  refine WP_slice (esz := 1) (len := (nearD x).d.length) (cells := (nearD x).d.map byteAV) (fun r => .agg ((nearD x).cells r)) (fun _ _ => rfl) (by exact near_spec H.near ((hat0.view rfl).into bytes_lfs)) (by exact ⟨sBlk_good (leaf_lab (hat0.ref (by omega))), trivial⟩) rfl fun b B0 hat => ?_
  simp (disch := first | (simp only [ne_eq, reduceCtorEq, not_false_eq_true, implies_true]; done) | omega) only [WS, St.guard, St.put, evalO, reduceCtorEq, reduceIte, Nat.reduceAdd]
  refine (WR_eq (leaf_store (d := AV.lf.lfs (x.cells a)) (cells := x.cells a) rfl rfl)).2 ?_
  have hl1 := nearD_len46 (x := x)
  have hR := nearD_right (x := x)
  generalize nearD x = y at *
  generalize (AV.lf.lfs (x.cells a) && AV.lf.lfs (y.cells b)) = d
  obtain ⟨z, hz⟩ : ∃ z, z = y.bytes := ⟨_, rfl⟩
  have lzl : z.length = 64 := by rw [hz]; exact bytes_len hl1
  have lzm : (z.map byteAV).length = 64 := by simp [lzl]
  have hlaid := laid_right hR
  rw [← hz] at hlaid
  have hb1 : ∀ k, 0 < k → b.labs.all (refLt 0 k) = true := fun k hk => hat.ref hk
  simp (disch := first | (simp only [ne_eq, reduceCtorEq, not_false_eq_true, implies_true]; done) | omega) only [WS, St.guard, St.put, evalO, reduceCtorEq, reduceIte, Nat.reduceAdd, ld1]
  rw [WP_r (r := y.laid) (by exact Lay_spec H.toLeafLib ((hat.view rfl).into bytes_lfs)) laid_lf (by exact goodL_opt (fun B h => hat.good h) ⟨sBlk_good (leaf_lab (hb1 _ (by simp))), trivial⟩), hlaid]
  simp (disch := first | (simp only [ne_eq, reduceCtorEq, not_false_eq_true, implies_true]; done) | omega) only [WS, St.guard, St.put, evalO, reduceCtorEq, reduceIte, Nat.reduceAdd]
  rw [alloc_zeros rfl]
  simp (disch := first | (simp only [ne_eq, reduceCtorEq, not_false_eq_true, implies_true]; done) | omega) only [WS, St.guard, St.put, evalO, reduceCtorEq, reduceIte, Nat.reduceAdd]
  rw [store_all (j := 2) rfl (by simp [zs64_len]) lzm bytes_lfs]
  simp (disch := first | (simp only [ne_eq, reduceCtorEq, not_false_eq_true, implies_true]; done) | omega) only [WS, St.guard, St.put, evalO, reduceCtorEq, reduceIte, Nat.reduceAdd, px_load_l, Option.join_some, loadB_all lzm]
  have ht := fun G => Take_spec (prog := prog) H.toTakeLib (G := G) lzl
  have hX : takeX z = y := by rw [hz]; exact takeX_bytes hR
  have hOK : takeOK z = true := by rw [hz]; exact takeOK_bytes hR
  rw [hX, hOK] at ht
  refine WP_slice (esz := 1) (len := y.d.length) (cells := y.d.map byteAV) (fun r => .tup [.agg (y.cells r), .v (.bool true)]) (fun _ _ => rfl) (by rw [List.map_cons, ren_bytes]; exact ht _) (by exact goodL_opt (fun B h => hat.good h) ⟨sBlk_good (leaf_lab (hb1 _ (by simp))), dBlk_good, trivial⟩) rfl fun c B3 hat3 => ?_
  simp (disch := first | (simp only [ne_eq, reduceCtorEq, not_false_eq_true, implies_true]; done) | omega) only [WS, St.guard, St.put, evalO, reduceCtorEq, reduceIte, Nat.reduceAdd, px_extract]
  rw [alloc_s rfl]
  simp (disch := first | (simp only [ne_eq, reduceCtorEq, not_false_eq_true, implies_true]; done) | omega) only [WS, St.guard, St.put, evalO, reduceCtorEq, reduceIte, Nat.reduceAdd]
  refine (WR_eq (leaf_store (d := true) (cells := noLeaf) rfl rfl)).2 ?_
  generalize (true && AV.lf.lfs (y.cells c)) = d4
  have gd : Good ⟨[], [B0, some (sBlk (y.cells b) d), some (dBlk (z.map byteAV) false false), B3, some (sBlk (y.cells c) d4)]⟩ :=
    goodL_opt (fun B h => hat.good h) ⟨sBlk_good (leaf_lab (hb1 _ (by simp))), dBlk_good, goodL_opt (fun B h => hat3.good h) ⟨sBlk_good (leaf_lab (hat3.ref (by simp))), trivial⟩⟩
  simp (disch := first | (simp only [ne_eq, reduceCtorEq, not_false_eq_true, implies_true]; done) | omega) only [WS, St.guard, St.put, evalO, reduceCtorEq, reduceIte, Nat.reduceAdd]
  refine WDP_r (r := .v (.bool true)) (fun X _ => awake7_spec H.toLeafFns) rfl gd ?_
  simp (disch := first | (simp only [ne_eq, reduceCtorEq, not_false_eq_true, implies_true]; done) | omega) only [WS, St.guard, St.put, evalO, reduceCtorEq, reduceIte, Nat.reduceAdd, ld1, ld4, show ((0 : Int) == 0) = true from rfl]
  refine WDP_r (r := .v (.bool (leafEq y y))) (fun X _ => by exact LeafEq_spec H.leq H.bytes ((hat.view rfl).into bytes_lfs) ((hat3.view rfl).into bytes_lfs)) rfl gd ?_
  simp (disch := first | (simp only [ne_eq, reduceCtorEq, not_false_eq_true, implies_true]; done) | omega) only [WS, St.guard, St.put, evalO, reduceCtorEq, reduceIte, Nat.reduceAdd, leafEq_iff.2 rfl, px_load_l, Option.join_some, loadB_all lzm]
  refine WDP_r (r := .v (u32 y.e)) (fun X _ => by rw [List.map_cons, ren_bytes, ← mark_bytes hl1, ← hz]; exact Mark_spec H.mark H.get lzl) rfl gd ?_
  simp (disch := first | (simp only [ne_eq, reduceCtorEq, not_false_eq_true, implies_true]; done) | omega) only [WS, St.guard, St.put, evalO, reduceCtorEq, reduceIte, Nat.reduceAdd, ld10, fin_tmp, leave_v]
  simp
end Go.AM

/- The laws of leaves: bits turned. -/
namespace Go.AM
variable {prog : String → Option IFn}

theorem flips_app {A C : List UInt8} {p : Nat} {w : BitVec 32} : ∀ i, p + i ≤ 8 * A.length → flips (A ++ C) p w i = flips A p w i ++ C
  | 0, _ => rfl
  | i + 1, h => by
    have ih := flips_app (A := A) (C := C) (p := p) (w := w) i (by omega)
    have hl := flips_len (bs := A) (p := p) (w := w) i
    unfold flips
    rw [ih]
    split
    · rw [List.set_append_left _ _ (by omega)]
      congr 2
      simp only [List.getD_eq_getElem?_getD]
      rw [List.getElem?_append_left (by omega)]
    · rfl

theorem flips_zero {A : List UInt8} {p : Nat} : ∀ i, flips A p 0#32 i = A
  | 0 => rfl
  | i + 1 => by unfold flips; rw [flips_zero i]; simp

theorem be4_inj {u v : BitVec 32} (h : be4 u = be4 v) : u = v := by
  have h1 := get4_at [] [] u 0 rfl
  have h2 := get4_at [] [] v 0 rfl
  rw [h] at h1
  exact h1.symm.trans h2

/-- Within what is summed, whatever is turned is seen. -/
theorem take_flips {y : LeafD} (hR : y.right = true) {p : Nat} {w : BitVec 32} (hp : p + 32 ≤ 448) : takeOK (flips y.bytes p w 32) = (w == 0#32) := by
  have hl := (right_len hR).2
  have hf := front_len hl
  have hb := bytes_eq hl
  have e : flips y.bytes p w 32 = flips y.front p w 32 ++ (be4 y.sum ++ be4 y.e) := by rw [hb, flips_app 32 (by omega)]
  rw [Bool.eq_iff_iff, beq_iff_eq]
  constructor
  · intro h
    obtain ⟨x, hx, hxb⟩ := takeOK_iff.1 h
    rw [e, bytes_eq (right_len hx).2] at hxb
    obtain ⟨h1, h2⟩ := List.append_inj hxb (by rw [flips_len, hf, front_len (right_len hx).2])
    obtain ⟨h3, h4⟩ := List.append_inj h2 rfl
    have h5 := be4_inj h3
    have : y.sum = crcMore 0#32 (flips y.front p w 32) := by rw [h5, h1]; rfl
    exact (crc_flips (bs := y.front) (p := p) (by omega)).1 this
  · intro h
    rw [h, flips_zero]
    exact takeOK_bytes hR

theorem LeafTurned_law (H : NearFns prog) (hp : prog "haberdash/haberdashlaw07.LeafTurned" = some f_law07_LeafTurned) {as} (h : IsAll [leafTy, (.int .i64), (.int .u32)] as) :
    ∃ G2, Ev prog (.call "haberdash/haberdashlaw07.LeafTurned" as []) (.ret (.v (.bool true)) G2) := by
  rcases as with _ | ⟨a0, _ | ⟨a1, _ | ⟨a2, _ | _⟩⟩⟩ <;> try (simp [IsAll] at h; done)
  obtain ⟨⟨c0', h0, rfl⟩, ⟨c1', h1, rfl⟩, ⟨c2', h2, rfl⟩, _⟩ := h
  obtain ⟨a, x, rfl, v, hl⟩ := is_leaf h0
  obtain ⟨c, rfl, hc⟩ := is_i64 h1
  obtain ⟨w, rfl⟩ := is_u32 h2
  refine ⟨[], call_of_fin hp ?_⟩
  have hat0 : SliceAt 0 a none 1 x.d.length (x.d.map byteAV) := sliceAt_any v
  simp only [f_law07_LeafTurned_B, enter, List.length_cons, List.length_nil, List.replicate, Nat.reduceAdd, Nat.reduceSub, List.cons_append, List.nil_append, Ty.arg, intAV]
  simp (disch := first | (simp only [ne_eq, reduceCtorEq, not_false_eq_true, implies_true]; done) | omega) only [WS, St.guard, St.put, evalO, reduceCtorEq, reduceIte, Nat.reduceAdd]
  rw [leaf_box rfl]
  have ld0 : ∀ (y : LeafD) (b : AV) d L, prim ⟨[], some (sBlk (y.cells b) d) :: L⟩ (.load 5 true) [.ptr (.l 0) 5 0] = some (.agg (y.cells b), ⟨[], some (sBlk (y.cells b) d) :: L⟩) := fun _ _ _ _ => rfl
  have v0 : ∀ L, View ⟨[], L⟩ a 1 x.d.length (x.d.map byteAV) := fun L => v _
  simp (disch := first | (simp only [ne_eq, reduceCtorEq, not_false_eq_true, implies_true]; done) | omega) only [WS, St.guard, St.put, evalO, reduceCtorEq, reduceIte, Nat.reduceAdd, ld0]
  obtain ⟨d, hd⟩ : ∃ d, d = AV.lf.lfs (x.cells a) := ⟨_, rfl⟩
  rw [← hd]
  have ga : ∀ k, (AV.labs.labss (x.cells a)).all (refLt 0 k) = true := fun k => leaf_lab (by
    have : a.labs = [] := by
      cases hla : a.labs with
      | nil => rfl
      | cons l ls =>
        have h5 := (sliceAt_any (site := 5) v).labs l (by rw [hla]; simp)
        have h6 := (sliceAt_any (site := 6) v).labs l (by rw [hla]; simp)
        rw [h5] at h6; cases h6
    rw [this]; rfl)
  refine WP_slice (esz := 1) (len := (nearD x).d.length) (cells := (nearD x).d.map byteAV) (fun r => .agg ((nearD x).cells r)) (fun _ _ => rfl) (by exact near_spec H.near ((v0 _).into bytes_lfs)) (by exact ⟨sBlk_good (ga _), trivial⟩) rfl fun b B1 hat => ?_
  simp (disch := first | (simp only [ne_eq, reduceCtorEq, not_false_eq_true, implies_true]; done) | omega) only [WS, St.guard, St.put, evalO, reduceCtorEq, reduceIte, Nat.reduceAdd]
  have hl1 := nearD_len46 (x := x)
  have hR := nearD_right (x := x)
  generalize nearD x = y at *
  obtain ⟨z, hz⟩ : ∃ z, z = y.bytes := ⟨_, rfl⟩
  have lzl : z.length = 64 := by rw [hz]; exact bytes_len hl1
  have lzm : (z.map byteAV).length = 64 := by simp [lzl]
  have hlaid := laid_right hR
  rw [← hz] at hlaid
  rw [WP_r (r := y.laid) (by exact Lay_spec H.toLeafLib ((hat.view rfl).into bytes_lfs)) laid_lf (by exact ⟨sBlk_good (ga _), goodL_opt (fun B h => hat.good h) trivial⟩), hlaid]
  simp (disch := first | (simp only [ne_eq, reduceCtorEq, not_false_eq_true, implies_true]; done) | omega) only [WS, St.guard, St.put, evalO, reduceCtorEq, reduceIte, Nat.reduceAdd]
  rw [alloc_zeros rfl]
  simp (disch := first | (simp only [ne_eq, reduceCtorEq, not_false_eq_true, implies_true]; done) | omega) only [WS, St.guard, St.put, evalO, reduceCtorEq, reduceIte, Nat.reduceAdd]
  rw [store_all (j := 2) rfl (by simp [zs64_len]) lzm bytes_lfs]
  simp (disch := first | (simp only [ne_eq, reduceCtorEq, not_false_eq_true, implies_true]; done) | omega) only [WS, St.guard, St.put, evalO, reduceCtorEq, reduceIte, Nat.reduceAdd]
  rw [WP_p (x := .bool true) (by exact awake7_spec H.toLeafFns) (by exact ⟨sBlk_good (ga _), goodL_opt (fun B h => hat.good h) ⟨dBlk_good, trivial⟩⟩)]
  simp (disch := first | (simp only [ne_eq, reduceCtorEq, not_false_eq_true, implies_true]; done) | omega) only [WS, St.guard, St.put, evalO, reduceCtorEq, reduceIte, Nat.reduceAdd, show ((0 : Int) != 0) = false from rfl]
  rw [vRem_u64_lit (z := 417) 417 rfl (by omega)]
  have hm := umod_lt (c := c) (n := 417) (by omega)
  generalize umod c 417 = p at *
  simp (disch := first | (simp only [ne_eq, reduceCtorEq, not_false_eq_true, implies_true]; done) | omega) only [WS, St.guard, St.put, evalO, reduceCtorEq, reduceIte, Nat.reduceAdd, wrap_i64_nat]
  refine WC_count (fun i => ⟨f_law07_LeafTurned_H0 (.v (.int .i64 (p : Nat))) (.v (u32 w)) (.ptr (.l 2) 64 0) (.v (.int .i64 (i : Nat))), ⟨[], [some (sBlk (x.cells a) d), B1, some (dBlk ((flips z p w i).map byteAV) false false), none, none]⟩⟩) 32 ?_ (fun i hi => ?_) ?_
  · simp only [clear_nil, List.foldl_cons, List.foldl_nil, Option.some.injEq, List.map_cons, List.map_nil, List.getD_cons_zero, List.getD_cons_succ, List.set_cons_zero, List.set_cons_succ, Option.map_some, Option.bind_some, ne_eq, reduceCtorEq, not_false_eq_true, implies_true, beq_self_eq_true, BEq.rfl, if_true, if_false, Bool.false_eq_true, not_true_eq_false, Option.some.injEq, reduceIte, Bool.not_true, Bool.not_false, beq_true, beq_false, Bool.true_and, Bool.and_true, Bool.false_and, Bool.and_false, true_and, List.getElem?_cons_zero, List.getElem?_cons_succ, List.length_cons, List.length_nil, Nat.reduceAdd]; rfl
  · have hlt' : (i : Int) < 32 := by omega
    simp (disch := first | (simp only [ne_eq, reduceCtorEq, not_false_eq_true, implies_true]; done) | omega) only [f_law07_LeafTurned_L0, f_law07_LeafTurned_H0, WS, St.guard, St.put, evalO, reduceCtorEq, reduceIte, Nat.reduceAdd, hlt', decide_true, wrap_u64_of, c1, bit_cond]
    have hlen := flips_len (bs := z) (p := p) (w := w) i
    by_cases hw : w.getLsbD i = true
    · have hq : (p + i) / 8 < 64 := by omega
      have e : (p : Int) + (i : Int) = ((p + i : Nat) : Int) := by omega
      simp (disch := first | (simp only [ne_eq, reduceCtorEq, not_false_eq_true, implies_true]; done) | omega) only [hw, WS, St.guard, St.put, evalO, reduceCtorEq, reduceIte, Nat.reduceAdd, vBin_add_i64, e]
      rw [vBin_quo_i64 (z := 8) 8 rfl (by omega) (by omega)]
      simp (disch := first | (simp only [ne_eq, reduceCtorEq, not_false_eq_true, implies_true]; done) | omega) only [WS, St.guard, St.put, evalO, reduceCtorEq, reduceIte, Nat.reduceAdd, px_indexArr, natOf_nat, hq, Nat.zero_add, Nat.mul_one, px_load_l, Option.join_some, loadB_byte (hlen.trans lzl) hq, vBin_add_i64, e]
      rw [vBin_rem_i64 (z := 8) 8 rfl (by omega)]
      simp (disch := first | (simp only [ne_eq, reduceCtorEq, not_false_eq_true, implies_true]; done) | omega) only [WS, St.guard, St.put, evalO, reduceCtorEq, reduceIte, Nat.reduceAdd, wrap_u64_of, vBin_shl_1_u8, byteAV_u8, px_indexArr, natOf_nat, hq, Nat.zero_add, Nat.mul_one]
      rw [store_byte (j := 2) rfl (hlen.trans lzl) hq]
      simp (disch := first | (simp only [ne_eq, reduceCtorEq, not_false_eq_true, implies_true]; done) | omega) only [WS, St.guard, St.put, evalO, reduceCtorEq, reduceIte, Nat.reduceAdd, vBin_add_i64, clear_nil, List.foldl_cons, List.foldl_nil, Option.some.injEq, List.set_cons_zero]
      rw [flips, if_pos hw]
      rfl
    · simp (disch := first | (simp only [ne_eq, reduceCtorEq, not_false_eq_true, implies_true]; done) | omega) only [hw, WS, St.guard, St.put, evalO, reduceCtorEq, reduceIte, Nat.reduceAdd, vBin_add_i64, clear_nil, List.foldl_cons, List.foldl_nil, Option.some.injEq]
      rw [flips, if_neg hw]
      rfl
  · simp (disch := first | (simp only [ne_eq, reduceCtorEq, not_false_eq_true, implies_true]; done) | omega) only [f_law07_LeafTurned_L0, f_law07_LeafTurned_H0, WS, St.guard, St.put, evalO, reduceCtorEq, reduceIte, Nat.reduceAdd, decide_false]
    have hOK : takeOK (flips z p w 32) = (w == 0#32) := by rw [hz]; exact take_flips hR (by omega)
    have hlen := flips_len (bs := z) (p := p) (w := w) 32
    obtain ⟨f, hf⟩ : ∃ f, f = flips z p w 32 := ⟨_, rfl⟩
    rw [← hf] at hOK hlen
    rw [← hf]
    have lfl : f.length = 64 := hlen.trans lzl
    have lfm : (f.map byteAV).length = 64 := by simp [lfl]
    simp (disch := first | (simp only [ne_eq, reduceCtorEq, not_false_eq_true, implies_true]; done) | omega) only [WS, St.guard, St.put, evalO, reduceCtorEq, reduceIte, Nat.reduceAdd, px_load_l, Option.join_some, loadB_all lfm]
    have ht := fun G => Take_spec (prog := prog) H.toTakeLib (G := G) lfl
    refine WP_slice (esz := 1) (len := (takeX f).d.length) (cells := (takeX f).d.map byteAV) (fun r => .tup [.agg ((takeX f).cells r), .v (.bool (takeOK f))]) (fun _ _ => rfl) (by rw [List.map_cons, ren_bytes]; exact ht _) (by exact ⟨sBlk_good (ga _), goodL_opt (fun B h => hat.good h) ⟨dBlk_good, trivial⟩⟩) rfl fun c B3 hat3 => ?_
    simp (disch := first | (simp only [ne_eq, reduceCtorEq, not_false_eq_true, implies_true]; done) | omega) only [WS, St.guard, St.put, evalO, reduceCtorEq, reduceIte, Nat.reduceAdd, px_extract]
    rw [alloc_s rfl]
    simp (disch := first | (simp only [ne_eq, reduceCtorEq, not_false_eq_true, implies_true]; done) | omega) only [WS, St.guard, St.put, evalO, reduceCtorEq, reduceIte, Nat.reduceAdd]
    refine (WR_eq (leaf_store (d := true) (cells := noLeaf) rfl rfl)).2 ?_
    simp (disch := first | (simp only [ne_eq, reduceCtorEq, not_false_eq_true, implies_true]; done) | omega) only [WS, St.guard, St.put, evalO, reduceCtorEq, reduceIte, Nat.reduceAdd, hOK, c0, fin_tmp, leave_v]
    simp
end Go.AM

/- The laws of leaves: a beginning of one over the end of another. -/
namespace Go.AM
variable {prog : String → Option IFn}

theorem quiet_set {h : Hp} {j : Nat} {b : Option Blk} {m : List Nat} (hm : j ∈ m) : Quiet m h ⟨h.G, h.L.set j b⟩ := by
  simp only [Quiet]
  refine Hp.over_ext rfl fun i => ?_
  simp only [Hp.over, over_get]
  split
  · rename_i hi
    rw [List.getElem?_eq_getElem (by simpa using hi.2)]; rfl
  · rename_i hi
    rw [List.getElem?_set]
    split
    · rename_i hji
      subst hji
      split
      · rename_i hlt; exact absurd ⟨hm, hlt⟩ hi
      · rename_i hlt; rw [List.getElem?_eq_none (by omega)]
    · rfl

theorem Good.setO {h : Hp} (hg : Good h) {j : Nat} {b : Option Blk} (hb : ∀ B, b = some B → B.labs = []) : Good ⟨h.G, h.L.set j b⟩ := by
  rw [Good, goodL_iff]
  intro k B hk
  rw [Nat.zero_add]
  simp only [List.getElem?_set] at hk
  split at hk
  · split at hk
    · simp only [Option.some.injEq] at hk; rw [hb B hk]; rfl
    · cases hk
  · exact hg.at hk

/-- A call in a draw that hands back a slice of data, with other data about it. -/
theorem WDP_sliceC {f xs dst l site m ld} {k : List Kf} {s : St} {Q : Out → St → Prop} {esz len cells} (C : AV → AV) (hC : ∀ ρ a, (C a).ren ρ = C (a.ren ρ))
    (hs : ∃ r Bs, Ev prog (.call f (xs.map (AV.ren (up s.h.G.length))) s.h.into) (.ret (C r) (s.h.into ++ Bs)) ∧ RetSlice s.h.into r Bs esz len cells)
    (hg : Good s.h) (hf : s.h.L[site]? = some none) (hQ : ∀ a B, SliceAt site a B esz len cells → WD prog l k (({ s with h := ⟨s.h.G, s.h.L.set site B⟩ } : St).put dst (C a)) Q) :
    WDP prog (.call f [site]) xs [] m ld dst l k s Q := by
  obtain ⟨r, Bs, he, hr⟩ := hs
  have hlen : Bs.length ≤ 1 := by rcases hr.one with rfl | ⟨b, rfl, _⟩ <;> simp
  obtain ⟨B, hB, hat⟩ := retSlice_at (site := site) hr
  have hback := back_into (h := s.h) (h' := s.h) (sites := [site]) (Bs := Bs) (r := C r) rfl rfl hg.refsOK (by simpa using hlen) (by simp) (by simp [free_of_get hf]) (by simp [free_of_get hf])
  simp only [List.length_singleton, hB, putAll, hC] at hback
  have hg' := hg.setO (j := site) (b := B) hat.data
  refine ⟨C (r.ren (down s.h.G.length s.h.L.length [site])), ⟨s.h.G, s.h.L.set site B⟩, fun X hX => .opCall hg.okBlks he hback, ?_, .inr ⟨quiet_set (by simp [Prim.sites]), ?_⟩, by simp, hQ _ _ hat⟩
  · simpa [Prim.sites] using hg.okAt (u := site :: m)
  · simpa [Prim.sites] using hg'.okAt (u := site :: m)

theorem WDP_good {p : Prim} {xs m ld dst l} {k : List Kf} {s : St} {Q : Out → St → Prop} {a : AV} {h' : Hp} (hr : prim s.h p xs = some (a, h')) (hg : Good s.h) (hg' : Good h') (hG : h'.G = s.h.G)
    (hq : Quiet (p.sites ++ m) s.h h') (h : WD prog l k (({ s with h := h' } : St).put dst a) Q) : WDP prog p xs [] m ld dst l k s Q :=
  WDP_turn hr hg.okAt hq (by have := hg'.okAt (u := p.sites ++ m); rwa [hG] at this) h

/-! ### The law in plain -/
theorem bytes_head {x : LeafD} (h : x.d.length ≤ 46) : x.bytes.take 4 = be4 x.e := by
  rw [bytes_eq h]; rfl
theorem bytes_tail {x : LeafD} (h : x.d.length ≤ 46) : x.bytes.drop 60 = be4 x.e := by
  rw [bytes_eq h, ← List.append_assoc, List.drop_append, List.drop_of_length_le (by simp [front_len h, be4_len])]
  have : (x.front ++ be4 x.sum).length = 60 := by simp [front_len h, be4_len]
  rw [this]; rfl
theorem right_e {x : LeafD} (h : x.right = true) : x.e ≠ 0#32 := by
  simp only [LeafD.right, Bool.and_eq_true, bne_iff_ne] at h; exact h.1

theorem zs64_tail : zs64.drop 60 = be4 0#32 := by decide

theorem torn {y : LeafD} (hy : y.right = true) {z : List UInt8} (lz : z.length = 64) (hz : z = zs64 ∨ ∃ y2 : LeafD, y2.right = true ∧ z = y2.bytes ∧ y.e ≠ y2.e) {c : Nat} (hc : c ≤ 64) (hok : takeOK (y.bytes.take c ++ z.drop c) = true) :
    y.bytes.take c ++ z.drop c = y.bytes ∨ y.bytes.take c ++ z.drop c = z := by
  obtain ⟨x, hx, hm⟩ := takeOK_iff.1 hok
  have ly := (right_len hy).2
  have lx := (right_len hx).2
  have lb := bytes_len ly
  have hhead := bytes_head lx
  have htail := bytes_tail lx
  rw [← hm] at hhead htail
  have hlt : (y.bytes.take c).length = c := by simp [lb]; omega
  have b0 : be4 0#32 = [0, 0, 0, 0] := rfl
  have ztail : z.drop 60 = be4 0#32 ∨ ∃ e, z.drop 60 = be4 e ∧ z.take 4 = be4 e ∧ y.e ≠ e := by
    rcases hz with h0 | ⟨y2, h2, h3, hne⟩
    · exact .inl (by rw [h0]; exact zs64_tail)
    · exact .inr ⟨y2.e, by rw [h3]; exact bytes_tail (right_len h2).2, by rw [h3]; exact bytes_head (right_len h2).2, hne⟩
  by_cases h60 : c ≤ 60
  · -- the end is the elder one's
    have ht2 : (y.bytes.take c ++ z.drop c).drop 60 = z.drop 60 := by
      rw [List.drop_append, hlt, List.drop_of_length_le (by omega), List.nil_append, List.drop_drop]
      exact congrArg (fun n => List.drop n z) (by omega)
    rw [ht2] at htail
    rcases ztail with h0 | ⟨e, h1, h2, hne⟩
    · rw [h0] at htail
      exact absurd (be4_inj htail).symm (right_e hx)
    · rw [h1] at htail
      have he : e = x.e := be4_inj htail
      by_cases h4 : 4 ≤ c
      · have hh2 : (y.bytes.take c ++ z.drop c).take 4 = y.bytes.take 4 := by
          rw [List.take_append_of_le_length (by omega), List.take_take, Nat.min_eq_left h4]
        rw [hh2, bytes_head ly] at hhead
        exact absurd ((be4_inj hhead).trans he.symm) hne
      · right
        have a1 : (y.bytes.take c ++ z.drop c).take 4 = z.take 4 := by rw [hhead, h2, he]
        have a2 : (y.bytes.take c ++ z.drop c).drop 4 = z.drop 4 := by
          rw [List.drop_append, hlt, List.drop_of_length_le (by omega), List.nil_append, List.drop_drop]
          exact congrArg (fun n => List.drop n z) (by omega)
        rw [← List.take_append_drop 4 (y.bytes.take c ++ z.drop c), a1, a2, List.take_append_drop]
  · left
    have hh2 : (y.bytes.take c ++ z.drop c).take 4 = y.bytes.take 4 := by
      rw [List.take_append_of_le_length (by omega), List.take_take, Nat.min_eq_left (by omega)]
    rw [hh2, bytes_head ly] at hhead
    have he : y.e = x.e := be4_inj hhead
    have a1 : (y.bytes.take c ++ z.drop c).take 60 = y.bytes.take 60 := by
      rw [List.take_append_of_le_length (by omega), List.take_take, Nat.min_eq_left (by omega)]
    have a2 : (y.bytes.take c ++ z.drop c).drop 60 = y.bytes.drop 60 := by rw [htail, bytes_tail ly, he]
    rw [← List.take_append_drop 60 (y.bytes.take c ++ z.drop c), a1, a2, List.take_append_drop]

theorem zs64_bad : takeOK zs64 = false := by
  cases h : takeOK zs64 with
  | false => rfl
  | true =>
    obtain ⟨x, hx, hm⟩ := takeOK_iff.1 h
    have := bytes_tail (right_len hx).2
    rw [← hm, zs64_tail] at this
    exact absurd (be4_inj this).symm (right_e hx)

theorem sliceAt_val {a esz len cells} {site : Nat} (v : ∀ h, View h a esz len cells) : a.labs = [] := by
  cases hla : a.labs with
  | nil => rfl
  | cons l ls =>
    have h5 := (sliceAt_any (site := 5) v).labs l (by rw [hla]; simp)
    have h6 := (sliceAt_any (site := 6) v).labs l (by rw [hla]; simp)
    rw [h5] at h6; cases h6

theorem LeafTorn_law (H : NearFns prog) (hp : prog "haberdash/haberdashlaw07.LeafTorn" = some f_law07_LeafTorn) {as} (h : IsAll [leafTy, leafTy, (.int .i64), .bool] as) :
    ∃ G2, Ev prog (.call "haberdash/haberdashlaw07.LeafTorn" as []) (.ret (.v (.bool true)) G2) := by
  rcases as with _ | ⟨a0, _ | ⟨a1, _ | ⟨a2, _ | ⟨a3, _ | _⟩⟩⟩⟩ <;> try (simp [IsAll] at h; done)
  obtain ⟨⟨c0', h0, rfl⟩, ⟨c1', h1, rfl⟩, ⟨c2', h2, rfl⟩, ⟨c3', h3, rfl⟩, _⟩ := h
  obtain ⟨a, x, rfl, v, hl⟩ := is_leaf h0
  obtain ⟨b, x2, rfl, v2, hl2⟩ := is_leaf h1
  obtain ⟨c, rfl, hc⟩ := is_i64 h2
  obtain ⟨nb, rfl⟩ := h3
  refine ⟨[], call_of_fin hp ?_⟩
  simp only [f_law07_LeafTorn_B, enter, List.length_cons, List.length_nil, List.replicate, Nat.reduceAdd, Nat.reduceSub, List.cons_append, List.nil_append, Ty.arg, intAV]
  have ld1 : ∀ (y : LeafD) (b : AV) (b0 : Option Blk) d L, prim ⟨[], b0 :: some (sBlk (y.cells b) d) :: L⟩ (.load 5 true) [.ptr (.l 1) 5 0] = some (.agg (y.cells b), ⟨[], b0 :: some (sBlk (y.cells b) d) :: L⟩) := fun _ _ _ _ _ => rfl
  have ld10 : ∀ (y : LeafD) (b : AV) (b0 : Option Blk) d L, prim ⟨[], b0 :: some (sBlk (y.cells b) d) :: L⟩ (.load 1 false) [.ptr (.l 1) 5 0] = some (.v (u32 y.e), ⟨[], b0 :: some (sBlk (y.cells b) d) :: L⟩) := fun _ _ _ _ _ => rfl
  have ld3 : ∀ (y : LeafD) (b : AV) (b0 b1 b2 : Option Blk) d L, prim ⟨[], b0 :: b1 :: b2 :: some (sBlk (y.cells b) d) :: L⟩ (.load 5 true) [.ptr (.l 3) 5 0] = some (.agg (y.cells b), ⟨[], b0 :: b1 :: b2 :: some (sBlk (y.cells b) d) :: L⟩) := fun _ _ _ _ _ _ _ => rfl
  have ld30 : ∀ (y : LeafD) (b : AV) (b0 b1 b2 : Option Blk) d L, prim ⟨[], b0 :: b1 :: b2 :: some (sBlk (y.cells b) d) :: L⟩ (.load 1 false) [.ptr (.l 3) 5 0] = some (.v (u32 y.e), ⟨[], b0 :: b1 :: b2 :: some (sBlk (y.cells b) d) :: L⟩) := fun _ _ _ _ _ _ _ => rfl
  have ga : ∀ k, (AV.labs.labss (x.cells a)).all (refLt 0 k) = true := fun k => leaf_lab (by rw [sliceAt_val (site := 0) v]; rfl)
  have gb : ∀ k, (AV.labs.labss (x2.cells b)).all (refLt 0 k) = true := fun k => leaf_lab (by rw [sliceAt_val (site := 0) v2]; rfl)
  have v0 : ∀ L, View ⟨[], L⟩ a 1 x.d.length (x.d.map byteAV) := fun L => v _
  have v20 : ∀ L, View ⟨[], L⟩ b 1 x2.d.length (x2.d.map byteAV) := fun L => v2 _
  simp (disch := first | (simp only [ne_eq, reduceCtorEq, not_false_eq_true, implies_true]; done) | omega) only [WS, St.guard, St.put, evalO, reduceCtorEq, reduceIte, Nat.reduceAdd]
  rw [leaf_box rfl]
  simp (disch := first | (simp only [ne_eq, reduceCtorEq, not_false_eq_true, implies_true]; done) | omega) only [WS, St.guard, St.put, evalO, reduceCtorEq, reduceIte, Nat.reduceAdd]
  rw [leaf_box rfl]
  obtain ⟨d, hd⟩ : ∃ d, d = AV.lf.lfs (x.cells a) := ⟨_, rfl⟩
  obtain ⟨e, he⟩ : ∃ e, e = AV.lf.lfs (x2.cells b) := ⟨_, rfl⟩
  rw [← hd, ← he]
  simp (disch := first | (simp only [ne_eq, reduceCtorEq, not_false_eq_true, implies_true]; done) | omega) only [WS, St.guard, St.put, evalO, reduceCtorEq, reduceIte, Nat.reduceAdd, ld1, ld3]
  refine WDP_sliceC (esz := 1) (len := (nearD x).d.length) (cells := (nearD x).d.map byteAV) (fun r => .agg ((nearD x).cells r)) (fun _ _ => rfl) (by exact near_spec H.near ((v0 _).into bytes_lfs)) (by exact ⟨sBlk_good (ga _), sBlk_good (gb _), trivial⟩) rfl fun p B0 hat => ?_
  simp (disch := first | (simp only [ne_eq, reduceCtorEq, not_false_eq_true, implies_true]; done) | omega) only [WS, St.guard, St.put, evalO, reduceCtorEq, reduceIte, Nat.reduceAdd]
  rw [WDP_loadU (by simp) (by exact goodL_opt (fun B h => hat.good h) ⟨sBlk_good (ga _), sBlk_good (gb _), trivial⟩)]
  simp (disch := first | (simp only [ne_eq, reduceCtorEq, not_false_eq_true, implies_true]; done) | omega) only [WS, St.guard, St.put, evalO, reduceCtorEq, reduceIte, Nat.reduceAdd, ld3]
  refine WDP_sliceC (esz := 1) (len := (nearD x2).d.length) (cells := (nearD x2).d.map byteAV) (fun r => .agg ((nearD x2).cells r)) (fun _ _ => rfl) (by exact near_spec H.near ((v20 _).into bytes_lfs)) (by exact goodL_opt (fun B h => hat.good h) ⟨sBlk_good (ga _), sBlk_good (gb _), trivial⟩) rfl fun q B2 hat2 => ?_
  simp (disch := first | (simp only [ne_eq, reduceCtorEq, not_false_eq_true, implies_true]; done) | omega) only [WS, St.guard, St.put, evalO, reduceCtorEq, reduceIte, Nat.reduceAdd]
  have hl1 := nearD_len46 (x := x)
  have hR := nearD_right (x := x)
  have hl12 := nearD_len46 (x := x2)
  have hR2 := nearD_right (x := x2)
  generalize nearD x = y at *
  generalize nearD x2 = y2 at *
  have gp : ∀ k, 0 < k → (AV.labs.labss (y.cells p)).all (refLt 0 k) = true := fun k hk => leaf_lab (hat.ref hk)
  have gq : ∀ k, 2 < k → (AV.labs.labss (y2.cells q)).all (refLt 0 k) = true := fun k hk => leaf_lab (hat2.ref hk)
  refine WDP_good (leaf_store (j := 1) (d := d) (cells := x.cells a) rfl rfl) (by exact goodL_opt (fun B h => hat.good h) ⟨sBlk_good (ga _), goodL_opt (fun B h => hat2.good h) ⟨sBlk_good (gb _), trivial⟩⟩)
    (by exact goodL_opt (fun B h => hat.good h) ⟨sBlk_good (gp _ (by simp)), goodL_opt (fun B h => hat2.good h) ⟨sBlk_good (gb _), trivial⟩⟩) rfl (by exact quiet_set (by simp)) ?_
  simp (disch := first | (simp only [ne_eq, reduceCtorEq, not_false_eq_true, implies_true]; done) | omega) only [WS, St.guard, St.put, evalO, reduceCtorEq, reduceIte, Nat.reduceAdd]
  generalize (d && AV.lf.lfs (y.cells p)) = d
  refine WDP_good (leaf_store (j := 3) (d := e) (cells := x2.cells b) rfl rfl) (by exact goodL_opt (fun B h => hat.good h) ⟨sBlk_good (gp _ (by simp)), goodL_opt (fun B h => hat2.good h) ⟨sBlk_good (gb _), trivial⟩⟩)
    (by exact goodL_opt (fun B h => hat.good h) ⟨sBlk_good (gp _ (by simp)), goodL_opt (fun B h => hat2.good h) ⟨sBlk_good (gq _ (by simp)), trivial⟩⟩) rfl (by exact quiet_set (by simp)) ?_
  simp (disch := first | (simp only [ne_eq, reduceCtorEq, not_false_eq_true, implies_true]; done) | omega) only [WS, St.guard, St.put, evalO, reduceCtorEq, reduceIte, Nat.reduceAdd]
  generalize (e && AV.lf.lfs (y2.cells q)) = e
  have gd : ∀ c4 c5 c6 c7 c8 : Option Blk, (∀ B, c4 = some B → B.labs = []) → (∀ B, c5 = some B → B.labs = []) → (∀ B, c6 = some B → B.labs = []) → (∀ B, c7 = some B → B.labs = []) → (∀ B, c8 = some B → B.labs.all (refLt 0 8) = true) →
      Good ⟨[], [B0, some (sBlk (y.cells p) d), B2, some (sBlk (y2.cells q) e), c4, c5, c6, c7, c8]⟩ := fun c4 c5 c6 c7 c8 h4 h5 h6 h7 h8 =>
    goodL_opt (fun B h => hat.good h) ⟨sBlk_good (gp _ (by simp)), goodL_opt (fun B h => hat2.good h) ⟨sBlk_good (gq _ (by simp)), goodL_opt (fun B h => by rw [h4 B h]; rfl) (goodL_opt (fun B h => by rw [h5 B h]; rfl) (goodL_opt (fun B h => by rw [h6 B h]; rfl) (goodL_opt (fun B h => by rw [h7 B h]; rfl) (goodL_opt h8 trivial))))⟩⟩
  obtain ⟨z1, hz1⟩ : ∃ z, z = y.bytes := ⟨_, rfl⟩
  have lz1 : z1.length = 64 := by rw [hz1]; exact bytes_len hl1
  have lm1 : (z1.map byteAV).length = 64 := by simp [lz1]
  have hlaid := laid_right hR
  rw [← hz1] at hlaid
  obtain ⟨z2, hz2⟩ : ∃ z, z = y2.bytes := ⟨_, rfl⟩
  have lz2 : z2.length = 64 := by rw [hz2]; exact bytes_len hl12
  have lm2 : (z2.map byteAV).length = 64 := by simp [lz2]
  have hlaid2 := laid_right hR2
  rw [← hz2] at hlaid2
  simp (disch := first | (simp only [ne_eq, reduceCtorEq, not_false_eq_true, implies_true]; done) | omega) only [WS, St.guard, St.put, evalO, reduceCtorEq, reduceIte, Nat.reduceAdd, ld1]
  rw [WP_r (r := y.laid) (by exact Lay_spec H.toLeafLib ((hat.view rfl).into bytes_lfs)) laid_lf (gd _ _ _ _ _ (by simp) (by simp) (by simp) (by simp) (by simp)), hlaid]
  simp (disch := first | (simp only [ne_eq, reduceCtorEq, not_false_eq_true, implies_true]; done) | omega) only [WS, St.guard, St.put, evalO, reduceCtorEq, reduceIte, Nat.reduceAdd]
  rw [alloc_zeros rfl]
  simp (disch := first | (simp only [ne_eq, reduceCtorEq, not_false_eq_true, implies_true]; done) | omega) only [WS, St.guard, St.put, evalO, reduceCtorEq, reduceIte, Nat.reduceAdd]
  rw [store_all (j := 4) rfl (by simp [zs64_len]) lm1 bytes_lfs]
  simp (disch := first | (simp only [ne_eq, reduceCtorEq, not_false_eq_true, implies_true]; done) | omega) only [WS, St.guard, St.put, evalO, reduceCtorEq, reduceIte, Nat.reduceAdd, ld3]
  have dl : ∀ (cs : List AV) (B : Blk), some (dBlk cs false false) = some B → B.labs = [] := by intro cs B h; cases h; rfl
  rw [WP_r (r := y2.laid) (by exact Lay_spec H.toLeafLib ((hat2.view rfl).into bytes_lfs)) laid_lf (gd _ _ _ _ _ (dl _) (by simp) (by simp) (by simp) (by simp)), hlaid2]
  simp (disch := first | (simp only [ne_eq, reduceCtorEq, not_false_eq_true, implies_true]; done) | omega) only [WS, St.guard, St.put, evalO, reduceCtorEq, reduceIte, Nat.reduceAdd]
  rw [alloc_zeros rfl]
  simp (disch := first | (simp only [ne_eq, reduceCtorEq, not_false_eq_true, implies_true]; done) | omega) only [WS, St.guard, St.put, evalO, reduceCtorEq, reduceIte, Nat.reduceAdd]
  rw [store_all (j := 5) rfl (by simp [zs64_len]) lm2 bytes_lfs]
  simp (disch := first | (simp only [ne_eq, reduceCtorEq, not_false_eq_true, implies_true]; done) | omega) only [WS, St.guard, St.put, evalO, reduceCtorEq, reduceIte, Nat.reduceAdd]
  rw [WP_p (x := .bool true) (by exact awake7_spec H.toLeafFns) (gd _ _ _ _ _ (dl _) (dl _) (by simp) (by simp) (by simp))]
  simp (disch := first | (simp only [ne_eq, reduceCtorEq, not_false_eq_true, implies_true]; done) | omega) only [WS, St.guard, St.put, evalO, reduceCtorEq, reduceIte, Nat.reduceAdd, show ((0 : Int) != 0) = false from rfl]
  cases nb
  case' true =>
    simp (disch := first | (simp only [ne_eq, reduceCtorEq, not_false_eq_true, implies_true]; done) | omega) only [WS, St.guard, St.put, evalO, reduceCtorEq, reduceIte, Nat.reduceAdd, build_zeros]
    rw [store_all (j := 5) rfl lm2 (by simp [zs64_len]) bytes_lfs]
    obtain ⟨z, hz⟩ : ∃ z, z = zs64 := ⟨_, rfl⟩
    have hzz : z = zs64 ∨ ∃ y2 : LeafD, y2.right = true ∧ z = y2.bytes ∧ y.e ≠ y2.e := .inl hz
    have hzOK : takeOK z = false := by rw [hz]; exact zs64_bad
    have lz : z.length = 64 := by rw [hz]; exact zs64_len
    rw [← hz]
  case' false =>
    simp (disch := first | (simp only [ne_eq, reduceCtorEq, not_false_eq_true, implies_true]; done) | omega) only [WS, St.guard, St.put, evalO, reduceCtorEq, reduceIte, Nat.reduceAdd, ld10, ld30]
    by_cases hee : (y.e == y2.e) = true
    · simp (disch := first | (simp only [ne_eq, reduceCtorEq, not_false_eq_true, implies_true]; done) | omega) only [WS, St.guard, St.put, evalO, reduceCtorEq, reduceIte, Nat.reduceAdd, hee, fin_tmp, leave_v]
      simp
    simp (disch := first | (simp only [ne_eq, reduceCtorEq, not_false_eq_true, implies_true]; done) | omega) only [WS, St.guard, St.put, evalO, reduceCtorEq, reduceIte, Nat.reduceAdd, hee]
    have hzz : z2 = zs64 ∨ ∃ y2 : LeafD, y2.right = true ∧ z2 = y2.bytes ∧ y.e ≠ y2.e := .inr ⟨y2, hR2, hz2, by simpa using hee⟩
    have hzOK : takeOK z2 = true := by rw [hz2]; exact takeOK_bytes hR2
    have lz := lz2
    obtain ⟨z, hz⟩ : ∃ z, z = z2 := ⟨_, rfl⟩
    rw [← hz] at hzz hzOK lz ⊢
  all_goals
    have lzm : (z.map byteAV).length = 64 := by simp [lz]
    try simp (disch := first | (simp only [ne_eq, reduceCtorEq, not_false_eq_true, implies_true]; done) | omega) only [WS, St.guard, St.put, evalO, reduceCtorEq, reduceIte, Nat.reduceAdd]
    rw [vRem_u64_lit (z := 65) 65 rfl (by omega)]
    have hm := umod_lt (c := c) (n := 65) (by omega)
    generalize umod c 65 = t at *
    have slp : ∀ h ℓ, prim h (.sliceArr 64 1 false true false) [.ptr ℓ 64 0, .v (.int .i64 (t : Nat))] = some (.own ℓ 64 0 t 1 (some 64), h) := fun h ℓ => sliceArr_hi (by omega) (by omega)
    simp (disch := first | (simp only [ne_eq, reduceCtorEq, not_false_eq_true, implies_true]; done) | omega) only [WS, St.guard, St.put, evalO, reduceCtorEq, reduceIte, Nat.reduceAdd, wrap_i64_nat, px_load_l, Option.join_some, loadB_all lzm]
    rw [alloc_zeros rfl]
    simp (disch := first | (simp only [ne_eq, reduceCtorEq, not_false_eq_true, implies_true]; done) | omega) only [WS, St.guard, St.put, evalO, reduceCtorEq, reduceIte, Nat.reduceAdd]
    rw [store_all (j := 6) rfl (by simp [zs64_len]) lzm bytes_lfs]
    simp (disch := first | (simp only [ne_eq, reduceCtorEq, not_false_eq_true, implies_true]; done) | omega) only [WS, St.guard, St.put, evalO, reduceCtorEq, reduceIte, Nat.reduceAdd, slp]
    have pv : ∀ (b0 b1 b2 b3 : Option Blk) L, View ⟨[], b0 :: b1 :: b2 :: b3 :: some (dBlk (z1.map byteAV) false false) :: L⟩ (.own (.l 4) 64 0 t 1 (some 64)) 1 t (((z1.drop 0).take t).map byteAV) := fun _ _ _ _ _ =>
      piece_view rfl lz1 (by omega) (by simp; omega)
    refine WDP_good (copy_own (j := 6) rfl lz (by omega) (pv _ _ _ _ _) (Nat.le_refl _)) (gd _ _ _ _ _ (dl _) (dl _) (dl _) (by simp) (by simp)) (gd _ _ _ _ _ (dl _) (dl _) (dl _) (by simp) (by simp)) rfl (by exact quiet_set (by simp)) ?_
    obtain ⟨m, hmm⟩ : ∃ m, m = blit z 0 ((z1.drop 0).take t) := ⟨_, rfl⟩
    have hmb : m = y.bytes.take t ++ z.drop t := by
      rw [hmm, blit, List.take_zero, List.nil_append, List.drop_zero, Nat.zero_add, List.length_take, lz1, Nat.min_eq_left (by omega), hz1]
    have lm : m.length = 64 := by rw [hmb, ← hz1]; simp [lz1, lz]; omega
    have lmm : (m.map byteAV).length = 64 := by simp [lm]
    rw [← hmm]
    have htorn : takeOK m = true → m = z1 ∨ m = z := fun h => by
      rw [hmb] at h ⊢
      rw [hz1]
      exact torn hR lz hzz (by omega) h
    simp (disch := first | (simp only [ne_eq, reduceCtorEq, not_false_eq_true, implies_true]; done) | omega) only [WS, St.guard, St.put, evalO, reduceCtorEq, reduceIte, Nat.reduceAdd, px_load_l, Option.join_some, loadB_all lmm]
    have ht := fun G => Take_spec (prog := prog) H.toTakeLib (G := G) lm
    refine WP_slice (esz := 1) (len := (takeX m).d.length) (cells := (takeX m).d.map byteAV) (fun r => .tup [.agg ((takeX m).cells r), .v (.bool (takeOK m))]) (fun _ _ => rfl) (by rw [List.map_cons, ren_bytes]; exact ht _) (gd _ _ _ _ _ (dl _) (dl _) (dl _) (by simp) (by simp)) rfl fun r B7 hat7 => ?_
    simp (disch := first | (simp only [ne_eq, reduceCtorEq, not_false_eq_true, implies_true]; done) | omega) only [WS, St.guard, St.put, evalO, reduceCtorEq, reduceIte, Nat.reduceAdd, px_extract]
    rw [alloc_s rfl]
    simp (disch := first | (simp only [ne_eq, reduceCtorEq, not_false_eq_true, implies_true]; done) | omega) only [WS, St.guard, St.put, evalO, reduceCtorEq, reduceIte, Nat.reduceAdd]
    refine (WR_eq (leaf_store (d := true) (cells := noLeaf) rfl rfl)).2 ?_
    generalize (true && AV.lf.lfs ((takeX m).cells r)) = d8
    have gd8 := gd (some (dBlk (z1.map byteAV) false false)) (some (dBlk (z.map byteAV) false false)) (some (dBlk (m.map byteAV) false false)) B7 (some (sBlk ((takeX m).cells r) d8)) (dl _) (dl _) (dl _) hat7.data (fun B hB => by cases hB; exact sBlk_good (leaf_lab (hat7.ref (by simp))))
    simp (disch := first | (simp only [ne_eq, reduceCtorEq, not_false_eq_true, implies_true]; done) | omega) only [WS, St.guard, St.put, evalO, reduceCtorEq, reduceIte, Nat.reduceAdd, px_load_l, Option.join_some, loadB_all lmm, loadB_all lm1, eq64 lm lz1]
    by_cases hm1 : m = z1
    · have hX : takeX m = y := by rw [hm1, hz1]; exact takeX_bytes hR
      have hOK : takeOK m = true := by rw [hm1, hz1]; exact takeOK_bytes hR
      have ld8 : ∀ b0 b1 b2 b3 b4 b5 b6 b7 : Option Blk, prim ⟨[], [b0, b1, b2, b3, b4, b5, b6, b7, some (sBlk ((takeX m).cells r) d8)]⟩ (.load 5 true) [.ptr (.l 8) 5 0] = some (.agg ((takeX m).cells r), ⟨[], [b0, b1, b2, b3, b4, b5, b6, b7, some (sBlk ((takeX m).cells r) d8)]⟩) := fun _ _ _ _ _ _ _ _ => rfl
      rw [hX] at hat7 ld8 gd8 ⊢
      simp (disch := first | (simp only [ne_eq, reduceCtorEq, not_false_eq_true, implies_true]; done) | omega) only [WS, St.guard, St.put, evalO, reduceCtorEq, reduceIte, Nat.reduceAdd, decide_eq_true hm1, hOK, ld1, ld8]
      rw [WP_p (x := .bool (leafEq y y)) (by exact LeafEq_spec H.leq H.bytes ((hat7.view rfl).into bytes_lfs) ((hat.view rfl).into bytes_lfs)) gd8]
      simp (disch := first | (simp only [ne_eq, reduceCtorEq, not_false_eq_true, implies_true]; done) | omega) only [WS, St.guard, St.put, evalO, reduceCtorEq, reduceIte, Nat.reduceAdd, leafEq_iff.2 rfl, fin_tmp, leave_v]
      simp
    simp (disch := first | (simp only [ne_eq, reduceCtorEq, not_false_eq_true, implies_true]; done) | omega) only [WS, St.guard, St.put, evalO, reduceCtorEq, reduceIte, Nat.reduceAdd, hm1, decide_false, px_load_l, Option.join_some, loadB_all lmm, loadB_all lzm, eq64 lm lz]
    by_cases hm2 : m = z
    · have hOK := hzOK
      rw [← hm2] at hOK
      simp (disch := first | (simp only [ne_eq, reduceCtorEq, not_false_eq_true, implies_true]; done) | omega) only [WS, St.guard, St.put, evalO, reduceCtorEq, reduceIte, Nat.reduceAdd, decide_eq_true hm2, hOK, px_load_l, Option.join_some, loadB_all lmm]
      refine WDP_r (r := .v (u32 (maxU (get4 m 0) (get4 m 60)))) (fun X _ => by rw [List.map_cons, ren_bytes]; exact Mark_spec H.mark H.get lm) rfl gd8 ?_
      simp (disch := first | (simp only [ne_eq, reduceCtorEq, not_false_eq_true, implies_true]; done) | omega) only [WS, St.guard, St.put, evalO, reduceCtorEq, reduceIte, Nat.reduceAdd, px_load_l, Option.join_some, loadB_all lzm]
      refine WDP_r (r := .v (u32 (maxU (get4 m 0) (get4 m 60)))) (fun X _ => by rw [List.map_cons, ren_bytes, hm2]; exact RefMark_spec H.rmark H.rfour lz) rfl gd8 ?_
      simp (disch := first | (simp only [ne_eq, reduceCtorEq, not_false_eq_true, implies_true]; done) | omega) only [WS, St.guard, St.put, evalO, reduceCtorEq, reduceIte, Nat.reduceAdd, fin_tmp, leave_v]
      simp
    · have hOK : takeOK m = false := by
        cases h : takeOK m with
        | false => rfl
        | true => rcases htorn h with h | h
                  · exact absurd h hm1
                  · exact absurd h hm2
      simp (disch := first | (simp only [ne_eq, reduceCtorEq, not_false_eq_true, implies_true]; done) | omega) only [WS, St.guard, St.put, evalO, reduceCtorEq, reduceIte, Nat.reduceAdd, hm2, decide_false, hOK, fin_tmp, leave_v]
      simp
end Go.AM
