import Derived.Test.YtgblalimcndgnaaCrc
import Derived.Test.YtgblalimcndgnaaAMD
set_option linter.unusedVariables false
set_option linter.unusedSimpArgs false
/- The laws of the sums. -/
namespace Go.AM
variable {prog : String → Option IFn}

theorem CrcAll_law (H : CrcFns prog) (hp : prog "haberdash/haberdashlaw05.CrcAll" = some f_law05_CrcAll) {as} (h : IsAll [(.int .u32), (.slice (.int .u8))] as) :
    ∃ G2, Ev prog (.call "haberdash/haberdashlaw05.CrcAll" as []) (.ret (.v (.bool true)) G2) := by
  rcases as with _ | ⟨a0, _ | ⟨a1, _ | _⟩⟩ <;> try (simp [IsAll] at h; done)
  obtain ⟨⟨c0, h0, rfl⟩, ⟨c1, h1, rfl⟩, _⟩ := h
  obtain ⟨s, rfl⟩ := is_u32 h0
  obtain ⟨a, bs, rfl, v, hb⟩ := is_bytes h1
  exact ⟨_, CrcAll_spec H hp s fun L => v _⟩

/-! ### CrcPieces -/
def pos (n : Nat) (cs : List Int) : Nat := cs.foldl (fun p c => p + umod c (n - p + 1)) 0
theorem pos_le {n : Nat} {cs : List Int} : pos n cs ≤ n := by
  have : ∀ (cs : List Int) p, p ≤ n → cs.foldl (fun p c => p + umod c (n - p + 1)) p ≤ n := by
    intro cs
    induction cs with
    | nil => exact fun p h => h
    | cons c cs ih =>
      intro p h
      refine ih _ (show p + umod c (n - p + 1) ≤ n from ?_)
      have := umod_lt (c := c) (n := n - p + 1) (by omega)
      omega
  exact this cs 0 (by omega)
theorem pos_succ {n : Nat} {cs : List Int} {i : Nat} (h : i < cs.length) : pos n (cs.take (i + 1)) = pos n (cs.take i) + umod cs[i] (n - pos n (cs.take i) + 1) := foldl_take_succ h

theorem CrcPieces_law (H : CrcFns prog) (hp : prog "haberdash/haberdashlaw05.CrcPieces" = some f_law05_CrcPieces) {as} (h : IsAll [(.slice (.int .u8)), (.slice (.int .i64))] as) :
    ∃ G2, Ev prog (.call "haberdash/haberdashlaw05.CrcPieces" as []) (.ret (.v (.bool true)) G2) := by
  rcases as with _ | ⟨a0, _ | ⟨a1, _ | _⟩⟩ <;> try (simp [IsAll] at h; done)
  obtain ⟨⟨c0, h0, rfl⟩, ⟨c1, h1, rfl⟩, _⟩ := h
  obtain ⟨a, bs, rfl, v, hb⟩ := is_bytes h0
  obtain ⟨c, cs, rfl, w, hc, hci⟩ := is_ints h1
  refine ⟨[], call_of_fin hp ?_⟩
  have v0 := v ⟨[], []⟩
  have w0 := w ⟨[], []⟩
  have aw (G) := awake_spec (G := G) H.more H.sum H.awake
  simp only [f_law05_CrcPieces_B, enter, List.length_cons, List.length_nil, List.replicate, Nat.reduceAdd, Nat.reduceSub, List.cons_append, List.nil_append, Ty.arg]
  simp (disch := first | (simp only [ne_eq, reduceCtorEq, not_false_eq_true, implies_true]; done) | omega) only [WS, St.guard, St.put, evalO, reduceCtorEq, reduceIte, Nat.reduceAdd, v0.lenSlice]
  by_cases hl : (bs.length : Int) > 2000
  · simp (disch := first | (simp only [ne_eq, reduceCtorEq, not_false_eq_true, implies_true]; done) | omega) only [hl, decide_true, WS, St.guard, St.put, evalO, reduceCtorEq, reduceIte, Nat.reduceAdd]
    rw [WP_pure (x := .bool true) (aw _) rfl rfl]
    simp only [WS, St.guard, St.put, evalO, reduceCtorEq, reduceIte, Nat.reduceAdd, fin_tmp, leave_v]
    simp
  simp (disch := first | (simp only [ne_eq, reduceCtorEq, not_false_eq_true, implies_true]; done) | omega) only [hl, decide_false, WS, St.guard, St.put, evalO, reduceCtorEq, reduceIte, Nat.reduceAdd, w0.lenSlice]
  by_cases hl2 : (cs.length : Int) > 40
  · simp (disch := first | (simp only [ne_eq, reduceCtorEq, not_false_eq_true, implies_true]; done) | omega) only [hl2, decide_true, WS, St.guard, St.put, evalO, reduceCtorEq, reduceIte, Nat.reduceAdd]
    rw [WP_pure (x := .bool true) (aw _) rfl rfl]
    simp only [WS, St.guard, St.put, evalO, reduceCtorEq, reduceIte, Nat.reduceAdd, fin_tmp, leave_v]
    simp
  simp (disch := first | (simp only [ne_eq, reduceCtorEq, not_false_eq_true, implies_true]; done) | omega) only [hl2, decide_false, WS, St.guard, St.put, evalO, reduceCtorEq, reduceIte, Nat.reduceAdd]
  have hb : bs.length < 2 ^ 62 := by omega
  rw [WP_pure (x := u32 (crcMore 0#32 [])) (Sum_spec H.more H.sum (fun L => view_nil (by omega)) (by simp)) rfl rfl]
  simp (disch := first | (simp only [ne_eq, reduceCtorEq, not_false_eq_true, implies_true]; done) | omega) only [WS, St.guard, St.put, evalO, reduceCtorEq, reduceIte, Nat.reduceAdd]
  refine WC_count (fun i => ⟨f_law05_CrcPieces_H0 a c (.v (u32 (crcMore 0#32 (bs.take (pos bs.length (cs.take i)))))) (.v (.int .i64 (pos bs.length (cs.take i) : Nat))) (.v (.int .i64 (i : Nat))), ⟨[], []⟩⟩) cs.length ?_ (fun i hi => ?_) ?_
  · simp only [clear_nil, List.foldl_cons, List.foldl_nil, Option.some.injEq, List.map_cons, List.map_nil, List.getD_cons_zero, List.getD_cons_succ, List.set_cons_zero, List.set_cons_succ, Option.map_some, Option.bind_some, ne_eq, reduceCtorEq, not_false_eq_true, implies_true, beq_self_eq_true, BEq.rfl, if_true, if_false, Bool.false_eq_true, not_true_eq_false, Option.some.injEq, reduceIte, Bool.not_true, Bool.not_false, beq_true, beq_false, Bool.true_and, Bool.and_true, Bool.false_and, Bool.and_false, true_and, List.getElem?_cons_zero, List.getElem?_cons_succ, List.length_cons, List.length_nil, Nat.reduceAdd]; rfl
  · have hlt' : (i : Int) < (cs.length : Int) := by omega
    have hx : (cs.map intAV)[i]? = some (intAV cs[i]) := by simp [hi]
    have hple := pos_le (n := bs.length) (cs := cs.take i)
    have hpl2 := pos_le (n := bs.length) (cs := cs.take (i + 1))
    simp (disch := first | (simp only [ne_eq, reduceCtorEq, not_false_eq_true, implies_true]; done) | omega) only [f_law05_CrcPieces_L0, f_law05_CrcPieces_H0, WS, St.guard, St.put, evalO, reduceCtorEq, reduceIte, Nat.reduceAdd, hlt', decide_true, w0.lenSlice, v0.lenSlice, w0.index hi, w0.load1 hx, intAV, vBin_sub_i64, vBin_add_i64]
    rw [pos_succ hi] at hpl2 ⊢
    generalize pos bs.length (cs.take i) = p at *
    have hm := umod_lt (c := cs[i]) (n := bs.length - p + 1) (by omega)
    rw [vRem_u64 (bs.length - p + 1) (by omega) (by omega) (by omega)]
    generalize umod cs[i] (bs.length - p + 1) = m at *
    simp (disch := first | (simp only [ne_eq, reduceCtorEq, not_false_eq_true, implies_true]; done) | omega) only [WS, St.guard, St.put, evalO, reduceCtorEq, reduceIte, Nat.reduceAdd, wrap_i64_nat, vBin_add_i64]
    have e : (p : Int) + (m : Int) = ((p + m : Nat) : Int) := by omega
    rw [e, v0.slice (by omega) (by omega)]
    simp (disch := first | (simp only [ne_eq, reduceCtorEq, not_false_eq_true, implies_true]; done) | omega) only [WS, St.guard, St.put, evalO, reduceCtorEq, reduceIte, Nat.reduceAdd]
    have vs := v0.sub (i := p) (j := p + m) (by omega) (by omega)
    have e2 : (List.take ((p + m - p) * 1) (List.drop (p * 1) (bs.map byteAV))) = ((bs.drop p).take m).map byteAV := by
      rw [Nat.mul_one, Nat.mul_one, Nat.add_sub_cancel_left, List.map_take, List.map_drop]
    rw [e2] at vs
    have e3 : p + m - p = ((bs.drop p).take m).length := by rw [List.length_take, List.length_drop]; omega
    rw [e3] at vs
    rw [WP_pure (x := u32 (crcMore (crcMore 0#32 (bs.take p)) ((bs.drop p).take m))) (More_spec H.more (vs.into bytes_lfs) _ (by omega)) rfl rfl]
    simp (disch := first | (simp only [ne_eq, reduceCtorEq, not_false_eq_true, implies_true]; done) | omega) only [WS, St.guard, St.put, evalO, reduceCtorEq, reduceIte, Nat.reduceAdd, vBin_add_i64, clear_nil, List.foldl_cons, List.foldl_nil, Option.some.injEq]
    rw [crcMore_append, ← List.take_add]
    rfl
  · simp (disch := first | (simp only [ne_eq, reduceCtorEq, not_false_eq_true, implies_true]; done) | omega) only [f_law05_CrcPieces_L0, f_law05_CrcPieces_H0, WS, St.guard, St.put, evalO, reduceCtorEq, reduceIte, Nat.reduceAdd, w0.lenSlice, show ¬ ((cs.length : Int) < cs.length) by omega, decide_false, List.take_length]
    rw [WP_pure (x := .bool true) (aw _) rfl rfl]
    have hple := pos_le (n := bs.length) (cs := cs)
    generalize pos bs.length cs = p at *
    simp (disch := first | (simp only [ne_eq, reduceCtorEq, not_false_eq_true, implies_true]; done) | omega) only [WS, St.guard, St.put, evalO, reduceCtorEq, reduceIte, Nat.reduceAdd, v0.sliceLo hple]
    have vs := v0.sub (i := p) (j := bs.length) hple (Nat.le_refl _)
    have e2 : (List.take ((bs.length - p) * 1) (List.drop (p * 1) (bs.map byteAV))) = (bs.drop p).map byteAV := by
      rw [Nat.mul_one, Nat.mul_one, ← List.map_drop, List.take_of_length_le (by simp)]
    rw [e2] at vs
    have e3 : bs.length - p = (bs.drop p).length := by rw [List.length_drop]
    rw [e3] at vs
    rw [WP_pure (x := u32 (crcMore (crcMore 0#32 (bs.take p)) (bs.drop p))) (More_spec H.more (vs.into bytes_lfs) _ (by omega)) rfl rfl]
    simp (disch := first | (simp only [ne_eq, reduceCtorEq, not_false_eq_true, implies_true]; done) | omega) only [WS, St.guard, St.put, evalO, reduceCtorEq, reduceIte, Nat.reduceAdd]
    rw [WP_pure (x := u32 (crcMore 0#32 bs)) (Sum_spec H.more H.sum (v0.into bytes_lfs) hb) rfl rfl]
    simp (disch := first | (simp only [ne_eq, reduceCtorEq, not_false_eq_true, implies_true]; done) | omega) only [WS, St.guard, St.put, evalO, reduceCtorEq, reduceIte, Nat.reduceAdd, fin_tmp, leave_v, crcMore_append, List.take_append_drop]
    simp

end Go.AM

/- The laws of the sums: bits turned. -/
namespace Go.AM
variable {prog : String → Option IFn}

/-- Bits turned from a place on. -/
def flips (bs : List UInt8) (p : Nat) (w : BitVec 32) : Nat → List UInt8
  | 0 => bs
  | i + 1 => if w.getLsbD i then (flips bs p w i).set ((p + i) / 8) ((flips bs p w i).getD ((p + i) / 8) 0 ^^^ UInt8.ofNat (2 ^ ((p + i) % 8))) else flips bs p w i

theorem flips_len {bs p w} : ∀ i, (flips bs p w i).length = bs.length
  | 0 => rfl
  | i + 1 => by
    unfold flips
    split
    · rw [List.length_set, flips_len i]
    · exact flips_len i

theorem testBit_pow8 {m j : Nat} (hm : m < 8) (hj : j < 8) : (UInt8.ofNat (2 ^ m)).toNat.testBit j = decide (m = j) := by
  have h2 : 2 ^ m < 256 := Nat.lt_of_lt_of_le (Nat.pow_lt_pow_right (by omega) hm) (by omega)
  rw [UInt8.toNat_ofNat', Nat.mod_eq_of_lt h2, Nat.testBit_two_pow]

theorem bitAt_set {bs : List UInt8} {q m : Nat} (hq : q < bs.length) (hm : m < 8) (k : Nat) : bitAt (bs.set q (bs.getD q 0 ^^^ UInt8.ofNat (2 ^ m))) k = (bitAt bs k ^^ decide (k = 8 * q + m)) := by
  unfold bitAt
  simp only [List.getD_eq_getElem?_getD, List.getElem?_set]
  by_cases hk : q = k / 8
  · subst hk
    simp only [if_true, hq, Option.getD_some]
    rw [UInt8.toNat_xor, Nat.testBit_xor, testBit_pow8 hm (Nat.mod_lt _ (by omega))]
    congr 1
    rw [decide_eq_decide]
    omega
  · rw [if_neg hk]
    have : ¬ k = 8 * q + m := by omega
    simp [this]

theorem flips_bit {bs : List UInt8} {p : Nat} {w : BitVec 32} : ∀ (i : Nat), p + i ≤ 8 * bs.length → ∀ k, bitAt (flips bs p w i) k = (bitAt bs k ^^ (decide (p ≤ k) && decide (k < p + i) && w.getLsbD (k - p)))
  | 0, _, k => by
    have : (decide (p ≤ k) && decide (k < p + 0)) = false := by simp
    rw [this]; simp [flips]
  | i + 1, h, k => by
    have ih := flips_bit (bs := bs) (p := p) (w := w) i (by omega) k
    unfold flips
    split
    · rename_i hw
      rw [bitAt_set (by rw [flips_len]; omega) (Nat.mod_lt _ (by omega)), ih, Nat.div_add_mod, Bool.xor_assoc]
      congr 1
      by_cases hk : k = p + i
      · subst hk
        simp only [show p ≤ p + i by omega, Nat.lt_irrefl, show p + i < p + (i + 1) by omega, decide_true, decide_false, show p + i - p = i by omega, hw]; rfl
      · have e : decide (k < p + (i + 1)) = decide (k < p + i) := by rw [decide_eq_decide]; omega
        rw [e]; simp [hk]
    · rename_i hw
      rw [ih]
      congr 1
      by_cases hk : k = p + i
      · subst hk
        simp only [show p + i - p = i by omega, hw, Bool.and_false]
      · have e : decide (k < p + (i + 1)) = decide (k < p + i) := by rw [decide_eq_decide]; omega
        rw [e]

theorem crc_flips {bs : List UInt8} {p : Nat} {w : BitVec 32} (h : p + 32 ≤ 8 * bs.length) : crcMore 0#32 bs = crcMore 0#32 (flips bs p w 32) ↔ w = 0#32 := by
  refine crc_burst (flips_len 32).symm h fun k hk => ?_
  rw [flips_bit 32 h k, ← Bool.xor_assoc, Bool.xor_self, Bool.false_xor]

theorem bit_cond {w : BitVec 32} {i : Nat} : (w >>> i &&& 1#32 == 1#32) = w.getLsbD i := by
  rw [low_eq, BitVec.getLsbD_ushiftRight, Nat.add_zero]

theorem CrcTurned_law (H : CrcFns prog) (hp : prog "haberdash/haberdashlaw05.CrcTurned" = some f_law05_CrcTurned) {as} (h : IsAll [(.slice (.int .u8)), (.int .i64), (.int .u32)] as) :
    ∃ G2, Ev prog (.call "haberdash/haberdashlaw05.CrcTurned" as []) (.ret (.v (.bool true)) G2) := by
  rcases as with _ | ⟨a0, _ | ⟨a1, _ | ⟨a2, _ | _⟩⟩⟩ <;> try (simp [IsAll] at h; done)
  obtain ⟨⟨c0, h0, rfl⟩, ⟨c1, h1, rfl⟩, ⟨c2, h2, rfl⟩, _⟩ := h
  obtain ⟨a, bs, rfl, v, hb⟩ := is_bytes h0
  obtain ⟨c, rfl, hc⟩ := is_i64 h1
  obtain ⟨w, rfl⟩ := is_u32 h2
  refine ⟨[], call_of_fin hp ?_⟩
  have aw (G) := awake_spec (G := G) H.more H.sum H.awake
  simp only [f_law05_CrcTurned_B, enter, List.length_cons, List.length_nil, List.replicate, Nat.reduceAdd, Nat.reduceSub, List.cons_append, List.nil_append, Ty.arg, intAV]
  simp (disch := first | (simp only [ne_eq, reduceCtorEq, not_false_eq_true, implies_true]; done) | omega) only [WS, St.guard, St.put, evalO, reduceCtorEq, reduceIte, Nat.reduceAdd, (v _).lenSlice]
  by_cases hl : (bs.length : Int) < 5
  · simp (disch := first | (simp only [ne_eq, reduceCtorEq, not_false_eq_true, implies_true]; done) | omega) only [hl, decide_true, WS, St.guard, St.put, evalO, reduceCtorEq, reduceIte, Nat.reduceAdd]
    rw [WP_pure (x := .bool true) (aw _) rfl rfl]
    simp only [WS, St.guard, St.put, evalO, reduceCtorEq, reduceIte, Nat.reduceAdd, fin_tmp, leave_v]
    simp
  simp (disch := first | (simp only [ne_eq, reduceCtorEq, not_false_eq_true, implies_true]; done) | omega) only [hl, decide_false, WS, St.guard, St.put, evalO, reduceCtorEq, reduceIte, Nat.reduceAdd, (v _).lenSlice]
  by_cases hl2 : (bs.length : Int) > 1000
  · simp (disch := first | (simp only [ne_eq, reduceCtorEq, not_false_eq_true, implies_true]; done) | omega) only [hl2, decide_true, WS, St.guard, St.put, evalO, reduceCtorEq, reduceIte, Nat.reduceAdd]
    rw [WP_pure (x := .bool true) (aw _) rfl rfl]
    simp only [WS, St.guard, St.put, evalO, reduceCtorEq, reduceIte, Nat.reduceAdd, fin_tmp, leave_v]
    simp
  simp (disch := first | (simp only [ne_eq, reduceCtorEq, not_false_eq_true, implies_true]; done) | omega) only [hl2, decide_false, WS, St.guard, St.put, evalO, reduceCtorEq, reduceIte, Nat.reduceAdd, (v _).lenSlice, vBin_mul_i64, vBin_sub_i64]
  rw [vRem_u64 (8 * bs.length - 31) (by omega) (by omega) (by omega)]
  have hm := umod_lt (c := c) (n := 8 * bs.length - 31) (by omega)
  generalize umod c (8 * bs.length - 31) = p at *
  simp (disch := first | (simp only [ne_eq, reduceCtorEq, not_false_eq_true, implies_true]; done) | omega) only [WS, St.guard, St.put, evalO, reduceCtorEq, reduceIte, Nat.reduceAdd, wrap_i64_nat]
  rw [append_nil (v _) bytes_lfs rfl (by omega) (by unfold room; omega), Nat.mul_one]
  simp (disch := first | (simp only [ne_eq, reduceCtorEq, not_false_eq_true, implies_true]; done) | omega) only [WS, St.guard, St.put, evalO, reduceCtorEq, reduceIte, Nat.reduceAdd]
  refine WC_count (fun i => ⟨f_law05_CrcTurned_H0 a (.v (.int .i64 (p : Nat))) (.v (u32 w)) (.own (.l 0) bs.length 0 bs.length 1 none) (.v (.int .i64 (i : Nat))), ⟨[], [some (dBlk ((flips bs p w i).map byteAV) true false)]⟩⟩) 32 ?_ (fun i hi => ?_) ?_
  · simp only [clear_nil, List.foldl_cons, List.foldl_nil, Option.some.injEq, List.map_cons, List.map_nil, List.getD_cons_zero, List.getD_cons_succ, List.set_cons_zero, List.set_cons_succ, Option.map_some, Option.bind_some, ne_eq, reduceCtorEq, not_false_eq_true, implies_true, beq_self_eq_true, BEq.rfl, if_true, if_false, Bool.false_eq_true, not_true_eq_false, Option.some.injEq, reduceIte, Bool.not_true, Bool.not_false, beq_true, beq_false, Bool.true_and, Bool.and_true, Bool.false_and, Bool.and_false, true_and, List.getElem?_cons_zero, List.getElem?_cons_succ, List.length_cons, List.length_nil, Nat.reduceAdd]; rfl
  · have hlt' : (i : Int) < 32 := by omega
    simp (disch := first | (simp only [ne_eq, reduceCtorEq, not_false_eq_true, implies_true]; done) | omega) only [f_law05_CrcTurned_L0, f_law05_CrcTurned_H0, WS, St.guard, St.put, evalO, reduceCtorEq, reduceIte, Nat.reduceAdd, hlt', decide_true, wrap_u64_of, c1, bit_cond]
    by_cases hw : w.getLsbD i = true
    · have hq : (p + i) / 8 < bs.length := by omega
      have hlen := flips_len (bs := bs) (p := p) (w := w) i
      have vo : View ⟨[], [some (dBlk ((flips bs p w i).map byteAV) true false)]⟩ (.own (.l 0) bs.length 0 bs.length 1 none) 1 bs.length ((flips bs p w i).map byteAV) :=
        own_view1 (j := 0) rfl (by simp [hlen]) (by simp)
      have hx : ((flips bs p w i).map byteAV)[(p + i) / 8]? = some (byteAV ((flips bs p w i).getD ((p + i) / 8) 0)) := by
        rw [List.getElem?_map, List.getD_eq_getElem?_getD, List.getElem?_eq_getElem (by omega)]; rfl
      have e : (p : Int) + (i : Int) = ((p + i : Nat) : Int) := by omega
      simp (disch := first | (simp only [ne_eq, reduceCtorEq, not_false_eq_true, implies_true]; done) | omega) only [hw, WS, St.guard, St.put, evalO, reduceCtorEq, reduceIte, Nat.reduceAdd, vBin_add_i64, e]
      rw [vBin_quo_i64 (z := 8) 8 rfl (by omega) (by omega)]
      simp (disch := first | (simp only [ne_eq, reduceCtorEq, not_false_eq_true, implies_true]; done) | omega) only [WS, St.guard, St.put, evalO, reduceCtorEq, reduceIte, Nat.reduceAdd, vo.index hq, vo.load1 hx, vBin_add_i64, e]
      rw [vBin_rem_i64 (z := 8) 8 rfl (by omega)]
      simp (disch := first | (simp only [ne_eq, reduceCtorEq, not_false_eq_true, implies_true]; done) | omega) only [WS, St.guard, St.put, evalO, reduceCtorEq, reduceIte, Nat.reduceAdd, wrap_u64_of, vBin_shl_1_u8, byteAV_u8, vo.index hq]
      simp only [elemPtr, Nat.mul_one, Nat.zero_add]
      rw [← byteAV_u8, store_data (j := 0) rfl (by simp [hlen]) hq rfl rfl]
      simp (disch := first | (simp only [ne_eq, reduceCtorEq, not_false_eq_true, implies_true]; done) | omega) only [WS, St.guard, St.put, evalO, reduceCtorEq, reduceIte, Nat.reduceAdd, vBin_add_i64, clear_nil, List.foldl_cons, List.foldl_nil, Option.some.injEq, List.set_cons_zero]
      rw [← List.map_set, flips, if_pos hw]
      rfl
    · simp (disch := first | (simp only [ne_eq, reduceCtorEq, not_false_eq_true, implies_true]; done) | omega) only [hw, WS, St.guard, St.put, evalO, reduceCtorEq, reduceIte, Nat.reduceAdd, vBin_add_i64, clear_nil, List.foldl_cons, List.foldl_nil, Option.some.injEq]
      rw [flips, if_neg hw]
      rfl
  · simp (disch := first | (simp only [ne_eq, reduceCtorEq, not_false_eq_true, implies_true]; done) | omega) only [f_law05_CrcTurned_L0, f_law05_CrcTurned_H0, WS, St.guard, St.put, evalO, reduceCtorEq, reduceIte, Nat.reduceAdd, decide_false]
    rw [WP_pure (x := .bool true) (aw _) rfl rfl]
    simp (disch := first | (simp only [ne_eq, reduceCtorEq, not_false_eq_true, implies_true]; done) | omega) only [WS, St.guard, St.put, evalO, reduceCtorEq, reduceIte, Nat.reduceAdd]
    rw [WP_pure (x := u32 (crcMore 0#32 bs)) (Sum_spec H.more H.sum ((v _).into bytes_lfs) (by omega)) rfl rfl]
    simp (disch := first | (simp only [ne_eq, reduceCtorEq, not_false_eq_true, implies_true]; done) | omega) only [WS, St.guard, St.put, evalO, reduceCtorEq, reduceIte, Nat.reduceAdd]
    have hlen := flips_len (bs := bs) (p := p) (w := w) 32
    have vo : View ⟨[], [some (dBlk ((flips bs p w 32).map byteAV) true false)]⟩ (.own (.l 0) bs.length 0 bs.length 1 none) 1 (flips bs p w 32).length ((flips bs p w 32).map byteAV) := by
      rw [hlen]; exact own_view1 (j := 0) rfl (by simp [hlen]) (by simp)
    rw [WP_pure (x := u32 (crcMore 0#32 (flips bs p w 32))) (Sum_spec H.more H.sum (vo.into bytes_lfs) (by omega)) rfl rfl]
    have hc := crc_flips (bs := bs) (p := p) (w := w) (by omega)
    simp (disch := first | (simp only [ne_eq, reduceCtorEq, not_false_eq_true, implies_true]; done) | omega) only [WS, St.guard, St.put, evalO, reduceCtorEq, reduceIte, Nat.reduceAdd, c0, fin_tmp, leave_v]
    have : ((crcMore 0#32 bs == crcMore 0#32 (flips bs p w 32)) == (w == 0#32)) = true := by
      rw [beq_iff_eq, Bool.eq_iff_iff, beq_iff_eq, beq_iff_eq]; exact hc
    simp [this]

end Go.AM

/- The laws of the sums: three rows; ends. -/
namespace Go.AM
variable {prog : String → Option IFn}

def xor3 (as bs cs : List UInt8) (n : Nat) : List UInt8 := (List.range n).map fun i => as.getD i 0 ^^^ bs.getD i 0 ^^^ cs.getD i 0

theorem bitAt_take {bs : List UInt8} {n k : Nat} (h : k < 8 * n) : bitAt (bs.take n) k = bitAt bs k := by
  unfold bitAt
  simp only [List.getD_eq_getElem?_getD, List.getElem?_take]
  rw [if_pos (by omega)]

theorem crc_xor3 {as bs cs : List UInt8} {n : Nat} (ha : n ≤ as.length) (hb : n ≤ bs.length) (hc : n ≤ cs.length) :
    crcMore 0#32 (xor3 as bs cs n) = crcMore 0#32 (as.take n) ^^^ crcMore 0#32 (bs.take n) ^^^ crcMore 0#32 (cs.take n) := by
  have hl : (xor3 as bs cs n).length = n := by simp [xor3]
  have h : feed (bitAt (xor3 as bs cs n)) (~~~ 0#32) (8 * n) = feed (fun k => (bitAt (as.take n) k ^^ bitAt (bs.take n) k) ^^ bitAt (cs.take n) k) ((~~~ 0#32 ^^^ ~~~ 0#32) ^^^ ~~~ 0#32) (8 * n) := by
    rw [BitVec.xor_self, BitVec.zero_xor]
    refine feed_congr fun k hk => ?_
    simp only [bitAt_take hk]
    unfold bitAt xor3
    have hq : k / 8 < n := by omega
    simp only [List.getD_eq_getElem?_getD, List.getElem?_map, List.getElem?_range hq, Option.map_some, Option.getD_some, UInt8.toNat_xor, Nat.testBit_xor]
  rw [feed_xor (fun k => bitAt (as.take n) k ^^ bitAt (bs.take n) k), feed_xor (bitAt (as.take n))] at h
  have e (x : List UInt8) (hx : n ≤ x.length) : (x.take n).length = n := by rw [List.length_take]; omega
  simp only [crcMore, fold_feed, hl, h, e as ha, e bs hb, e cs hc]
  generalize feed (bitAt (as.take n)) _ _ = x
  generalize feed (bitAt (bs.take n)) _ _ = y
  generalize feed (bitAt (cs.take n)) _ _ = z
  ext i hi
  simp only [BitVec.getElem_not, BitVec.getElem_xor]
  cases x[i] <;> cases y[i] <;> cases z[i] <;> rfl

theorem mins_nat {k : IntKind} {a b c : Nat} : mins k (a : Int) [.v (.int k (b : Int)), .v (.int k (c : Int)), .v (.int k 500)] = some ((min (min (min a b) c) 500 : Nat) : Int) := by
  simp only [mins, if_true, Option.some.injEq]
  omega

theorem CrcThree_law (H : CrcFns prog) (hp : prog "haberdash/haberdashlaw05.CrcThree" = some f_law05_CrcThree) {as} (h : IsAll [(.slice (.int .u8)), (.slice (.int .u8)), (.slice (.int .u8))] as) :
    ∃ G2, Ev prog (.call "haberdash/haberdashlaw05.CrcThree" as []) (.ret (.v (.bool true)) G2) := by
  rcases as with _ | ⟨a0, _ | ⟨a1, _ | ⟨a2, _ | _⟩⟩⟩ <;> try (simp [IsAll] at h; done)
  obtain ⟨⟨c0, h0, rfl⟩, ⟨c1, h1, rfl⟩, ⟨c2, h2, rfl⟩, _⟩ := h
  obtain ⟨a, as, rfl, v, _⟩ := is_bytes h0
  obtain ⟨b, bs, rfl, w, _⟩ := is_bytes h1
  obtain ⟨c, cs, rfl, x, _⟩ := is_bytes h2
  refine ⟨[], call_of_fin hp ?_⟩
  have aw (G) := awake_spec (G := G) H.more H.sum H.awake
  simp only [f_law05_CrcThree_B, enter, List.length_cons, List.length_nil, List.replicate, Nat.reduceAdd, Nat.reduceSub, List.cons_append, List.nil_append, Ty.arg]
  simp (disch := first | (simp only [ne_eq, reduceCtorEq, not_false_eq_true, implies_true]; done) | omega) only [WS, St.guard, St.put, evalO, reduceCtorEq, reduceIte, Nat.reduceAdd, (v _).lenSlice, (w _).lenSlice, (x _).lenSlice, mins_nat]
  obtain ⟨n, hn⟩ : ∃ n, n = min (min (min as.length bs.length) cs.length) 500 := ⟨_, rfl⟩
  rw [← hn]
  have ha : n ≤ as.length := by omega
  have hb : n ≤ bs.length := by omega
  have hc : n ≤ cs.length := by omega
  have hn5 : n ≤ 500 := by omega
  clear hn
  rw [make_data rfl (Nat.le_refl _) (by unfold room; omega) (by unfold room; omega)]
  simp (disch := first | (simp only [ne_eq, reduceCtorEq, not_false_eq_true, implies_true]; done) | omega) only [WS, St.guard, St.put, evalO, reduceCtorEq, reduceIte, Nat.reduceAdd]
  refine WC_count (fun i => ⟨f_law05_CrcThree_H0 a b c (.v (.int .i64 (n : Nat))) (.own (.l 0) n 0 n 1 (some n)) (.v (.int .i64 (i : Nat))), ⟨[], [some (dBlk ((xor3 as bs cs i ++ List.replicate (n - i) 0).map byteAV) false false)]⟩⟩) n ?_ (fun i hi => ?_) ?_
  · simp only [clear_nil, List.foldl_cons, List.foldl_nil, Option.some.injEq, List.map_cons, List.map_nil, List.getD_cons_zero, List.getD_cons_succ, List.set_cons_zero, List.set_cons_succ, Option.map_some, Option.bind_some, ne_eq, reduceCtorEq, not_false_eq_true, implies_true, beq_self_eq_true, BEq.rfl, if_true, if_false, Bool.false_eq_true, not_true_eq_false, Option.some.injEq, reduceIte, Bool.not_true, Bool.not_false, beq_true, beq_false, Bool.true_and, Bool.and_true, Bool.false_and, Bool.and_false, true_and, List.getElem?_cons_zero, List.getElem?_cons_succ, List.length_cons, List.length_nil, Nat.reduceAdd]
    rw [show List.replicate n (AV.v (Value.int IntKind.u8 0)) = List.map byteAV (xor3 as bs cs 0 ++ List.replicate (n - 0) 0) by simp [xor3, byteAV]]
    rfl
  · have hlt' : (i : Int) < (n : Int) := by omega
    have hlen : (xor3 as bs cs i).length = i := by simp [xor3]
    have gx (l : List UInt8) (h : n ≤ l.length) : (l.map byteAV)[i]? = some (byteAV (l.getD i 0)) := by
      rw [List.getElem?_map, List.getD_eq_getElem?_getD, List.getElem?_eq_getElem (by omega)]; rfl
    have vo : View ⟨[], [some (dBlk ((xor3 as bs cs i ++ List.replicate (n - i) 0).map byteAV) false false)]⟩ (.own (.l 0) n 0 n 1 (some n)) 1 n ((xor3 as bs cs i ++ List.replicate (n - i) 0).map byteAV) :=
      own_view1 (j := 0) rfl (by simp [hlen]; omega) (by simp)
    simp (disch := first | (simp only [ne_eq, reduceCtorEq, not_false_eq_true, implies_true]; done) | omega) only [f_law05_CrcThree_L0, f_law05_CrcThree_H0, WS, St.guard, St.put, evalO, reduceCtorEq, reduceIte, Nat.reduceAdd, hlt', decide_true, (v _).index (show i < as.length by omega), (v _).load1 (gx as ha), (w _).index (show i < bs.length by omega), (w _).load1 (gx bs hb),
      (x _).index (show i < cs.length by omega), (x _).load1 (gx cs hc), byteAV_u8, vo.index hi]


    simp only [elemPtr, Nat.mul_one, Nat.zero_add]
    rw [← byteAV_u8]
    refine WDP_turn (store_data (j := 0) rfl (by simp [hlen]; omega) hi rfl rfl) rfl rfl rfl ?_
    simp (disch := first | (simp only [ne_eq, reduceCtorEq, not_false_eq_true, implies_true]; done) | omega) only [WS, St.guard, St.put, evalO, reduceCtorEq, reduceIte, Nat.reduceAdd, vBin_add_i64, clear_nil, List.foldl_cons, List.foldl_nil, Option.some.injEq, List.set_cons_zero]
    rw [← List.map_set]
    have e : (xor3 as bs cs i ++ List.replicate (n - i) 0).set i (as.getD i 0 ^^^ bs.getD i 0 ^^^ cs.getD i 0) = xor3 as bs cs (i + 1) ++ List.replicate (n - (i + 1)) 0 := by
      rw [List.set_append_right _ _ (by omega), hlen, Nat.sub_self, show n - i = (n - (i + 1)) + 1 by omega, List.replicate_succ, List.set_cons_zero]
      simp [xor3, List.range_succ]
    rw [e]
    rfl
  · have hlen : (xor3 as bs cs n).length = n := by simp [xor3]
    simp (disch := first | (simp only [ne_eq, reduceCtorEq, not_false_eq_true, implies_true]; done) | omega) only [f_law05_CrcThree_L0, f_law05_CrcThree_H0, WS, St.guard, St.put, evalO, reduceCtorEq, reduceIte, Nat.reduceAdd, decide_false, Nat.sub_self, List.replicate_zero, List.append_nil]

    refine WDP_pure (x := .bool true) (fun X _ => aw _) rfl rfl rfl ?_
    simp (disch := first | (simp only [ne_eq, reduceCtorEq, not_false_eq_true, implies_true]; done) | omega) only [WS, St.guard, St.put, evalO, reduceCtorEq, reduceIte, Nat.reduceAdd]
    have vo : View ⟨[], [some (dBlk ((xor3 as bs cs n).map byteAV) false false)]⟩ (.own (.l 0) n 0 n 1 (some n)) 1 (xor3 as bs cs n).length ((xor3 as bs cs n).map byteAV) := by
      rw [hlen]; exact own_view1 (j := 0) rfl (by simp [hlen]) (by simp)

    refine WDP_pure (x := u32 (crcMore 0#32 (xor3 as bs cs n))) (fun X _ => Sum_spec H.more H.sum (vo.into bytes_lfs) (by omega)) rfl rfl rfl ?_
    have sub3 (z : AV) (l : List UInt8) (y : ∀ h, View h z 1 l.length (l.map byteAV)) (hz : n ≤ l.length) (h : Hp) : View h (AM.sub z 1 0 n) 1 (l.take n).length ((l.take n).map byteAV) := by
      have := (y h).sub (i := 0) (j := n) (by omega) hz
      rw [Nat.zero_mul, List.drop_zero, Nat.sub_zero, Nat.mul_one, ← List.map_take] at this
      rwa [List.length_take, Nat.min_eq_left hz]
    have tl (l : List UInt8) : (l.take n).length < 2 ^ 62 := by rw [List.length_take]; omega
    simp (disch := first | (simp only [ne_eq, reduceCtorEq, not_false_eq_true, implies_true]; done) | omega) only [WS, St.guard, St.put, evalO, reduceCtorEq, reduceIte, Nat.reduceAdd, (v _).sliceHi ha]
    refine WDP_pure (x := u32 (crcMore 0#32 (as.take n))) (fun X _ => Sum_spec H.more H.sum ((sub3 a as v ha _).into bytes_lfs) (tl _)) rfl rfl rfl ?_
    simp (disch := first | (simp only [ne_eq, reduceCtorEq, not_false_eq_true, implies_true]; done) | omega) only [WS, St.guard, St.put, evalO, reduceCtorEq, reduceIte, Nat.reduceAdd, (w _).sliceHi hb]
    refine WDP_pure (x := u32 (crcMore 0#32 (bs.take n))) (fun X _ => Sum_spec H.more H.sum ((sub3 b bs w hb _).into bytes_lfs) (tl _)) rfl rfl rfl ?_
    simp (disch := first | (simp only [ne_eq, reduceCtorEq, not_false_eq_true, implies_true]; done) | omega) only [WS, St.guard, St.put, evalO, reduceCtorEq, reduceIte, Nat.reduceAdd, (x _).sliceHi hc]
    refine WDP_pure (x := u32 (crcMore 0#32 (cs.take n))) (fun X _ => Sum_spec H.more H.sum ((sub3 c cs x hc _).into bytes_lfs) (tl _)) rfl rfl rfl ?_
    simp (disch := first | (simp only [ne_eq, reduceCtorEq, not_false_eq_true, implies_true]; done) | omega) only [WS, St.guard, St.put, evalO, reduceCtorEq, reduceIte, Nat.reduceAdd, fin_tmp, leave_v, crc_xor3 ha hb hc]
    simp

theorem word_byte (s : BitVec 32) (q j : Nat) (hj : j < 8) : (UInt8.ofNat (s.toNat >>> (8 * q))).toNat.testBit j = s.getLsbD (8 * q + j) := by
  rw [UInt8.toNat_ofNat', Nat.testBit_mod_two_pow, Nat.testBit_shiftRight]
  simp [hj, BitVec.getLsbD, Nat.add_comm]

/-- The lowest byte first. -/
def le4 (s : BitVec 32) : List UInt8 := [UInt8.ofNat s.toNat, UInt8.ofNat (s >>> 8).toNat, UInt8.ofNat (s >>> 16).toNat, UInt8.ofNat (s >>> 24).toNat]

theorem le4_bit (s : BitVec 32) (k : Nat) (hk : k < 32) : bitAt (le4 s) k = s.getLsbD k := by
  have e : (le4 s).getD (k / 8) 0 = UInt8.ofNat (s.toNat >>> (8 * (k / 8))) := by
    simp only [le4, BitVec.toNat_ushiftRight]
    have : k / 8 = 0 ∨ k / 8 = 1 ∨ k / 8 = 2 ∨ k / 8 = 3 := by omega
    rcases this with h | h | h | h <;> rw [h] <;> rfl
  unfold bitAt
  rw [e, word_byte _ _ _ (Nat.mod_lt _ (by omega)), Nat.div_add_mod]

theorem feed_le4 (r s : BitVec 32) : (le4 s).foldl crcByte r = crcBits 32 (r ^^^ s) := by
  rw [fold_feed]
  have := feed_word s r (bitAt (le4 s)) 0 32 (fun j hj => by rw [Nat.zero_add, le4_bit _ _ hj]) rfl
  rw [Nat.zero_add] at this
  rw [show 8 * (le4 s).length = 32 from rfl, this]
  have h2 : s >>> 32 = 0#32 := by
    apply BitVec.eq_of_toNat_eq
    have := s.isLt
    simp [Nat.shiftRight_eq_div_pow]
    exact this
  rw [h2, BitVec.xor_zero]

theorem crc_ends (bs : List UInt8) : crcMore 0#32 (bs ++ le4 (crcMore 0#32 bs)) = crcMore 0#32 [0, 0, 0, 0] := by
  have e0 : ([0, 0, 0, 0] : List UInt8) = le4 0#32 := by decide
  rw [e0]
  simp only [crcMore, List.foldl_append, feed_le4]
  generalize List.foldl crcByte (~~~ 0#32) bs = r
  have : r ^^^ ~~~ r = ~~~ 0#32 ^^^ 0#32 := by
    rw [BitVec.xor_zero]
    ext i hi
    simp only [BitVec.getElem_xor, BitVec.getElem_not, BitVec.getElem_zero]
    cases r[i] <;> rfl
  rw [this]

theorem conv_u32_u8 {s : BitVec 32} : Value.int .u8 (IntKind.u8.wrap (s.toNat : Int)) = AM.u8 (UInt8.ofNat s.toNat) := by
  rw [AM.u8, UInt8.toNat_ofNat', IntKind.wrap_u8]; congr 1
theorem conv_u32_u8' {s : BitVec 32} {h : Hp} : prim h (.convInt .u8) [.v (u32 s)] = some (.v (AM.u8 (UInt8.ofNat s.toNat)), h) := by
  rw [u32, px_convInt, conv_u32_u8]
theorem vBin_shr_u32_lit {x : BitVec 32} {n : Nat} {z : Int} (hz : z = n) {k : IntKind} : vBin .shr (u32 x) (.int k z) = some (u32 (x >>> n)) := by subst hz; exact vBin_shr_u32

theorem CrcEnds_law (H : CrcFns prog) (hp : prog "haberdash/haberdashlaw05.CrcEnds" = some f_law05_CrcEnds) {as} (h : IsAll [(.slice (.int .u8))] as) :
    ∃ G2, Ev prog (.call "haberdash/haberdashlaw05.CrcEnds" as []) (.ret (.v (.bool true)) G2) := by
  rcases as with _ | ⟨a0, _ | _⟩ <;> try (simp [IsAll] at h; done)
  obtain ⟨⟨c0, h0, rfl⟩, _⟩ := h
  obtain ⟨a, bs, rfl, v, _⟩ := is_bytes h0
  refine ⟨[], call_of_fin hp ?_⟩
  have aw (G) := awake_spec (G := G) H.more H.sum H.awake
  simp only [f_law05_CrcEnds_B, enter, List.length_cons, List.length_nil, List.replicate, Nat.reduceAdd, Nat.reduceSub, List.cons_append, List.nil_append, Ty.arg]
  simp (disch := first | (simp only [ne_eq, reduceCtorEq, not_false_eq_true, implies_true]; done) | omega) only [WS, St.guard, St.put, evalO, reduceCtorEq, reduceIte, Nat.reduceAdd, (v _).lenSlice]
  by_cases hl : (bs.length : Int) > 1000
  · simp (disch := first | (simp only [ne_eq, reduceCtorEq, not_false_eq_true, implies_true]; done) | omega) only [hl, decide_true, WS, St.guard, St.put, evalO, reduceCtorEq, reduceIte, Nat.reduceAdd]
    rw [WP_pure (x := .bool true) (aw _) rfl rfl]
    simp only [WS, St.guard, St.put, evalO, reduceCtorEq, reduceIte, Nat.reduceAdd, fin_tmp, leave_v]
    simp
  simp (disch := first | (simp only [ne_eq, reduceCtorEq, not_false_eq_true, implies_true]; done) | omega) only [hl, decide_false, WS, St.guard, St.put, evalO, reduceCtorEq, reduceIte, Nat.reduceAdd]
  have hb : bs.length ≤ 1000 := by omega
  have hs := crc_ends bs
  have hc (G) := Sum_spec (prog := prog) H.more H.sum (a := .v (.slice none 0 0)) (bs := []) (G := G) (fun L => view_nil (by omega)) (by simp)
  have hz0 : crcMore 0#32 [] = 0#32 := by decide
  rw [hz0] at hc
  rw [WP_pure (x := u32 (crcMore 0#32 bs)) (Sum_spec H.more H.sum ((v _).into bytes_lfs) (by omega)) rfl rfl]
  obtain ⟨s, hs0⟩ : ∃ s, s = crcMore 0#32 bs := ⟨_, rfl⟩
  rw [← hs0] at hs ⊢
  by_cases h0 : bs.length = 0
  · have e0 : bs = [] := List.eq_nil_of_length_eq_zero h0
    subst e0
    simp (disch := first | (simp only [ne_eq, reduceCtorEq, not_false_eq_true, implies_true]; done) | omega) only [WS, St.guard, St.put, evalO, reduceCtorEq, reduceIte, Nat.reduceAdd]
    rw [append_nil0 (v _)]
    simp (disch := first | (simp only [ne_eq, reduceCtorEq, not_false_eq_true, implies_true]; done) | omega) only [WS, St.guard, St.put, evalO, reduceCtorEq, reduceIte, Nat.reduceAdd, conv_u32_u8', vBin_shr_u32_lit (n := 8) (z := 8) rfl, vBin_shr_u32_lit (n := 16) (z := 16) rfl, vBin_shr_u32_lit (n := 24) (z := 24) rfl]
    refine (WR_eq (build1 (n := 4) (xs := (le4 s).map byteAV) (by rfl) (by rfl) (by rfl) cells_bytes bytes_lfs)).2 ?_
    simp (disch := first | (simp only [ne_eq, reduceCtorEq, not_false_eq_true, implies_true]; done) | omega) only [WS, St.guard, St.put, evalO, reduceCtorEq, reduceIte, Nat.reduceAdd, List.set_cons_zero, List.set_cons_succ]
    rw [append_nil (G := []) (site := 2) (len := 4) (bytes := 1) (cells := (le4 s).map byteAV) (own_view1 (j := 1) (len := 4) (cap := some 4) rfl rfl (by simp)) bytes_lfs rfl (by omega) (by unfold room; omega)]
    simp (disch := first | (simp only [ne_eq, reduceCtorEq, not_false_eq_true, implies_true]; done) | omega) only [WS, St.guard, St.put, evalO, reduceCtorEq, reduceIte, Nat.reduceAdd, List.set_cons_zero, List.set_cons_succ]
    rw [WP_pure (x := .bool true) (aw _) rfl rfl]
    simp (disch := first | (simp only [ne_eq, reduceCtorEq, not_false_eq_true, implies_true]; done) | omega) only [WS, St.guard, St.put, evalO, reduceCtorEq, reduceIte, Nat.reduceAdd]
    have vo : View ⟨[], [none, some (dBlk ((le4 s).map byteAV) false false), some (dBlk ((le4 s).map byteAV) true false), none]⟩ (.own (.l 2) (4 * 1) 0 4 1 none) 1 (le4 s).length ((le4 s).map byteAV) :=
      own_view1 (j := 2) rfl rfl (by simp)
    rw [WP_pure (x := u32 (crcMore 0#32 (le4 s))) (Sum_spec H.more H.sum (vo.into bytes_lfs) (by simp [le4])) rfl rfl]
    simp (disch := first | (simp only [ne_eq, reduceCtorEq, not_false_eq_true, implies_true]; done) | omega) only [WS, St.guard, St.put, evalO, reduceCtorEq, reduceIte, Nat.reduceAdd]
    refine (WR_eq (build1 (n := 4) (xs := ([0, 0, 0, 0] : List UInt8).map byteAV) (by rfl) (by rfl) (by rfl) cells_bytes bytes_lfs)).2 ?_
    simp (disch := first | (simp only [ne_eq, reduceCtorEq, not_false_eq_true, implies_true]; done) | omega) only [WS, St.guard, St.put, evalO, reduceCtorEq, reduceIte, Nat.reduceAdd, List.set_cons_zero, List.set_cons_succ]
    have vz : View ⟨[], [none, some (dBlk ((le4 s).map byteAV) false false), some (dBlk ((le4 s).map byteAV) true false), some (dBlk (([0, 0, 0, 0] : List UInt8).map byteAV) false false)]⟩ (.own (.l 3) 4 0 4 1 (some 4)) 1 ([0, 0, 0, 0] : List UInt8).length (([0, 0, 0, 0] : List UInt8).map byteAV) :=
      own_view1 (j := 3) rfl rfl (by simp)
    rw [WP_pure (x := u32 (crcMore 0#32 [0, 0, 0, 0])) (Sum_spec H.more H.sum (vz.into bytes_lfs) (by decide)) rfl rfl]
    rw [List.nil_append] at hs
    simp (disch := first | (simp only [ne_eq, reduceCtorEq, not_false_eq_true, implies_true]; done) | omega) only [WS, St.guard, St.put, evalO, reduceCtorEq, reduceIte, Nat.reduceAdd, hs]
    rw [WP_pure (x := u32 0#32) (hc _) rfl rfl]
    simp (disch := first | (simp only [ne_eq, reduceCtorEq, not_false_eq_true, implies_true]; done) | omega) only [WS, St.guard, St.put, evalO, reduceCtorEq, reduceIte, Nat.reduceAdd, c0, fin_tmp, leave_v]
    simp
  · simp (disch := first | (simp only [ne_eq, reduceCtorEq, not_false_eq_true, implies_true]; done) | omega) only [WS, St.guard, St.put, evalO, reduceCtorEq, reduceIte, Nat.reduceAdd]
    rw [append_nil (v _) bytes_lfs rfl (by omega) (by unfold room; omega), Nat.mul_one]
    simp (disch := first | (simp only [ne_eq, reduceCtorEq, not_false_eq_true, implies_true]; done) | omega) only [WS, St.guard, St.put, evalO, reduceCtorEq, reduceIte, Nat.reduceAdd, conv_u32_u8', vBin_shr_u32_lit (n := 8) (z := 8) rfl, vBin_shr_u32_lit (n := 16) (z := 16) rfl, vBin_shr_u32_lit (n := 24) (z := 24) rfl, List.set_cons_zero, List.set_cons_succ]

    refine (WR_eq (build1 (n := 4) (xs := (le4 s).map byteAV) (by rfl) (by rfl) (by rfl) cells_bytes bytes_lfs)).2 ?_
    simp (disch := first | (simp only [ne_eq, reduceCtorEq, not_false_eq_true, implies_true]; done) | omega) only [WS, St.guard, St.put, evalO, reduceCtorEq, reduceIte, Nat.reduceAdd, List.set_cons_zero, List.set_cons_succ]
    have va := append_own (G := []) (L := [some (dBlk (bs.map byteAV) true false), some (dBlk ((le4 s).map byteAV) false false), none, none]) (site := 2) (j := 0) (esz := 1) (bytes := 1) (len := bs.length) (k := 4) (x := .own (.l 1) 4 0 4 1 (some 4))
      (new := (le4 s).map byteAV) rfl (by simp) (own_view1 (j := 1) rfl rfl (by simp)) bytes_lfs (by omega) (by unfold room; omega)
    rw [Nat.mul_one, Nat.mul_one, ← List.map_append] at va
    rw [va]
    simp (disch := first | (simp only [ne_eq, reduceCtorEq, not_false_eq_true, implies_true]; done) | omega) only [WS, St.guard, St.put, evalO, reduceCtorEq, reduceIte, Nat.reduceAdd, List.set_cons_zero, List.set_cons_succ]
    rw [WP_pure (x := .bool true) (aw _) rfl rfl]
    simp (disch := first | (simp only [ne_eq, reduceCtorEq, not_false_eq_true, implies_true]; done) | omega) only [WS, St.guard, St.put, evalO, reduceCtorEq, reduceIte, Nat.reduceAdd]
    have vo : View ⟨[], [some (dBlk ((bs ++ le4 s).map byteAV) true false), some (dBlk ((le4 s).map byteAV) false false), none, none]⟩ (.own (.l 0) (bs.length + 4) 0 (bs.length + 4) 1 none) 1 (bs ++ le4 s).length ((bs ++ le4 s).map byteAV) := by
      rw [show (bs ++ le4 s).length = bs.length + 4 by simp [le4]]
      exact own_view1 (j := 0) rfl (by simp [le4]) (by simp)
    rw [WP_pure (x := u32 (crcMore 0#32 (bs ++ le4 s))) (Sum_spec H.more H.sum (vo.into bytes_lfs) (by simp [le4]; omega)) rfl rfl]
    simp (disch := first | (simp only [ne_eq, reduceCtorEq, not_false_eq_true, implies_true]; done) | omega) only [WS, St.guard, St.put, evalO, reduceCtorEq, reduceIte, Nat.reduceAdd]
    refine (WR_eq (build1 (n := 4) (xs := ([0, 0, 0, 0] : List UInt8).map byteAV) (by rfl) (by rfl) (by rfl) cells_bytes bytes_lfs)).2 ?_
    simp (disch := first | (simp only [ne_eq, reduceCtorEq, not_false_eq_true, implies_true]; done) | omega) only [WS, St.guard, St.put, evalO, reduceCtorEq, reduceIte, Nat.reduceAdd, List.set_cons_zero, List.set_cons_succ]
    have vz : View ⟨[], [some (dBlk ((bs ++ le4 s).map byteAV) true false), some (dBlk ((le4 s).map byteAV) false false), none, some (dBlk (([0, 0, 0, 0] : List UInt8).map byteAV) false false)]⟩ (.own (.l 3) 4 0 4 1 (some 4)) 1 ([0, 0, 0, 0] : List UInt8).length (([0, 0, 0, 0] : List UInt8).map byteAV) :=
      own_view1 (j := 3) rfl rfl (by simp)
    rw [WP_pure (x := u32 (crcMore 0#32 [0, 0, 0, 0])) (Sum_spec H.more H.sum (vz.into bytes_lfs) (by decide)) rfl rfl]
    simp (disch := first | (simp only [ne_eq, reduceCtorEq, not_false_eq_true, implies_true]; done) | omega) only [WS, St.guard, St.put, evalO, reduceCtorEq, reduceIte, Nat.reduceAdd, hs]
    rw [WP_pure (x := u32 0#32) (hc _) rfl rfl]
    simp (disch := first | (simp only [ne_eq, reduceCtorEq, not_false_eq_true, implies_true]; done) | omega) only [WS, St.guard, St.put, evalO, reduceCtorEq, reduceIte, Nat.reduceAdd, c0, fin_tmp, leave_v]
    simp

end Go.AM
