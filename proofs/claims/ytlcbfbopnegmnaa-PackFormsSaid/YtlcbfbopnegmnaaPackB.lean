import Derived.Test.YtlcbfbopnegmnaaPackA
set_option linter.unusedVariables false
set_option linter.unusedSimpArgs false
namespace Go.AM
variable {prog : String → Option IFn}
def nlen : Txt → Nat → Int
  | [], _ => -1
  | c :: cs, i => if c.toNat < 128 then (i : Int) + 1 else if i = 8 then 0 else nlen cs (i + 1)
def nvalN (bs : Txt) : Nat → Nat
  | 0 => 0
  | i + 1 => nvalN bs i + (bs.getD i 0).toNat % 128 * 2 ^ (7 * i)
theorem nvalN_lt {bs : Txt} : ∀ i, nvalN bs i < 2 ^ (7 * i)
  | 0 => by simp [nvalN]
  | i + 1 => by
    have ih := nvalN_lt (bs := bs) i
    have h1 : (bs.getD i 0).toNat % 128 ≤ 127 := by omega
    have h2 : (bs.getD i 0).toNat % 128 * 2 ^ (7 * i) ≤ 127 * 2 ^ (7 * i) := Nat.mul_le_mul_right _ h1
    have h3 : 2 ^ (7 * (i + 1)) = 128 * 2 ^ (7 * i) := by rw [show 7 * (i + 1) = 7 + 7 * i by omega, Nat.pow_add]
    rw [nvalN, h3]; omega
theorem or_i64 {x y : Nat} (hx : x < 2 ^ 63) (hy : y < 2 ^ 63) : vBin .or (.int .i64 (x : Int)) (.int .i64 (y : Int)) = some (.int .i64 ((x ||| y : Nat) : Int)) := by
  simp only [vBin, ne_eq, not_true_eq_false, if_false, vBits]
  have e : ((BitVec.ofInt IntKind.i64.bits (x : Int)) ||| (BitVec.ofInt IntKind.i64.bits (y : Int))).toNat = x ||| y := by
    rw [BitVec.toNat_or]
    have e1 : ∀ z : Nat, z < 2 ^ 63 → (BitVec.ofInt IntKind.i64.bits (z : Int)).toNat = z := fun z hz => by
      show (BitVec.ofInt 64 (z : Int)).toNat = z
      rw [BitVec.ofInt_natCast, BitVec.toNat_ofNat, Nat.mod_eq_of_lt (by omega)]
    rw [e1 x hx, e1 y hy]
  have := Nat.or_lt_two_pow hx hy
  rw [e, wrap_i64_nat (by omega)]
theorem shl_i64 {c i : Nat} (hc : c < 128) (hi : i ≤ 8) : vBin .shl (.int .i64 (c : Int)) (.int .i64 (7 * (i : Int))) = some (.int .i64 ((c * 2 ^ (7 * i) : Nat) : Int)) := by
  simp only [vBin]
  rw [if_neg (by omega)]
  have e : min (7 * (i : Int)).toNat IntKind.i64.bits = 7 * i := by
    show min (7 * (i : Int)).toNat 64 = 7 * i
    omega
  rw [e]
  have h1 : c * 2 ^ (7 * i) < 2 ^ 63 := Nat.lt_of_le_of_lt (Nat.mul_le_mul (show c ≤ 127 by omega) (Nat.pow_le_pow_right (show 0 < 2 by omega) (show 7 * i ≤ 56 by omega))) (by decide)
  have e2 : (c : Int) * 2 ^ (7 * i) = ((c * 2 ^ (7 * i) : Nat) : Int) := by simp
  rw [e2, wrap_i64_nat (by omega)]
theorem and127u8 {b : UInt8} : vBin .and (u8 b) (.int .u8 127) = some (u8 (b &&& 127)) := by
  rw [show Value.int .u8 127 = u8 127 from congrArg (Value.int .u8) (by decide)]
  exact vBin_and_u8
theorem conv_u8_i64 {b : UInt8} {h : Hp} : prim h (.convInt .i64) [.v (u8 b)] = some (.v (.int .i64 ((b.toNat : Nat) : Int)), h) := by
  show prim h (.convInt .i64) [.v (.int .u8 _)] = _
  rw [px_convInt]
  have := b.toNat_lt
  rw [wrap_i64_nat (by omega)]
theorem and127_nat {b : UInt8} : (b &&& 127).toNat = b.toNat % 128 := by
  rw [UInt8.toNat_and]
  exact Nat.and_two_pow_sub_one_eq_mod b.toNat 7
theorem lss_u8 {b : UInt8} : vBin .lss (u8 b) (.int .u8 128) = some (.bool (decide (b.toNat < 128))) := by
  show vBin .lss (.int .u8 _) _ = _
  rw [vBin_lss]
  exact congrArg (fun b => some (Value.bool b)) (by rw [decide_eq_decide]; omega)
theorem eql0_u8 {b : UInt8} : vBin .eql (u8 b) (.int .u8 0) = some (.bool (decide (b = 0))) := by
  show vBin .eql (.int .u8 _) _ = _
  rw [vBin_eql]
  refine congrArg (fun b => some (Value.bool b)) ?_
  rw [Bool.eq_iff_iff]
  simp only [beq_iff_eq, decide_eq_true_eq]
  constructor
  · intro h
    exact UInt8.toNat_inj.1 (by simpa using h)
  · rintro rfl; rfl
theorem lor_add {x c i : Nat} (h : x < 2 ^ (7 * i)) : x ||| c * 2 ^ (7 * i) = x + c * 2 ^ (7 * i) := by
  rw [Nat.or_comm, Nat.mul_comm, ← Nat.two_pow_add_eq_or_of_lt h c, Nat.add_comm]
def rdB (a : AV) (e : Int) : Option Blk := some (sBlk [a, .v (.int .i64 e)] a.lf)
structure RdA (G : List (Option Blk)) (p : Nat) (a : AV) (bs : Txt) : Prop where
  v : ∀ L, View ⟨G, L⟩ a 1 bs.length (bs.map byteAV)
  lt : a.labs.all (labLt p) = true
  big : bs.length ≤ 2 ^ 40
variable {G : List (Option Blk)} {p : Nat} {a : AV} {bs : Txt} {e : Int}
theorem rd_load0 (hp : G[p]? = some (rdB a e)) : ∀ L, prim ⟨G, L⟩ (.load 1 false) [.ptr (.o p) 2 0] = some (a, ⟨G, L⟩) := fun L => by rw [px_load_o, hp]; rfl
theorem rd_load1 (hp : G[p]? = some (rdB a e)) : ∀ L, prim ⟨G, L⟩ (.load 1 false) [.ptr (.o p) 2 1] = some (.v (.int .i64 e), ⟨G, L⟩) := fun L => by rw [px_load_o, hp]; rfl
theorem rd_store1 {e' : Int} (hp : G[p]? = some (rdB a e)) : ∀ L, prim ⟨G, L⟩ (.store 1 false) [.ptr (.o p) 2 1, .v (.int .i64 e')] = some (.v undef, ⟨G.set p (rdB a e'), L⟩) := fun L => by
  rw [px_store, cells_int]
  simp only [Option.bind_some, Hp.mayFreeze, Bool.false_eq_true, if_false, Hp.get, hp, rdB, Option.join_some]
  refine (if_pos ⟨rfl, rfl, rfl, by omega, rfl⟩).trans ?_
  simp only [sBlk, Hp.put, AV.lf.lfs, AV.lf, Bool.and_true]
  rfl
theorem rd_store0 {a' : AV} (hp : G[p]? = some (rdB a e)) (hc : a'.cellsOf = some [a']) (hl : a'.lf = a.lf) (ht : a'.labs.all (labLt p) = true) :
    ∀ L, prim ⟨G, L⟩ (.store 1 false) [.ptr (.o p) 2 0, a'] = some (.v undef, ⟨G.set p (rdB a' e), L⟩) := fun L => by
  rw [px_store, hc]
  simp only [Option.bind_some, Hp.mayFreeze, Bool.false_eq_true, if_false, Hp.get, hp, rdB, Option.join_some]
  refine (if_pos ⟨rfl, rfl, rfl, by omega, by simp [okPut, AV.labs.labss, ht]⟩).trans ?_
  simp only [sBlk, Hp.put, AV.lf.lfs, Bool.and_true, hl, Bool.and_self]
  rfl
theorem sub_facts {h : Hp} {len cells} (v : View h a 1 len cells) {i j : Nat} : (AM.sub a 1 i j).cellsOf = some [AM.sub a 1 i j] ∧ (AM.sub a 1 i j).lf = a.lf ∧ (AM.sub a 1 i j).labs = a.labs := by
  rcases v.cases with ⟨rfl, rfl, rfl⟩ | ⟨nl, rfl⟩ | ⟨ℓ, n, off, cap, B, rfl, hB, hn, hc, hl⟩ <;> exact ⟨rfl, rfl, rfl⟩
theorem Err_spec (H : PackLib prog) (hp : G[p]? = some (rdB a e)) : Ev prog (.call "(*haberdash/pack.Reader).Err" [.ptr (.o p) 2 0] G) (.ret (.v (.int .i64 e)) G) := by
  refine call_of_fin H.rderr ?_
  simp only [f___pack_Reader__Err_B, enter, List.length_cons, List.length_nil, List.replicate, Nat.reduceAdd, Nat.reduceSub, List.cons_append, List.nil_append]
  simp (disch := first | (simp only [ne_eq, reduceCtorEq, not_false_eq_true, implies_true, List.getElem?_cons_zero, List.getElem?_cons_succ]; done) | omega) only [WS, St.guard, St.put, evalO, reduceCtorEq, reduceIte, Nat.reduceAdd, Nat.reduceEqDiff, isNilV, Hp.isNil, rd_load1 hp, fin_tmp, leave_v]
  simp
theorem fail_spec (H : PackLib prog) {e' : Int} (hp : G[p]? = some (rdB a e)) : Ev prog (.call "(*haberdash/pack.Reader).fail" [.ptr (.o p) 2 0, .v (.int .i64 e')] G) (.ret (.v (.int .i64 0)) (G.set p (rdB a e'))) := by
  refine call_of_fin H.rdfail ?_
  simp only [f___pack_Reader__fail_B, enter, List.length_cons, List.length_nil, List.replicate, Nat.reduceAdd, Nat.reduceSub, List.cons_append, List.nil_append]
  simp (disch := first | (simp only [ne_eq, reduceCtorEq, not_false_eq_true, implies_true, List.getElem?_cons_zero, List.getElem?_cons_succ]; done) | omega) only [WS, St.guard, St.put, evalO, reduceCtorEq, reduceIte, Nat.reduceAdd, Nat.reduceEqDiff, rd_store1 hp, fin_tmp, leave_v]
  simp
theorem fail_op (H : PackLib prog) {e' : Int} (hp : G[p]? = some (rdB a e)) :
    Ev prog (.op (.call "(*haberdash/pack.Reader).fail" []) [.ptr (.o p) 2 0, .v (.int .i64 e')] ⟨G, []⟩) (.val (.v (.int .i64 0)) ⟨G.set p (rdB a e'), []⟩) :=
  op_turn ⟨G.set p (rdB a e'), []⟩ (by rw [into_nil, into_nil]; exact fail_spec H hp) rfl (by simp) rfl trivial trivial
theorem Err_op (H : PackLib prog) (hp : G[p]? = some (rdB a e)) :
    Ev prog (.op (.call "(*haberdash/pack.Reader).Err" []) [.ptr (.o p) 2 0] ⟨G, []⟩) (.val (.v (.int .i64 e)) ⟨G, []⟩) :=
  op_turn ⟨G, []⟩ (by rw [into_nil]; exact Err_spec H hp) rfl rfl rfl trivial trivial
theorem nlen_drop {bs : Txt} {i : Nat} (hi : i < bs.length) : nlen (bs.drop i) i = if (bs.getD i 0).toNat < 128 then (i : Int) + 1 else if i = 8 then 0 else nlen (bs.drop (i + 1)) (i + 1) := by
  rw [List.drop_eq_getElem_cons hi, nlen, List.getD_eq_getElem?_getD, List.getElem?_eq_getElem hi]; rfl
theorem length_spec (H : PackLib prog) (hp : G[p]? = some (rdB a e)) (R : RdA G p a bs) : Ev prog (.call "(*haberdash/pack.Reader).length" [.ptr (.o p) 2 0] G) (.ret (.v (.int .i64 (nlen bs 0))) G) := by
  have hbig := R.big
  refine call_of_fin H.rdlen ?_
  simp only [f___pack_Reader__length_B, enter, List.length_cons, List.length_nil, List.replicate, Nat.reduceAdd, Nat.reduceSub, List.cons_append, List.nil_append]
  simp (disch := first | (simp only [ne_eq, reduceCtorEq, not_false_eq_true, implies_true, List.getElem?_cons_zero, List.getElem?_cons_succ]; done) | omega) only [WS, St.guard, St.put, evalO, reduceCtorEq, reduceIte, Nat.reduceAdd, Nat.reduceEqDiff, rd_load0 hp, (R.v _).lenSlice]
  refine WC_countP (fun i => nlen bs 0 = nlen (bs.drop i) i) (fun i => ⟨f___pack_Reader__length_H0 a (.v (.int .i64 (bs.length : Nat))) (.v (.int .i64 (i : Nat))), ⟨G, []⟩⟩) bs.length ?_ rfl (fun i hi hpi => ?_) (fun hpi => ?_)
  · simp only [clear_nil, List.foldl_cons, List.foldl_nil, Option.some.injEq, List.map_cons, List.map_nil, List.getD_cons_zero, List.getD_cons_succ, List.set_cons_zero, List.set_cons_succ, Option.map_some, Option.bind_some, ne_eq, reduceCtorEq, not_false_eq_true, implies_true, beq_self_eq_true, BEq.rfl, if_true, if_false, Bool.false_eq_true, not_true_eq_false, Option.some.injEq, reduceIte, Bool.not_true, Bool.not_false, beq_true, beq_false, Bool.true_and, Bool.and_true, Bool.false_and, Bool.and_false, true_and, List.getElem?_cons_zero, List.getElem?_cons_succ, List.length_cons, List.length_nil, Nat.reduceAdd] <;> rfl
  · have hlt' : (i : Int) < (bs.length : Int) := by omega
    have ld : prim ⟨G, []⟩ (.load 1 false) [elemPtr a 1 i] = some (.v (u8 (bs.getD i 0)), ⟨G, []⟩) := (R.v []).load1 (by rw [List.getElem?_map, List.getElem?_eq_getElem hi, List.getD_eq_getElem?_getD, List.getElem?_eq_getElem hi]; rfl)
    rw [nlen_drop hi] at hpi
    simp (disch := first | (simp only [ne_eq, reduceCtorEq, not_false_eq_true, implies_true, List.getElem?_cons_zero, List.getElem?_cons_succ]; done) | omega) only [f___pack_Reader__length_L0, f___pack_Reader__length_H0, WS, St.guard, St.put, evalO, reduceCtorEq, reduceIte, Nat.reduceAdd, Nat.reduceEqDiff, hlt', decide_true, (R.v _).index hi, ld, lss_u8]
    by_cases hc : (bs.getD i 0).toNat < 128
    · rw [if_pos hc] at hpi
      simp (disch := first | (simp only [ne_eq, reduceCtorEq, not_false_eq_true, implies_true, List.getElem?_cons_zero, List.getElem?_cons_succ]; done) | omega) only [WS, St.guard, St.put, evalO, reduceCtorEq, reduceIte, Nat.reduceAdd, Nat.reduceEqDiff, hc, decide_true, vBin_add_i64, fin_tmp, leave_v, hpi]
      simp
    · rw [if_neg hc] at hpi
      by_cases h8 : i = 8
      · rw [if_pos h8] at hpi
        have e8 : ((i : Int) == 8) = true := by rw [beq_iff_eq]; omega
        simp (disch := first | (simp only [ne_eq, reduceCtorEq, not_false_eq_true, implies_true, List.getElem?_cons_zero, List.getElem?_cons_succ]; done) | omega) only [WS, St.guard, St.put, evalO, reduceCtorEq, reduceIte, Nat.reduceAdd, Nat.reduceEqDiff, hc, decide_false, e8, fin_tmp, leave_v, hpi]
        simp
      · rw [if_neg h8] at hpi
        have e8 : ((i : Int) == 8) = false := by rw [beq_eq_false_iff_ne]; omega
        simp (disch := first | (simp only [ne_eq, reduceCtorEq, not_false_eq_true, implies_true, List.getElem?_cons_zero, List.getElem?_cons_succ]; done) | omega) only [WS, St.guard, St.put, evalO, reduceCtorEq, reduceIte, Nat.reduceAdd, Nat.reduceEqDiff, hc, decide_false, e8, vBin_add_i64, clear_nil, List.foldl_cons, List.foldl_nil, Option.some.injEq]
        exact ⟨rfl, hpi⟩
  · have : nlen bs 0 = -1 := by rw [hpi, List.drop_of_length_le (Nat.le_refl _)]; rfl
    simp (disch := first | (simp only [ne_eq, reduceCtorEq, not_false_eq_true, implies_true, List.getElem?_cons_zero, List.getElem?_cons_succ]; done) | omega) only [f___pack_Reader__length_L0, f___pack_Reader__length_H0, WS, St.guard, St.put, evalO, reduceCtorEq, reduceIte, Nat.reduceAdd, Nat.reduceEqDiff, decide_false, fin_tmp, leave_v, this]
    simp
theorem length_op (H : PackLib prog) (hp : G[p]? = some (rdB a e)) (R : RdA G p a bs) :
    Ev prog (.op (.call "(*haberdash/pack.Reader).length" []) [.ptr (.o p) 2 0] ⟨G, []⟩) (.val (.v (.int .i64 (nlen bs 0))) ⟨G, []⟩) :=
  op_turn ⟨G, []⟩ (by rw [into_nil]; exact length_spec H hp R) rfl rfl rfl trivial trivial
def rnum (bs : Txt) (least most : Int) : Int × Nat × Int :=
  if nlen bs 0 < 0 then (0, 0, 3) else if nlen bs 0 = 0 then (0, 0, 4) else
  if 1 < (nlen bs 0).toNat ∧ bs.getD ((nlen bs 0).toNat - 1) 0 = 0 then (0, 0, 4) else
  if (nvalN bs (nlen bs 0).toNat : Int) < least ∨ most < (nvalN bs (nlen bs 0).toNat : Int) then (0, 0, 4) else (nvalN bs (nlen bs 0).toNat, (nlen bs 0).toNat, 0)
theorem nlen_le : ∀ {bs : Txt} {i : Nat}, i ≤ 8 → nlen bs i ≤ 9 ∧ nlen bs i ≤ (i + bs.length : Nat)
  | [], i, h => by simp [nlen] <;> omega
  | c :: cs, i, h => by
    unfold nlen
    split
    · simp; omega
    · split
      · simp; omega
      · have := nlen_le (bs := cs) (i := i + 1) (by omega)
        simp only [List.length_cons]
        omega
theorem RdA.set {B : Option Blk} (R : RdA G p a bs) : RdA (G.set p B) p a bs := by
  refine ⟨fun L => ?_, R.lt, R.big⟩
  refine (R.v L).ofGet fun ℓ n off l es c ha => ?_
  have hl := R.lt
  rw [ha] at hl
  simp only [AV.labs, List.all_cons, List.all_nil, Bool.and_true] at hl
  cases ℓ with
  | l k => simp [labLt] at hl
  | o q =>
    simp only [labLt, decide_eq_true_eq] at hl
    simp only [Hp.get]
    rw [List.getElem?_set, if_neg (by omega)]
theorem Num_err (H : PackLib prog) {least most : Int} (hp : G[p]? = some (rdB a e)) (he : e ≠ 0) : Ev prog (.call "(*haberdash/pack.Reader).Num" [.ptr (.o p) 2 0, .v (.int .i64 least), .v (.int .i64 most)] G) (.ret (.v (.int .i64 0)) G) := by
  refine call_of_fin H.rdnum ?_
  simp only [f___pack_Reader__Num_B, enter, List.length_cons, List.length_nil, List.replicate, Nat.reduceAdd, Nat.reduceSub, List.cons_append, List.nil_append]
  simp (disch := first | (simp only [ne_eq, reduceCtorEq, not_false_eq_true, implies_true, List.getElem?_cons_zero, List.getElem?_cons_succ]; done) | omega) only [WS, St.guard, St.put, evalO, reduceCtorEq, reduceIte, Nat.reduceAdd, Nat.reduceEqDiff]
  refine WP_of (Err_op H hp) ?_
  have h1 : (e != 0) = true := by rw [bne_iff_ne]; exact he
  simp (disch := first | (simp only [ne_eq, reduceCtorEq, not_false_eq_true, implies_true, List.getElem?_cons_zero, List.getElem?_cons_succ]; done) | omega) only [WS, St.guard, St.put, evalO, reduceCtorEq, reduceIte, Nat.reduceAdd, Nat.reduceEqDiff, h1, fin_tmp, leave_v]
  simp
theorem Num_spec (H : PackLib prog) {least most : Int} (hp : G[p]? = some (rdB a 0)) (R : RdA G p a bs) :
    Ev prog (.call "(*haberdash/pack.Reader).Num" [.ptr (.o p) 2 0, .v (.int .i64 least), .v (.int .i64 most)] G)
      (.ret (.v (.int .i64 (rnum bs least most).1)) (G.set p (rdB (AM.sub a 1 (rnum bs least most).2.1 bs.length) (rnum bs least most).2.2))) := by
  have hbig := R.big
  refine call_of_fin H.rdnum ?_
  simp only [f___pack_Reader__Num_B, enter, List.length_cons, List.length_nil, List.replicate, Nat.reduceAdd, Nat.reduceSub, List.cons_append, List.nil_append]
  simp (disch := first | (simp only [ne_eq, reduceCtorEq, not_false_eq_true, implies_true, List.getElem?_cons_zero, List.getElem?_cons_succ]; done) | omega) only [WS, St.guard, St.put, evalO, reduceCtorEq, reduceIte, Nat.reduceAdd, Nat.reduceEqDiff]
  refine WP_of (Err_op H hp) ?_
  have h1 : ((0 : Int) != 0) = false := by decide
  simp (disch := first | (simp only [ne_eq, reduceCtorEq, not_false_eq_true, implies_true, List.getElem?_cons_zero, List.getElem?_cons_succ]; done) | omega) only [WS, St.guard, St.put, evalO, reduceCtorEq, reduceIte, Nat.reduceAdd, Nat.reduceEqDiff, h1]
  refine WP_of (length_op H hp R) ?_
  have hle := nlen_le (bs := bs) (i := 0) (by omega)
  have sub0 : AM.sub a 1 0 bs.length = a := by
    rcases (R.v []).cases with ⟨rfl, h1, h2⟩ | ⟨nl, rfl⟩ | ⟨ℓ, n, off, cap, B, rfl, hB, hn, hc, hl⟩
    · rfl
    · simp only [AM.sub, Nat.zero_mul, List.drop_zero, Nat.sub_zero, Nat.mul_one]
      rw [List.take_of_length_le (by simp)]
    · simp only [AM.sub, Nat.zero_mul, Nat.add_zero, Nat.sub_zero]
      cases cap <;> rfl
  by_cases hneg : nlen bs 0 < 0
  · have hr : rnum bs least most = (0, 0, 3) := by unfold rnum; rw [if_pos hneg]
    simp (disch := first | (simp only [ne_eq, reduceCtorEq, not_false_eq_true, implies_true, List.getElem?_cons_zero, List.getElem?_cons_succ]; done) | omega) only [WS, St.guard, St.put, evalO, reduceCtorEq, reduceIte, Nat.reduceAdd, Nat.reduceEqDiff, hneg, decide_true]
    refine WP_of (fail_op H hp) ?_
    simp (disch := first | (simp only [ne_eq, reduceCtorEq, not_false_eq_true, implies_true, List.getElem?_cons_zero, List.getElem?_cons_succ]; done) | omega) only [WS, St.guard, St.put, evalO, reduceCtorEq, reduceIte, Nat.reduceAdd, Nat.reduceEqDiff, fin_tmp, leave_v, hr, sub0]
    simp
  by_cases hz : nlen bs 0 = 0
  · have hr : rnum bs least most = (0, 0, 4) := by unfold rnum; rw [if_neg hneg, if_pos hz]
    simp (disch := first | (simp only [ne_eq, reduceCtorEq, not_false_eq_true, implies_true, List.getElem?_cons_zero, List.getElem?_cons_succ]; done) | omega) only [WS, St.guard, St.put, evalO, reduceCtorEq, reduceIte, Nat.reduceAdd, Nat.reduceEqDiff, hneg, decide_false, hz]
    refine WP_of (fail_op H hp) ?_
    simp (disch := first | (simp only [ne_eq, reduceCtorEq, not_false_eq_true, implies_true, List.getElem?_cons_zero, List.getElem?_cons_succ]; done) | omega) only [WS, St.guard, St.put, evalO, reduceCtorEq, reduceIte, Nat.reduceAdd, Nat.reduceEqDiff, fin_tmp, leave_v, hr, sub0]
    simp
  obtain ⟨n, hn⟩ : ∃ n : Nat, nlen bs 0 = (n : Int) := ⟨(nlen bs 0).toNat, by omega⟩
  have hn9 : n ≤ 9 := by omega
  have hnl : n ≤ bs.length := by omega
  have hn0 : 0 < n := by omega
  have ez : ((n : Int) == 0) = false := by rw [beq_eq_false_iff_ne]; omega
  have ldi : ∀ (i : Nat), i < bs.length → prim ⟨G, []⟩ (.load 1 false) [elemPtr a 1 i] = some (.v (u8 (bs.getD i 0)), ⟨G, []⟩) := fun i hi =>
    (R.v []).load1 (by rw [List.getElem?_map, List.getElem?_eq_getElem hi, List.getD_eq_getElem?_getD, List.getElem?_eq_getElem hi]; rfl)
  have hrn : rnum bs least most = if 1 < n ∧ bs.getD (n - 1) 0 = 0 then (0, 0, 4) else if (nvalN bs n : Int) < least ∨ most < (nvalN bs n : Int) then (0, 0, 4) else (((nvalN bs n : Nat) : Int), n, 0) := by
    unfold rnum; rw [if_neg hneg, if_neg hz, hn]; rfl
  rw [hn] at hneg ⊢
  have e1 : (n : Int) - 1 = ((n - 1 : Nat) : Int) := by omega
  by_cases hlast : 1 < n ∧ bs.getD (n - 1) 0 = 0
  · rw [if_pos hlast] at hrn
    have hgt : (n : Int) > 1 := by omega
    simp (disch := first | (simp only [ne_eq, reduceCtorEq, not_false_eq_true, implies_true, List.getElem?_cons_zero, List.getElem?_cons_succ]; done) | omega) only [WS, St.guard, St.put, evalO, reduceCtorEq, reduceIte, Nat.reduceAdd, Nat.reduceEqDiff, hneg, decide_false, ez, hgt, decide_true, rd_load0 hp, vBin_sub_i64, e1, (R.v _).index (show n - 1 < bs.length by omega), ldi (n - 1) (by omega), eql0_u8, hlast.2]
    refine WP_of (fail_op H hp) ?_
    simp (disch := first | (simp only [ne_eq, reduceCtorEq, not_false_eq_true, implies_true, List.getElem?_cons_zero, List.getElem?_cons_succ]; done) | omega) only [WS, St.guard, St.put, evalO, reduceCtorEq, reduceIte, Nat.reduceAdd, Nat.reduceEqDiff, fin_tmp, leave_v, hrn, sub0]
    simp
  rw [if_neg hlast] at hrn
  have vsl := (R.v []).sub (Nat.zero_le n) hnl
  have ssl : prim ⟨G, []⟩ (.slice 1 false true false) [a, .v (.int .i64 (n : Int))] = some (AM.sub a 1 0 n, ⟨G, []⟩) := (R.v []).sliceHi hnl
  have ldv : ∀ (i : Nat), i < n → prim ⟨G, []⟩ (.load 1 false) [elemPtr (AM.sub a 1 0 n) 1 i] = some (.v (u8 (bs.getD i 0)), ⟨G, []⟩) := fun i hi =>
    vsl.load1 (by rw [Nat.zero_mul, List.drop_zero, Nat.sub_zero, Nat.mul_one, List.getElem?_take, if_pos hi, List.getElem?_map, List.getElem?_eq_getElem (by omega), List.getD_eq_getElem?_getD, List.getElem?_eq_getElem (by omega)]; rfl)
  have hg1 : n = 1 ∨ ((n : Int) > 1 ∧ bs.getD (n - 1) 0 ≠ 0) := by
    by_cases h1 : n = 1
    · exact .inl h1
    · exact .inr ⟨by omega, fun h => hlast ⟨by omega, h⟩⟩
  rcases hg1 with h1 | ⟨hgt, hne⟩
  case' inl =>
    have hgt : ¬ ((n : Int) > 1) := by omega
    simp (disch := first | (simp only [ne_eq, reduceCtorEq, not_false_eq_true, implies_true, List.getElem?_cons_zero, List.getElem?_cons_succ]; done) | omega) only [WS, St.guard, St.put, evalO, reduceCtorEq, reduceIte, Nat.reduceAdd, Nat.reduceEqDiff, hneg, decide_false, ez, hgt, rd_load0 hp, ssl, vsl.lenSlice]
  case' inr =>
    simp (disch := first | (simp only [ne_eq, reduceCtorEq, not_false_eq_true, implies_true, List.getElem?_cons_zero, List.getElem?_cons_succ]; done) | omega) only [WS, St.guard, St.put, evalO, reduceCtorEq, reduceIte, Nat.reduceAdd, Nat.reduceEqDiff, hneg, decide_false, ez, hgt, decide_true, rd_load0 hp, vBin_sub_i64, e1, (R.v _).index (show n - 1 < bs.length by omega), ldi (n - 1) (by omega), eql0_u8, hne, ssl, vsl.lenSlice]
  all_goals
    rw [Nat.sub_zero]
    refine WC_count (fun i => ⟨f___pack_Reader__Num_H0 (.ptr (.o p) 2 0) (.v (.int .i64 least)) (.v (.int .i64 most)) (.v (.int .i64 (n : Nat))) (.v (.int .i64 (nvalN bs i : Nat))) (AM.sub a 1 0 n) (.v (.int .i64 (n : Nat))) (.v (.int .i64 (i : Nat))), ⟨G, []⟩⟩) n ?_ (fun i hi => ?_) ?_
    · simp only [clear_nil, List.foldl_cons, List.foldl_nil, Option.some.injEq, List.map_cons, List.map_nil, List.getD_cons_zero, List.getD_cons_succ, List.set_cons_zero, List.set_cons_succ, Option.map_some, Option.bind_some, ne_eq, reduceCtorEq, not_false_eq_true, implies_true, beq_self_eq_true, BEq.rfl, if_true, if_false, Bool.false_eq_true, not_true_eq_false, Option.some.injEq, reduceIte, Bool.not_true, Bool.not_false, beq_true, beq_false, Bool.true_and, Bool.and_true, Bool.false_and, Bool.and_false, true_and, List.getElem?_cons_zero, List.getElem?_cons_succ, List.length_cons, List.length_nil, Nat.reduceAdd] <;> rfl
    · have hlt' : (i : Int) < (n : Int) := by omega
      have hb := (bs.getD i 0).toNat_lt
      have hv := nvalN_lt (bs := bs) i
      have hp7 : 2 ^ (7 * i) ≤ 2 ^ 56 := Nat.pow_le_pow_right (by omega) (by omega)
      have hc : (bs.getD i 0).toNat % 128 < 128 := by omega
      have hcm : (bs.getD i 0).toNat % 128 * 2 ^ (7 * i) < 2 ^ 63 := Nat.lt_of_le_of_lt (Nat.mul_le_mul (show (bs.getD i 0).toNat % 128 ≤ 127 by omega) hp7) (by decide)
      have hor := or_i64 (x := nvalN bs i) (y := (bs.getD i 0).toNat % 128 * 2 ^ (7 * i)) (by omega) hcm
      rw [lor_add hv] at hor
      simp (disch := first | (simp only [ne_eq, reduceCtorEq, not_false_eq_true, implies_true, List.getElem?_cons_zero, List.getElem?_cons_succ]; done) | omega) only [f___pack_Reader__Num_L0, f___pack_Reader__Num_H0, WS, St.guard, St.put, evalO, reduceCtorEq, reduceIte, Nat.reduceAdd, Nat.reduceEqDiff, hlt', decide_true, vsl.index (show i < n - 0 by omega), ldv i hi, and127u8, conv_u8_i64, and127_nat, vBin_mul_i64, shl_i64 hc (show i ≤ 8 by omega), hor, vBin_add_i64, clear_nil, List.foldl_cons, List.foldl_nil, Option.some.injEq]
      rfl
    · have hv := nvalN_lt (bs := bs) n
      simp (disch := first | (simp only [ne_eq, reduceCtorEq, not_false_eq_true, implies_true, List.getElem?_cons_zero, List.getElem?_cons_succ]; done) | omega) only [f___pack_Reader__Num_L0, f___pack_Reader__Num_H0, WS, St.guard, St.put, evalO, reduceCtorEq, reduceIte, Nat.reduceAdd, Nat.reduceEqDiff, decide_false]
      by_cases hlo : (nvalN bs n : Int) < least
      · rw [if_pos (.inl hlo)] at hrn
        simp (disch := first | (simp only [ne_eq, reduceCtorEq, not_false_eq_true, implies_true, List.getElem?_cons_zero, List.getElem?_cons_succ]; done) | omega) only [WS, St.guard, St.put, evalO, reduceCtorEq, reduceIte, Nat.reduceAdd, Nat.reduceEqDiff, hlo, decide_true]
        refine WP_of (fail_op H hp) ?_
        simp (disch := first | (simp only [ne_eq, reduceCtorEq, not_false_eq_true, implies_true, List.getElem?_cons_zero, List.getElem?_cons_succ]; done) | omega) only [WS, St.guard, St.put, evalO, reduceCtorEq, reduceIte, Nat.reduceAdd, Nat.reduceEqDiff, fin_tmp, leave_v, hrn, sub0]
        simp
      by_cases hhi : (nvalN bs n : Int) > most
      · rw [if_pos (.inr hhi)] at hrn
        simp (disch := first | (simp only [ne_eq, reduceCtorEq, not_false_eq_true, implies_true, List.getElem?_cons_zero, List.getElem?_cons_succ]; done) | omega) only [WS, St.guard, St.put, evalO, reduceCtorEq, reduceIte, Nat.reduceAdd, Nat.reduceEqDiff, hlo, hhi, decide_true, decide_false]
        refine WP_of (fail_op H hp) ?_
        simp (disch := first | (simp only [ne_eq, reduceCtorEq, not_false_eq_true, implies_true, List.getElem?_cons_zero, List.getElem?_cons_succ]; done) | omega) only [WS, St.guard, St.put, evalO, reduceCtorEq, reduceIte, Nat.reduceAdd, Nat.reduceEqDiff, fin_tmp, leave_v, hrn, sub0]
        simp
      rw [if_neg (by omega)] at hrn
      have sf := sub_facts (R.v []) (i := n) (j := bs.length)
      simp (disch := first | (simp only [ne_eq, reduceCtorEq, not_false_eq_true, implies_true, List.getElem?_cons_zero, List.getElem?_cons_succ]; done) | omega) only [WS, St.guard, St.put, evalO, reduceCtorEq, reduceIte, Nat.reduceAdd, Nat.reduceEqDiff, hlo, hhi, decide_false, rd_load0 hp, (R.v _).sliceLo hnl]
      refine (WR_eq (rd_store0 hp sf.1 sf.2.1 (by rw [sf.2.2]; exact R.lt) [])).2 ?_
      simp (disch := first | (simp only [ne_eq, reduceCtorEq, not_false_eq_true, implies_true, List.getElem?_cons_zero, List.getElem?_cons_succ]; done) | omega) only [WS, St.guard, St.put, evalO, reduceCtorEq, reduceIte, Nat.reduceAdd, Nat.reduceEqDiff, fin_tmp, leave_v, hrn]
      simp
end Go.AM
namespace Go.AM
variable {prog : String → Option IFn}
variable {G : List (Option Blk)} {p : Nat} {a : AV} {bs : Txt} {e : Int}
theorem RdA.drop (R : RdA G p a bs) {k : Nat} (hk : k ≤ bs.length) : RdA G p (AM.sub a 1 k bs.length) (bs.drop k) := by
  refine ⟨fun L => ?_, by rw [(sub_facts (R.v [])).2.2]; exact R.lt, by rw [List.length_drop]; have := R.big; omega⟩
  have := (R.v L).sub hk (Nat.le_refl _)
  rw [Nat.mul_one, Nat.mul_one, ← List.map_drop, List.take_of_length_le (by simp)] at this
  rw [List.length_drop]
  exact this
theorem sub_sub (R : RdA G p a bs) {i j : Nat} (h : i + j ≤ bs.length) : AM.sub (AM.sub a 1 i bs.length) 1 j (bs.length - i) = AM.sub a 1 (i + j) bs.length := by
  rcases (R.v []).cases with ⟨rfl, h1, h2⟩ | ⟨nl, rfl⟩ | ⟨ℓ, n, off, cap, B, rfl, hB, hn, hc, hl⟩
  · rfl
  · simp only [AM.sub, Nat.mul_one]
    rw [List.drop_take, List.drop_drop, List.take_take, Nat.sub_sub, Nat.min_eq_left (by omega)]
  · simp only [AM.sub, Nat.mul_one]
    cases cap <;> simp [Nat.sub_sub, Nat.add_assoc]
def endV (e : Int) (n : Nat) : Int := if e ≠ 0 then e else if 0 < n then 4 else 0
theorem End_spec (H : PackLib prog) (hp : G[p]? = some (rdB a e)) (R : RdA G p a bs) : Ev prog (.call "(*haberdash/pack.Reader).End" [.ptr (.o p) 2 0] G) (.ret (.v (.int .i64 (endV e bs.length))) G) := by
  refine call_of_fin H.rdend ?_
  simp only [f___pack_Reader__End_B, enter, List.length_cons, List.length_nil, List.replicate, Nat.reduceAdd, Nat.reduceSub, List.cons_append, List.nil_append]
  simp (disch := first | (simp only [ne_eq, reduceCtorEq, not_false_eq_true, implies_true, List.getElem?_cons_zero, List.getElem?_cons_succ]; done) | omega) only [WS, St.guard, St.put, evalO, reduceCtorEq, reduceIte, Nat.reduceAdd, Nat.reduceEqDiff]
  refine WP_of (Err_op H hp) ?_
  by_cases he : e = 0
  · have h1 : (e != 0) = false := by rw [bne_eq_false_iff_eq]; exact he
    by_cases hn : 0 < bs.length
    · have hE : endV e bs.length = 4 := by unfold endV; rw [if_neg (by simpa using he), if_pos hn]
      simp (disch := first | (simp only [ne_eq, reduceCtorEq, not_false_eq_true, implies_true, List.getElem?_cons_zero, List.getElem?_cons_succ]; done) | omega) only [WS, St.guard, St.put, evalO, reduceCtorEq, reduceIte, Nat.reduceAdd, Nat.reduceEqDiff, h1, rd_load0 hp, (R.v _).lenSlice, show (bs.length : Int) > 0 from by omega, decide_true, fin_tmp, leave_v, hE]
      simp
    · have hE : endV e bs.length = 0 := by unfold endV; rw [if_neg (by simpa using he), if_neg hn]
      simp (disch := first | (simp only [ne_eq, reduceCtorEq, not_false_eq_true, implies_true, List.getElem?_cons_zero, List.getElem?_cons_succ]; done) | omega) only [WS, St.guard, St.put, evalO, reduceCtorEq, reduceIte, Nat.reduceAdd, Nat.reduceEqDiff, h1, rd_load0 hp, (R.v _).lenSlice, show ¬ ((bs.length : Int) > 0) from by omega, decide_false, fin_tmp, leave_v, hE]
      simp
  · have h1 : (e != 0) = true := by rw [bne_iff_ne]; exact he
    have hE : endV e bs.length = e := by unfold endV; rw [if_pos he]
    simp (disch := first | (simp only [ne_eq, reduceCtorEq, not_false_eq_true, implies_true, List.getElem?_cons_zero, List.getElem?_cons_succ]; done) | omega) only [WS, St.guard, St.put, evalO, reduceCtorEq, reduceIte, Nat.reduceAdd, Nat.reduceEqDiff, h1, fin_tmp, leave_v, hE]
    simp
theorem Num_op (H : PackLib prog) {least most : Int} (hp : G[p]? = some (rdB a 0)) (R : RdA G p a bs) :
    Ev prog (.op (.call "(*haberdash/pack.Reader).Num" []) [.ptr (.o p) 2 0, .v (.int .i64 least), .v (.int .i64 most)] ⟨G, []⟩)
      (.val (.v (.int .i64 (rnum bs least most).1)) ⟨G.set p (rdB (AM.sub a 1 (rnum bs least most).2.1 bs.length) (rnum bs least most).2.2), []⟩) :=
  op_turn ⟨G.set p _, []⟩ (by rw [into_nil, into_nil]; exact Num_spec H hp R) rfl (by simp) rfl trivial trivial
theorem Flag_spec (H : PackLib prog) (hp : G[p]? = some (rdB a 0)) (R : RdA G p a bs) :
    Ev prog (.call "(*haberdash/pack.Reader).Flag" [.ptr (.o p) 2 0] G) (.ret (.v (.bool ((rnum bs 0 1).1 == 1))) (G.set p (rdB (AM.sub a 1 (rnum bs 0 1).2.1 bs.length) (rnum bs 0 1).2.2))) := by
  refine call_of_fin H.rdflag ?_
  simp only [f___pack_Reader__Flag_B, enter, List.length_cons, List.length_nil, List.replicate, Nat.reduceAdd, Nat.reduceSub, List.cons_append, List.nil_append]
  simp (disch := first | (simp only [ne_eq, reduceCtorEq, not_false_eq_true, implies_true, List.getElem?_cons_zero, List.getElem?_cons_succ]; done) | omega) only [WS, St.guard, St.put, evalO, reduceCtorEq, reduceIte, Nat.reduceAdd, Nat.reduceEqDiff]
  refine WP_of (Num_op H hp R) ?_
  simp (disch := first | (simp only [ne_eq, reduceCtorEq, not_false_eq_true, implies_true, List.getElem?_cons_zero, List.getElem?_cons_succ]; done) | omega) only [WS, St.guard, St.put, evalO, reduceCtorEq, reduceIte, Nat.reduceAdd, Nat.reduceEqDiff, fin_tmp, leave_v]
  simp
theorem Flag_err (H : PackLib prog) (hp : G[p]? = some (rdB a e)) (he : e ≠ 0) : Ev prog (.call "(*haberdash/pack.Reader).Flag" [.ptr (.o p) 2 0] G) (.ret (.v (.bool false)) G) := by
  refine call_of_fin H.rdflag ?_
  simp only [f___pack_Reader__Flag_B, enter, List.length_cons, List.length_nil, List.replicate, Nat.reduceAdd, Nat.reduceSub, List.cons_append, List.nil_append]
  simp (disch := first | (simp only [ne_eq, reduceCtorEq, not_false_eq_true, implies_true, List.getElem?_cons_zero, List.getElem?_cons_succ]; done) | omega) only [WS, St.guard, St.put, evalO, reduceCtorEq, reduceIte, Nat.reduceAdd, Nat.reduceEqDiff]
  refine WP_of (op_turn ⟨G, []⟩ (by rw [into_nil]; exact Num_err H hp he) rfl rfl rfl trivial trivial) ?_
  have h1 : ((0 : Int) == 1) = false := by decide
  simp (disch := first | (simp only [ne_eq, reduceCtorEq, not_false_eq_true, implies_true, List.getElem?_cons_zero, List.getElem?_cons_succ]; done) | omega) only [WS, St.guard, St.put, evalO, reduceCtorEq, reduceIte, Nat.reduceAdd, Nat.reduceEqDiff, h1, fin_tmp, leave_v]
  simp
def rtext (bs : Txt) (most : Int) : Txt × Nat × Int :=
  if (rnum bs 0 most).2.2 ≠ 0 then ([], (rnum bs 0 most).2.1, (rnum bs 0 most).2.2)
  else if bs.length - (rnum bs 0 most).2.1 < (rnum bs 0 most).1.toNat then ([], (rnum bs 0 most).2.1, 3)
  else ((bs.drop (rnum bs 0 most).2.1).take (rnum bs 0 most).1.toNat, (rnum bs 0 most).2.1 + (rnum bs 0 most).1.toNat, 0)
theorem rnum_facts (bs : Txt) (least most : Int) : (rnum bs least most).2.1 ≤ bs.length ∧ 0 ≤ (rnum bs least most).1 := by
  have hle := nlen_le (bs := bs) (i := 0) (by omega)
  unfold rnum
  split
  · simp
  · split
    · simp
    · split
      · simp
      · split
        · simp
        · simp only; omega
theorem op_fnV {g first xs caps : _} {h h' : Hp} {r : AV} (he : Ev prog (.call g ((first ++ xs ++ caps).map (AV.ren (up h.G.length))) h.into) (.ret r h'.into)) (hr : r.lf = true)
    (hG : h'.G.length = h.G.length) (hL : h'.L.length = h.L.length) (hg : Good h) (hg' : Good h') : Ev prog (.op (.callV []) (.fn g first caps :: xs) h) (.val r h') := by
  refine .opCallV hg.okBlks he ?_
  have hb := back_into (h := h) (h' := h') (sites := []) (Bs := []) (r := r) hG hL hg'.refsOK (by simp) (by simp) rfl rfl
  rw [List.append_nil] at hb
  rw [hb]
  have e : r.ren (down h.G.length h.L.length []) = r := ren_id fun ℓ hℓ => by rw [lf_of_labs_nil hr] at hℓ; cases hℓ
  rw [e]
  rfl
theorem text_spec (H : PackLib prog) {most : Int} (hp : G[p]? = some (rdB a 0)) (R : RdA G p a bs) :
    Ev prog (.call "(*haberdash/pack.Reader).Text" [.ptr (.o p) 2 0, .v (.int .i64 most)] G)
      (.ret (.v (str (rtext bs most).1)) (G.set p (rdB (AM.sub a 1 (rtext bs most).2.1 bs.length) (rtext bs most).2.2))) := by
  have hbig := R.big
  have hpl := lt_of_get hp
  have inner : Ev prog (.call "(*haberdash/pack.Reader).text" [.ptr (.o p) 2 0, .v (.int .i64 most), .fn "(*haberdash/pack.Reader).Num" [.ptr (.o p) 2 0] []] G)
      (.ret (.v (str (rtext bs most).1)) (G.set p (rdB (AM.sub a 1 (rtext bs most).2.1 bs.length) (rtext bs most).2.2))) := by
    refine call_of_fin H.rdtxt ?_
    simp only [f___pack_Reader__text_B, enter, List.length_cons, List.length_nil, List.replicate, Nat.reduceAdd, Nat.reduceSub, List.cons_append, List.nil_append]
    simp (disch := first | (simp only [ne_eq, reduceCtorEq, not_false_eq_true, implies_true, List.getElem?_cons_zero, List.getElem?_cons_succ]; done) | omega) only [WS, St.guard, St.put, evalO, reduceCtorEq, reduceIte, Nat.reduceAdd, Nat.reduceEqDiff]
    refine WP_of (op_fnV (h' := ⟨G.set p (rdB (AM.sub a 1 (rnum bs 0 most).2.1 bs.length) (rnum bs 0 most).2.2), []⟩) (by rw [into_nil, into_nil]; exact Num_spec H hp R) rfl (by simp) rfl trivial trivial) ?_
    obtain ⟨hk, h0⟩ := rnum_facts bs 0 most
    have hrt : rtext bs most = if (rnum bs 0 most).2.2 ≠ 0 then ([], (rnum bs 0 most).2.1, (rnum bs 0 most).2.2)
      else if bs.length - (rnum bs 0 most).2.1 < (rnum bs 0 most).1.toNat then ([], (rnum bs 0 most).2.1, 3)
      else ((bs.drop (rnum bs 0 most).2.1).take (rnum bs 0 most).1.toNat, (rnum bs 0 most).2.1 + (rnum bs 0 most).1.toNat, 0) := rfl
    generalize rtext bs most = rt at *
    generalize rnum bs 0 most = r at *
    obtain ⟨v, k, e⟩ := r
    simp only at hk h0 hrt ⊢
    have R1 := (R.drop hk).set (B := rdB (AM.sub a 1 k bs.length) e)
    have hp1 : (G.set p (rdB (AM.sub a 1 k bs.length) e))[p]? = some (rdB (AM.sub a 1 k bs.length) e) := List.getElem?_set_self hpl
    simp (disch := first | (simp only [ne_eq, reduceCtorEq, not_false_eq_true, implies_true, List.getElem?_cons_zero, List.getElem?_cons_succ]; done) | omega) only [WS, St.guard, St.put, evalO, reduceCtorEq, reduceIte, Nat.reduceAdd, Nat.reduceEqDiff]
    refine WP_of (Err_op H hp1) ?_
    by_cases he : e = 0
    · subst he
      have h1 : ((0 : Int) != 0) = false := by decide
      rw [if_neg (by simp)] at hrt
      have hl1 : ∀ h : Hp, prim h .lenSlice [AM.sub a 1 k bs.length] = some (.v (.int .i64 ((bs.length - k : Nat) : Int)), h) := fun h => by
        have := (R1.v []).hlen
        rw [px_lenSlice, this, List.length_drop]; rfl
      obtain ⟨n, hn⟩ : ∃ n : Nat, v = (n : Int) := ⟨v.toNat, by omega⟩
      subst hn
      rw [Int.toNat_natCast] at hrt
      by_cases hs : bs.length - k < n
      · rw [if_pos hs] at hrt
        simp (disch := first | (simp only [ne_eq, reduceCtorEq, not_false_eq_true, implies_true, List.getElem?_cons_zero, List.getElem?_cons_succ]; done) | omega) only [WS, St.guard, St.put, evalO, reduceCtorEq, reduceIte, Nat.reduceAdd, Nat.reduceEqDiff, h1, rd_load0 hp1, hl1, show (n : Int) > ((bs.length - k : Nat) : Int) from by omega, decide_true]
        refine WP_of (fail_op H hp1) ?_
        simp (disch := first | (simp only [ne_eq, reduceCtorEq, not_false_eq_true, implies_true, List.getElem?_cons_zero, List.getElem?_cons_succ]; done) | omega) only [WS, St.guard, St.put, evalO, reduceCtorEq, reduceIte, Nat.reduceAdd, Nat.reduceEqDiff, fin_tmp, leave_v, hrt, List.set_set]
        simp [str]
      · rw [if_neg hs] at hrt
        have hn2 : n ≤ (bs.drop k).length := by rw [List.length_drop]; omega
        have v1 := R1.v []
        have s1 : prim ⟨G.set p (rdB (AM.sub a 1 k bs.length) 0), []⟩ (.slice 1 false true false) [AM.sub a 1 k bs.length, .v (.int .i64 (n : Int))] = some (AM.sub (AM.sub a 1 k bs.length) 1 0 n, ⟨G.set p (rdB (AM.sub a 1 k bs.length) 0), []⟩) := v1.sliceHi hn2
        have s2 : prim ⟨G.set p (rdB (AM.sub a 1 k bs.length) 0), []⟩ (.slice 1 true false false) [AM.sub a 1 k bs.length, .v (.int .i64 (n : Int))] = some (AM.sub (AM.sub a 1 k bs.length) 1 n (bs.length - k), ⟨G.set p (rdB (AM.sub a 1 k bs.length) 0), []⟩) := by
          have := v1.sliceLo (k := .i64) hn2
          rw [List.length_drop] at this
          exact this
        have v2 := v1.sub (Nat.zero_le n) hn2
        rw [Nat.zero_mul, List.drop_zero, Nat.sub_zero, Nat.mul_one, ← List.map_take] at v2
        have hb : prim ⟨G.set p (rdB (AM.sub a 1 k bs.length) 0), []⟩ .bytesStr [AM.sub (AM.sub a 1 k bs.length) 1 0 n] = some (.v (str ((bs.drop k).take n)), ⟨G.set p (rdB (AM.sub a 1 k bs.length) 0), []⟩) := by
          have hl : ((bs.drop k).take n).length = n := by rw [List.length_take]; omega
          refine View.bytesStr (bs := (bs.drop k).take n) ?_
          rw [hl]; exact v2
        rw [sub_sub R (by omega)] at s2
        have sf := sub_facts (R.v []) (i := k + n) (j := bs.length)
        have sf1 := sub_facts (R.v []) (i := k) (j := bs.length)
        simp (disch := first | (simp only [ne_eq, reduceCtorEq, not_false_eq_true, implies_true, List.getElem?_cons_zero, List.getElem?_cons_succ]; done) | omega) only [WS, St.guard, St.put, evalO, reduceCtorEq, reduceIte, Nat.reduceAdd, Nat.reduceEqDiff, h1, rd_load0 hp1, hl1, show ¬ ((n : Int) > ((bs.length - k : Nat) : Int)) from by omega, decide_false, s1]
        refine (WR_eq hb).2 ?_
        simp (disch := first | (simp only [ne_eq, reduceCtorEq, not_false_eq_true, implies_true, List.getElem?_cons_zero, List.getElem?_cons_succ]; done) | omega) only [WS, St.guard, St.put, evalO, reduceCtorEq, reduceIte, Nat.reduceAdd, Nat.reduceEqDiff, rd_load0 hp1, s2]
        refine (WR_eq (rd_store0 hp1 sf.1 (by rw [sf.2.1, sf1.2.1]) (by rw [sf.2.2]; exact R.lt) [])).2 ?_
        simp (disch := first | (simp only [ne_eq, reduceCtorEq, not_false_eq_true, implies_true, List.getElem?_cons_zero, List.getElem?_cons_succ]; done) | omega) only [WS, St.guard, St.put, evalO, reduceCtorEq, reduceIte, Nat.reduceAdd, Nat.reduceEqDiff, fin_tmp, leave_v, hrt, List.set_set]
        simp
    · have h1 : (e != 0) = true := by rw [bne_iff_ne]; exact he
      rw [if_pos he] at hrt
      simp (disch := first | (simp only [ne_eq, reduceCtorEq, not_false_eq_true, implies_true, List.getElem?_cons_zero, List.getElem?_cons_succ]; done) | omega) only [WS, St.guard, St.put, evalO, reduceCtorEq, reduceIte, Nat.reduceAdd, Nat.reduceEqDiff, h1, fin_tmp, leave_v, hrt]
      simp [str]
  refine call_of_fin H.rdtext ?_
  simp only [f___pack_Reader__Text_B, enter, List.length_cons, List.length_nil, List.replicate, Nat.reduceAdd, Nat.reduceSub, List.cons_append, List.nil_append]
  simp (disch := first | (simp only [ne_eq, reduceCtorEq, not_false_eq_true, implies_true, List.getElem?_cons_zero, List.getElem?_cons_succ]; done) | omega) only [WS, St.guard, St.put, evalO, reduceCtorEq, reduceIte, Nat.reduceAdd, Nat.reduceEqDiff, new_s, virtBlk_eq, box_s, box_vs, box_vi, box_vb, px_load_l, px_load_o, loadB_s, storeX, storeB_s, alloc_s, lay, whole, Option.join_some, List.drop_zero, List.drop_succ_cons, List.take_succ_cons, List.take_zero, List.drop_nil, List.nil_append, List.cons_append, Nat.reduceLeDiff, Nat.zero_add, and_self, and_true, cells_int, cells_bool, cells_str, cells_string, cells_agg, cells_own, cells_ro, cells_ptr, cells_nil, AV.lf.lfs, AV.lf, px_build, fills, build_string, build_str, build_int, WDR_some, Nat.reduceLeDiff, Nat.le_refl, Bool.and_self]
  refine WP_of (op_turn ⟨G.set p (rdB (AM.sub a 1 (rtext bs most).2.1 bs.length) (rtext bs most).2.2), []⟩ (by rw [into_nil, into_nil]; exact inner) rfl (by simp) rfl trivial trivial) ?_
  simp (disch := first | (simp only [ne_eq, reduceCtorEq, not_false_eq_true, implies_true, List.getElem?_cons_zero, List.getElem?_cons_succ]; done) | omega) only [WS, St.guard, St.put, evalO, reduceCtorEq, reduceIte, Nat.reduceAdd, Nat.reduceEqDiff, fin_tmp, leave_v]
  simp
end Go.AM
