import Derived.Test.YtdcnjckkcfoppaaAMA
import Derived.Test.YtdcnjckkcfoppaaAMD
import Derived.Laws.Bits64
set_option linter.unusedVariables false
set_option linter.unusedSimpArgs false
namespace Go.AM
def f_crc_Sum_B : ICode :=
 (.seq
 (.ops [ iP 2 .id [.c (.int .u32 0)]])
 (.seq
 (.ops [ iP 3 .id [.t 0], iP 4 (.call "haberdash/crc.More" []) [.c (.int .u32 0), .t 3], iP 2 .id [.t 4]])
 .ret))
def f_crc_Sum : IFn := ⟨5, 0, [.tmp 2], f_crc_Sum_B⟩
def f_ref04_Sum_B : ICode :=
 (.seq
 (.ops [ iP 2 .id [.c (.int .u32 0)]])
 (.seq
 (.ops [ iP 3 .id [.t 0], iP 4 (.call "haberdash/haberdashref04.More" []) [.c (.int .u32 0), .t 3], iP 2 .id [.t 4]])
 .ret))
def f_ref04_Sum : IFn := ⟨5, 0, [.tmp 2], f_ref04_Sum_B⟩
def f_crc_More_L0 : ICode :=
 (.seq
 (.ops [ iP 22 (.bin .lss) [.t 21, kI 8]])
 (.seq
 (.cond (.t 22)
 .skip
 (.exit 2))
 (.seq
 (.block 3
 (.seq
 (.ops [ iP 23 .id [.t 5], iP 24 (.bin .and) [.t 23, .c (.int .u32 1)], iP 8 .id [.t 24]])
 (.seq
 (.ops [ iP 25 .id [.t 5], iP 26 (.bin .shr) [.t 25, .c (.int .u64 1)], iP 5 .id [.t 26]])
 (.seq
 (.ops [ iP 27 .id [.t 8], iP 28 (.bin .eql) [.t 27, .c (.int .u32 1)]])
 (.cond (.t 28)
 (.ops [ iP 29 .id [.t 5], iP 30 (.bin .xor) [.t 29, .c (.int .u32 3988292384)], iP 5 .id [.t 30]])
 .skip)))))
 (.ops [ iP 31 (.bin .add) [.t 21, kI 1], iP 21 .id [.t 31]]))))
def f_crc_More_H0 (t5 t11 t12 t13 t21 : AV) : List AV := [.dead, .dead, .dead, .dead, .dead, t5, .dead, .dead, .dead, .dead, .dead, t11, t12, t13, .dead, .dead, .dead, .dead, .dead, .dead, .dead, t21, .dead, .dead, .dead, .dead, .dead, .dead, .dead, .dead, .dead, .dead, .dead, .dead, .dead]
def f_crc_More_L1 : ICode :=
 (.seq
 (.ops [ iP 14 (.bin .lss) [.t 13, .t 12]])
 (.seq
 (.cond (.t 14)
 .skip
 (.exit 0))
 (.seq
 (.block 1
 (.seq
 (.ops [ iP 15 (.indexAddr 1) [.t 11, .t 13], iP 16 (.load 1 false) [.t 15], iP 7 .id [.t 16]])
 (.seq
 (.ops [ iP 17 .id [.t 5], iP 18 .id [.t 7], iP 19 (.convInt .u32) [.t 18], iP 20 (.bin .xor) [.t 17, .t 19], iP 5 .id [.t 20]])
 (.seq
 (.ops [ iP 21 .id [kI 0]])
 (.block 2
 (.loop [0, 1, 2, 3, 4, 6, 7, 8, 9, 10, 14, 15, 16, 17, 18, 19, 20, 22, 23, 24, 25, 26, 27, 28, 29, 30, 31, 32, 33, 34] [] f_crc_More_L0))))))
 (.ops [ iP 32 (.bin .add) [.t 13, kI 1], iP 13 .id [.t 32]]))))
def f_crc_More_H1 (t5 t11 t12 t13 : AV) : List AV := [.dead, .dead, .dead, .dead, .dead, t5, .dead, .dead, .dead, .dead, .dead, t11, t12, t13, .dead, .dead, .dead, .dead, .dead, .dead, .dead, .dead, .dead, .dead, .dead, .dead, .dead, .dead, .dead, .dead, .dead, .dead, .dead, .dead, .dead]
def f_crc_More_B : ICode :=
 (.seq
 (.ops [ iP 4 .id [.c (.int .u32 0)]])
 (.seq
 (.ops [ iP 9 .id [.t 0], iP 10 (.un .xor) [.t 9], iP 5 .id [.t 10]])
 (.seq
 (.seq
 (.ops [ iP 11 .id [.t 1], iP 12 .lenSlice [.t 11], iP 13 .id [kI 0]])
 (.block 0
 (.loop [0, 1, 2, 3, 4, 6, 7, 8, 9, 10, 14, 15, 16, 17, 18, 19, 20, 21, 22, 23, 24, 25, 26, 27, 28, 29, 30, 31, 32, 33, 34] [] f_crc_More_L1)))
 (.seq
 (.ops [ iP 33 .id [.t 5], iP 34 (.un .xor) [.t 33], iP 4 .id [.t 34]])
 .ret))))
def f_crc_More : IFn := ⟨35, 0, [.tmp 4], f_crc_More_B⟩
def f_ref04_More_L0 : ICode :=
 (.seq
 (.seq
 (.ops [ iP 17 .id [.t 7], iP 18 (.bin .lss) [.t 17, kI 8]])
 (.cond (.t 18)
 .skip
 (.exit 2)))
 (.seq
 (.block 3
 (.seq
 (.ops [ iP 21 .id [.t 5], iP 22 (.bin .and) [.t 21, .c (.int .u32 1)], iP 23 .id [.t 1], iP 24 .id [.t 6], iP 25 (.indexAddr 1) [.t 23, .t 24], iP 26 (.load 1 false) [.t 25], iP 27 .id [.t 7], iP 28 (.convInt .u64) [.t 27], iP 29 (.bin .shr) [.t 26, .t 28], iP 30 (.convInt .u32) [.t 29], iP 31 (.bin .and) [.t 30, .c (.int .u32 1)], iP 32 (.bin .xor) [.t 22, .t 31], iP 8 .id [.t 32]])
 (.seq
 (.ops [ iP 33 .id [.t 5], iP 34 (.bin .shr) [.t 33, .c (.int .u64 1)], iP 5 .id [.t 34]])
 (.seq
 (.ops [ iP 35 .id [.t 8], iP 36 (.bin .eql) [.t 35, .c (.int .u32 1)]])
 (.cond (.t 36)
 (.ops [ iP 37 .id [.t 5], iP 38 (.bin .xor) [.t 37, .c (.int .u32 3988292384)], iP 5 .id [.t 38]])
 .skip)))))
 (.ops [ iP 19 .id [.t 7], iP 20 (.bin .add) [.t 19, kI 1], iP 7 .id [.t 20]])))
def f_ref04_More_H0 (t1 t5 t6 t7 : AV) : List AV := [.dead, t1, .dead, .dead, .dead, t5, t6, t7, .dead, .dead, .dead, .dead, .dead, .dead, .dead, .dead, .dead, .dead, .dead, .dead, .dead, .dead, .dead, .dead, .dead, .dead, .dead, .dead, .dead, .dead, .dead, .dead, .dead, .dead, .dead, .dead, .dead, .dead, .dead, .dead, .dead]
def f_ref04_More_L1 : ICode :=
 (.seq
 (.seq
 (.ops [ iP 11 .id [.t 6], iP 12 .id [.t 1], iP 13 .lenSlice [.t 12], iP 14 (.bin .lss) [.t 11, .t 13]])
 (.cond (.t 14)
 .skip
 (.exit 0)))
 (.seq
 (.block 1
 (.seq
 (.ops [ iP 7 .id [kI 0]])
 (.block 2
 (.loop [0, 2, 3, 4, 8, 9, 10, 11, 12, 13, 14, 15, 16, 17, 18, 19, 20, 21, 22, 23, 24, 25, 26, 27, 28, 29, 30, 31, 32, 33, 34, 35, 36, 37, 38, 39, 40] [] f_ref04_More_L0))))
 (.ops [ iP 15 .id [.t 6], iP 16 (.bin .add) [.t 15, kI 1], iP 6 .id [.t 16]])))
def f_ref04_More_H1 (t1 t5 t6 : AV) : List AV := [.dead, t1, .dead, .dead, .dead, t5, t6, .dead, .dead, .dead, .dead, .dead, .dead, .dead, .dead, .dead, .dead, .dead, .dead, .dead, .dead, .dead, .dead, .dead, .dead, .dead, .dead, .dead, .dead, .dead, .dead, .dead, .dead, .dead, .dead, .dead, .dead, .dead, .dead, .dead, .dead]
def f_ref04_More_B : ICode :=
 (.seq
 (.ops [ iP 4 .id [.c (.int .u32 0)]])
 (.seq
 (.ops [ iP 9 .id [.t 0], iP 10 (.un .xor) [.t 9], iP 5 .id [.t 10]])
 (.seq
 (.seq
 (.ops [ iP 6 .id [kI 0]])
 (.block 0
 (.loop [0, 2, 3, 4, 7, 8, 9, 10, 11, 12, 13, 14, 15, 16, 17, 18, 19, 20, 21, 22, 23, 24, 25, 26, 27, 28, 29, 30, 31, 32, 33, 34, 35, 36, 37, 38, 39, 40] [] f_ref04_More_L1)))
 (.seq
 (.ops [ iP 39 .id [.t 5], iP 40 (.un .xor) [.t 39], iP 4 .id [.t 40]])
 .ret))))
def f_ref04_More : IFn := ⟨41, 0, [.tmp 4], f_ref04_More_B⟩
end Go.AM
namespace Go.AM
def crcBit (s : BitVec 32) : BitVec 32 := if (s &&& 1#32) == 1#32 then (s >>> 1) ^^^ 0xedb88320#32 else s >>> 1
def crcBits : Nat → BitVec 32 → BitVec 32
  | 0, s => s
  | n + 1, s => crcBits n (crcBit s)
def crcByte (s : BitVec 32) (c : UInt8) : BitVec 32 := crcBits 8 (s ^^^ BitVec.ofNat 32 c.toNat)
def crcMore (s : BitVec 32) (bs : List UInt8) : BitVec 32 := ~~~ (bs.foldl crcByte (~~~ s))
theorem crcBits_succ : ∀ (n : Nat) (s : BitVec 32), crcBits (n + 1) s = crcBit (crcBits n s)
  | 0, s => rfl
  | n + 1, s => crcBits_succ n (crcBit s)
theorem c1 : Value.int .u32 1 = u32 1#32 := rfl
theorem c2 : Value.int .u32 3988292384 = u32 0xedb88320#32 := rfl
theorem c0 : Value.int .u32 0 = u32 0#32 := rfl
variable {prog : String → Option IFn}
theorem ren_v {ρ x} : (AV.v x).ren ρ = .v x := rfl
theorem u8_u32 {b : UInt8} : Value.int .u32 (IntKind.u32.wrap (b.toNat : Int)) = u32 (BitVec.ofNat 32 b.toNat) := by
  rw [u32, IntKind.wrap_u32, BitVec.toNat_ofNat]; congr 1
theorem foldl_take_succ {α β : Type} {f : β → α → β} {b : β} {l : List α} {i : Nat} (h : i < l.length) : (l.take (i + 1)).foldl f b = f ((l.take i).foldl f b) l[i] := by
  rw [List.take_add_one, List.getElem?_eq_getElem h, List.foldl_append]; rfl
theorem More_spec (hf : prog "haberdash/crc.More" = some f_crc_More) {G a} {bs : List UInt8} (v : ∀ L, View ⟨G, L⟩ a 1 bs.length (bs.map byteAV)) (s : BitVec 32) (hb : bs.length < 2 ^ 62) :
    Ev prog (.call "haberdash/crc.More" [.v (u32 s), a] G) (.ret (.v (u32 (crcMore s bs))) G) := by
  refine call_of_fin hf ?_
  have v0 := v []
  simp only [f_crc_More_B, enter, List.length_cons, List.length_nil, List.replicate, Nat.reduceAdd, Nat.reduceSub, List.cons_append, List.nil_append]
  simp (disch := first | (simp only [DS, reduceCtorEq]; done) | omega) only [WS, St.guard, St.put, evalO, reduceCtorEq, reduceIte, Nat.reduceAdd, Nat.reduceEqDiff, v0.lenSlice]
  refine WC_count (fun i => ⟨f_crc_More_H1 (.v (u32 ((bs.take i).foldl crcByte (~~~ s)))) a (.v (.int .i64 bs.length)) (.v (.int .i64 (i : Nat))), ⟨G, []⟩⟩) bs.length ?_ (fun i hi => ?_) ?_
  · simp only [clear_nil, List.foldl_cons, List.foldl_nil, Option.some.injEq, LS, reduceCtorEq, reduceIte, Nat.reduceAdd]; rfl
  · have hlt' : (i : Int) < (bs.length : Int) := by omega
    have hx : (bs.map byteAV)[i]? = some (byteAV bs[i]) := by simp [hi]
    simp (disch := first | (simp only [DS, reduceCtorEq]; done) | omega) only [f_crc_More_L1, f_crc_More_H1, WS, St.guard, St.put, evalO, reduceCtorEq, reduceIte, Nat.reduceAdd, Nat.reduceEqDiff, hlt', decide_true, v0.index hi, v0.load1 hx, byteAV, u8_u32, foldl_take_succ hi]
    generalize (bs.take i).foldl crcByte (~~~ s) = t0 at *
    refine WC_count (fun j => ⟨f_crc_More_H0 (.v (u32 (crcBits j (t0 ^^^ BitVec.ofNat 32 bs[i].toNat)))) a (.v (.int .i64 bs.length)) (.v (.int .i64 (i : Nat))) (.v (.int .i64 (j : Nat))), ⟨G, []⟩⟩) 8 ?_ (fun j hj => ?_) ?_
    · simp only [clear_nil, List.foldl_cons, List.foldl_nil, Option.some.injEq, LS, reduceCtorEq, reduceIte, Nat.reduceAdd]; rfl
    · have hlt' : (j : Int) < 8 := by omega
      simp (disch := first | (simp only [DS, reduceCtorEq]; done) | omega) only [f_crc_More_L0, f_crc_More_H0, WS, St.guard, St.put, evalO, reduceCtorEq, reduceIte, Nat.reduceAdd, Nat.reduceEqDiff, hlt', decide_true, c1, c2]
      rw [crcBits_succ]
      generalize crcBits j (t0 ^^^ BitVec.ofNat 32 bs[i].toNat) = t
      by_cases hb : (t &&& 1#32 == 1#32) = true <;> simp (disch := first | (simp only [DS, reduceCtorEq]; done) | omega) only [crcBit, hb, WS, St.guard, St.put, evalO, reduceCtorEq, reduceIte, Nat.reduceAdd, Nat.reduceEqDiff, c1, c2, vBin_add_i64, clear_nil, List.foldl_cons, List.foldl_nil, Option.some.injEq, Bool.false_eq_true] <;> rfl
    · simp (disch := first | (simp only [DS, reduceCtorEq]; done) | omega) only [f_crc_More_L0, f_crc_More_H0, WS, St.guard, St.put, evalO, reduceCtorEq, reduceIte, Nat.reduceAdd, Nat.reduceEqDiff, show ¬ (((8 : Nat) : Int) < 8) by omega, decide_false, vBin_add_i64, clear_nil, List.foldl_cons, List.foldl_nil, Option.some.injEq]
      rfl
  · simp (disch := first | (simp only [DS, reduceCtorEq]; done) | omega) only [f_crc_More_L1, f_crc_More_H1, WS, St.guard, St.put, evalO, reduceCtorEq, reduceIte, Nat.reduceAdd, Nat.reduceEqDiff, show ¬ ((bs.length : Int) < bs.length) by omega, decide_false, fin_tmp, leave_v, List.take_length]
    simp [crcMore]
theorem Sum_spec (hf : prog "haberdash/crc.More" = some f_crc_More) (hg : prog "haberdash/crc.Sum" = some f_crc_Sum) {G a} {bs : List UInt8} (v : ∀ L, View ⟨G, L⟩ a 1 bs.length (bs.map byteAV)) (hb : bs.length < 2 ^ 62) :
    Ev prog (.call "haberdash/crc.Sum" [a] G) (.ret (.v (u32 (crcMore 0#32 bs))) G) := by
  refine call_of_fin hg ?_
  simp only [f_crc_Sum_B, enter, List.length_cons, List.length_nil, List.replicate, Nat.reduceAdd, Nat.reduceSub, List.cons_append, List.nil_append]
  simp only [WS, St.guard, St.put, evalO, reduceCtorEq, reduceIte, Nat.reduceAdd, Nat.reduceEqDiff, c0]
  have := More_spec (prog := prog) hf ((v []).into bytes_lfs) 0#32 hb
  rw [WP_pure (x := u32 (crcMore 0#32 bs)) (by simpa only [List.map_cons, List.map_nil, ren_v] using this) rfl rfl]
  simp only [WS, St.guard, St.put, evalO, reduceCtorEq, reduceIte, Nat.reduceAdd, Nat.reduceEqDiff, fin_tmp, leave_v]
  simp
end Go.AM
namespace Go.AM
def refBit (s c : BitVec 32) (j : Nat) : BitVec 32 := if ((s &&& 1#32) ^^^ ((c >>> j) &&& 1#32)) == 1#32 then (s >>> 1) ^^^ 0xedb88320#32 else s >>> 1
theorem refBit_eq (s c : BitVec 32) (j : Nat) : crcBit (s ^^^ (c >>> j)) = refBit s c j ^^^ (c >>> (j + 1)) := by
  have e1 : (s ^^^ (c >>> j)) &&& 1#32 = (s &&& 1#32) ^^^ ((c >>> j) &&& 1#32) := by
    ext i hi; simp [Bool.and_xor_distrib_right]
  have e2 : (s ^^^ (c >>> j)) >>> 1 = (s >>> 1) ^^^ (c >>> (j + 1)) := by
    rw [BitVec.ushiftRight_xor_distrib, ← BitVec.shiftRight_add]
  simp only [crcBit, refBit, e1, e2]
  split
  · rw [BitVec.xor_assoc, BitVec.xor_assoc]; congr 1; exact BitVec.xor_comm _ _
  · rfl
def refBits (c : BitVec 32) : Nat → Nat → BitVec 32 → BitVec 32
  | 0, _, s => s
  | n + 1, j, s => refBits c n (j + 1) (refBit s c j)
theorem refBits_eq (c : BitVec 32) : ∀ (n j : Nat) (s : BitVec 32), crcBits n (s ^^^ (c >>> j)) = refBits c n j s ^^^ (c >>> (j + n))
  | 0, j, s => rfl
  | n + 1, j, s => by
    rw [crcBits, refBit_eq, refBits_eq c n (j + 1), refBits]
    congr 2
    omega
theorem refByte (s : BitVec 32) (b : UInt8) : refBits (BitVec.ofNat 32 b.toNat) 8 0 s = crcByte s b := by
  have := refBits_eq (BitVec.ofNat 32 b.toNat) 8 0 s
  have e0 : BitVec.ofNat 32 b.toNat >>> 0 = BitVec.ofNat 32 b.toNat := by simp
  have e8 : BitVec.ofNat 32 b.toNat >>> (0 + 8) = 0#32 := by
    apply BitVec.eq_of_toNat_eq
    have := b.toNat_lt
    simp [Nat.shiftRight_eq_div_pow]
    omega
  rw [e0, e8] at this
  simp only [crcByte, this, BitVec.xor_zero]
theorem vBin_shr_u8 {b : UInt8} {k : IntKind} {j : Nat} (hj : j ≤ 8) : vBin .shr (.int .u8 (b.toNat : Int)) (.int k (j : Int)) = some (.int .u8 ((b.toNat >>> j : Nat) : Int)) := by
  simp only [vBin]
  rw [if_neg (by omega), Int.toNat_natCast, Nat.shiftRight_eq_div_pow, show min j IntKind.u8.bits = j from Nat.min_eq_left hj,
    Int.fdiv_eq_ediv_of_nonneg _ (Int.le_of_lt (Int.pow_pos (by omega)))]
  simp
theorem u8s_u32 {b : UInt8} {j : Nat} : Value.int .u32 (IntKind.u32.wrap ((b.toNat >>> j : Nat) : Int)) = u32 (BitVec.ofNat 32 b.toNat >>> j) := by
  rw [u32, IntKind.wrap_u32]
  congr 1
  have := b.toNat_lt
  have h2 : b.toNat >>> j ≤ b.toNat := Nat.shiftRight_le _ _
  rw [BitVec.toNat_ushiftRight, BitVec.toNat_ofNat, Nat.mod_eq_of_lt (by omega : b.toNat < 2 ^ 32)]
  generalize b.toNat >>> j = y at *
  omega
theorem refBits_succ (c : BitVec 32) : ∀ (n j : Nat) (s : BitVec 32), refBits c (n + 1) j s = refBit (refBits c n j s) c (j + n)
  | 0, j, s => rfl
  | n + 1, j, s => by rw [refBits, refBits_succ c n, refBits]; congr 1; omega
theorem wrap_u64_nat {j : Nat} (hj : j < 18446744073709551616) : IntKind.u64.wrap (j : Int) = j := by
  rw [IntKind.wrap_u64]; omega
variable {prog : String → Option IFn}
theorem RefMore_spec (hf : prog "haberdash/haberdashref04.More" = some f_ref04_More) {G a} {bs : List UInt8} (v : ∀ L, View ⟨G, L⟩ a 1 bs.length (bs.map byteAV)) (s : BitVec 32) (hb : bs.length < 2 ^ 62) :
    Ev prog (.call "haberdash/haberdashref04.More" [.v (u32 s), a] G) (.ret (.v (u32 (crcMore s bs))) G) := by
  refine call_of_fin hf ?_
  have v0 := v []
  simp only [f_ref04_More_B, enter, List.length_cons, List.length_nil, List.replicate, Nat.reduceAdd, Nat.reduceSub, List.cons_append, List.nil_append]
  simp only [WS, St.guard, St.put, evalO, reduceCtorEq, reduceIte, Nat.reduceAdd, Nat.reduceEqDiff]
  refine WC_count (fun i => ⟨f_ref04_More_H1 a (.v (u32 ((bs.take i).foldl crcByte (~~~ s)))) (.v (.int .i64 (i : Nat))), ⟨G, []⟩⟩) bs.length ?_ (fun i hi => ?_) ?_
  · simp only [clear_nil, List.foldl_cons, List.foldl_nil, Option.some.injEq, LS, reduceCtorEq, reduceIte, Nat.reduceAdd]; rfl
  · have hlt' : (i : Int) < (bs.length : Int) := by omega
    have hx : (bs.map byteAV)[i]? = some (byteAV bs[i]) := by simp [hi]
    simp (disch := first | (simp only [DS, reduceCtorEq]; done) | omega) only [f_ref04_More_L1, f_ref04_More_H1, WS, St.guard, St.put, evalO, reduceCtorEq, reduceIte, Nat.reduceAdd, Nat.reduceEqDiff, hlt', decide_true, v0.lenSlice, foldl_take_succ hi]
    generalize (bs.take i).foldl crcByte (~~~ s) = t0 at *
    refine WC_count (fun j => ⟨f_ref04_More_H0 a (.v (u32 (refBits (BitVec.ofNat 32 bs[i].toNat) j 0 t0))) (.v (.int .i64 (i : Nat))) (.v (.int .i64 (j : Nat))), ⟨G, []⟩⟩) 8 ?_ (fun j hj => ?_) ?_
    · simp only [clear_nil, List.foldl_cons, List.foldl_nil, Option.some.injEq, LS, reduceCtorEq, reduceIte, Nat.reduceAdd]; rfl
    · have hlt' : (j : Int) < 8 := by omega
      simp (disch := first | (simp only [DS, reduceCtorEq]; done) | omega) only [f_ref04_More_L0, f_ref04_More_H0, WS, St.guard, St.put, evalO, reduceCtorEq, reduceIte, Nat.reduceAdd, Nat.reduceEqDiff, hlt', decide_true, c1, c2, v0.index hi, v0.load1 hx, byteAV, wrap_u64_nat, vBin_shr_u8, u8s_u32]
      rw [refBits_succ, Nat.zero_add]
      generalize refBits (BitVec.ofNat 32 bs[i].toNat) j 0 t0 = t
      by_cases hb : (t &&& 1#32 ^^^ BitVec.ofNat 32 bs[i].toNat >>> j &&& 1#32 == 1#32) = true <;> simp (disch := first | (simp only [DS, reduceCtorEq]; done) | omega) only [refBit, hb, WS, St.guard, St.put, evalO, reduceCtorEq, reduceIte, Nat.reduceAdd, Nat.reduceEqDiff, c1, c2, vBin_add_i64, clear_nil, List.foldl_cons, List.foldl_nil, Option.some.injEq, Bool.false_eq_true] <;> rfl
    · simp (disch := first | (simp only [DS, reduceCtorEq]; done) | omega) only [f_ref04_More_L0, f_ref04_More_H0, WS, St.guard, St.put, evalO, reduceCtorEq, reduceIte, Nat.reduceAdd, Nat.reduceEqDiff, show ¬ (((8 : Nat) : Int) < 8) by omega, decide_false, vBin_add_i64, clear_nil, List.foldl_cons, List.foldl_nil, Option.some.injEq, refByte]
      rfl
  · simp (disch := first | (simp only [DS, reduceCtorEq]; done) | omega) only [f_ref04_More_L1, f_ref04_More_H1, WS, St.guard, St.put, evalO, reduceCtorEq, reduceIte, Nat.reduceAdd, Nat.reduceEqDiff, v0.lenSlice, show ¬ ((bs.length : Int) < bs.length) by omega, decide_false, fin_tmp, leave_v, List.take_length]
    simp [crcMore]
theorem RefSum_spec (hf : prog "haberdash/haberdashref04.More" = some f_ref04_More) (hg : prog "haberdash/haberdashref04.Sum" = some f_ref04_Sum) {G a} {bs : List UInt8} (v : ∀ L, View ⟨G, L⟩ a 1 bs.length (bs.map byteAV)) (hb : bs.length < 2 ^ 62) :
    Ev prog (.call "haberdash/haberdashref04.Sum" [a] G) (.ret (.v (u32 (crcMore 0#32 bs))) G) := by
  refine call_of_fin hg ?_
  simp only [f_ref04_Sum_B, enter, List.length_cons, List.length_nil, List.replicate, Nat.reduceAdd, Nat.reduceSub, List.cons_append, List.nil_append]
  simp only [WS, St.guard, St.put, evalO, reduceCtorEq, reduceIte, Nat.reduceAdd, Nat.reduceEqDiff, c0]
  have := RefMore_spec (prog := prog) hf ((v []).into bytes_lfs) 0#32 hb
  rw [WP_pure (x := u32 (crcMore 0#32 bs)) (by simpa only [List.map_cons, List.map_nil, ren_v] using this) rfl rfl]
  simp only [WS, St.guard, St.put, evalO, reduceCtorEq, reduceIte, Nat.reduceAdd, Nat.reduceEqDiff, fin_tmp, leave_v]
  simp
end Go.AM
