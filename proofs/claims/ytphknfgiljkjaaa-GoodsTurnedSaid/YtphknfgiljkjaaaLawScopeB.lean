import Derived.Test.YtphknfgiljkjaaaScopeB
import Derived.Test.YtphknfgiljkjaaaLawScope
set_option linter.unusedVariables false
set_option linter.unusedSimpArgs false
/- Play: remainders, names by number. -/
namespace Go.AM
variable {prog : String → Option IFn}

theorem Mod_spec (hf : prog "haberdash/haberdashplay.Mod" = some f_play_Mod) {G} {c z : Int} (n : Nat) (hz : z = n) (h0 : 0 < n) (hn : n < 9223372036854775808) :
    Ev prog (.call "haberdash/haberdashplay.Mod" [.v (.int .i64 c), .v (.int .i64 z)] G) (.ret (.v (.int .i64 (umod c n : Nat))) G) := by
  refine call_of_fin hf ?_
  have := umod_lt (c := c) h0
  simp only [f_play_Mod_B, enter, List.length_cons, List.length_nil, List.replicate, Nat.reduceAdd, Nat.reduceSub, List.cons_append, List.nil_append]
  simp (disch := first | (simp only [ne_eq, reduceCtorEq, not_false_eq_true, implies_true]; done) | omega) only [WS, St.guard, St.put, evalO, reduceCtorEq, reduceIte, Nat.reduceAdd, Nat.reduceEqDiff]
  rw [vRem_u64 n hz h0 hn]
  simp (disch := first | (simp only [ne_eq, reduceCtorEq, not_false_eq_true, implies_true]; done) | omega) only [WS, St.guard, St.put, evalO, reduceCtorEq, reduceIte, Nat.reduceAdd, Nat.reduceEqDiff, wrap_i64_nat, fin_tmp, leave_v]
  simp

theorem cvU8 {n : Nat} {h : Hp} : prim h (.convInt .u8) [.v (.int .i64 (n : Int))] = some (.v (u8 (UInt8.ofNat n)), h) := by
  rw [px_convInt]
  have : IntKind.u8.wrap (n : Int) = ((UInt8.ofNat n).toNat : Int) := by
    rw [UInt8.toNat_ofNat']; simp [IntKind.wrap, IntKind.bits, IntKind.signed]
  rw [this]; rfl
theorem addU8 {a b : UInt8} : vBin .add (u8 a) (u8 b) = some (u8 (a + b)) := by
  simp only [vBin, u8, ne_eq, not_true_eq_false, if_false, Option.some.injEq, Value.int.injEq, true_and]
  rw [UInt8.toNat_add]; simp [IntKind.wrap, IntKind.bits, IntKind.signed]

/-! ### Names that rise -/
def nmAt (i : Nat) : Txt := [97, 97 + UInt8.ofNat i]
def nms (n : Nat) : List Txt := (List.range n).map nmAt
theorem nms_len {n : Nat} : (nms n).length = n := by simp [nms]
theorem nms_at {n i : Nat} (h : i < n) : (nms n)[i]? = some (nmAt i) := by simp [nms, h]
theorem nms_succ {n : Nat} : nms (n + 1) = nms n ++ [nmAt n] := by simp [nms, List.range_succ]
theorem nmAt_less {i j : Nat} (hi : i < 22) (hj : j < 22) : Op.bytesLess (nmAt i) (nmAt j) = decide (i < j) := by
  have h : ∀ i : Fin 22, ∀ j : Fin 22, Op.bytesLess (nmAt i.val) (nmAt j.val) = decide (i.val < j.val) := by decide
  exact h ⟨i, hi⟩ ⟨j, hj⟩
theorem nmAt_ok {i : Nat} (hi : i < 22) : nameOK (nmAt i) = true := by
  have h : ∀ i : Fin 22, nameOK (nmAt i.val) = true := by decide
  exact h ⟨i, hi⟩
theorem nms_ok {n : Nat} (h : n ≤ 22) : namesOK (nms n) = decide (n ≤ 20) := by
  unfold namesOK
  rw [nms_len, rise_of fun i a b h1 h2 => ?_, all_of fun j x hx => ?_]
  · simp
  · have hj := lt_of_get hx
    rw [nms_len] at hj
    rw [nms_at hj] at hx; cases hx
    exact nmAt_ok (by omega)
  · have hj := lt_of_get h2
    rw [nms_len] at hj
    rw [nms_at (by omega)] at h1
    rw [nms_at hj] at h2
    cases h1; cases h2
    rw [nmAt_less (by omega) (by omega)]; simp

/-- What is to come out when one is turned. -/
def turnL (n p k : Nat) : List Txt := if k = 1 then (nms n).set p [65] else if k = 2 then (nms n).set p (nmAt 0) else if k = 3 then ((nms n).set p (nmAt 0)).set 0 (nmAt p) else nms n
def turnOK (n p k : Nat) : Bool := if k = 1 then false else if k = 2 ∨ k = 3 then decide (n ≤ 20) && decide (p = 0) else decide (n ≤ 20)
theorem set_same' {xs : List Txt} {p : Nat} {x : Txt} (h : xs[p]? = some x) : xs.set p x = xs := by
  apply List.ext_getElem?
  intro i
  rw [List.getElem?_set]
  split
  · rename_i e; subst e
    rw [h, if_pos (lt_of_get h)]
  · rfl
theorem turn_ok {n p k : Nat} (hn : n ≤ 22) (hp : p < n) : namesOK (turnL n p k) = turnOK n p k := by
  unfold turnL turnOK
  by_cases k1 : k = 1
  · rw [if_pos k1, if_pos k1]
    have : ((nms n).set p [65])[p]? = some [65] := by rw [List.getElem?_set, if_pos rfl, if_pos (by rw [nms_len]; exact hp)]
    unfold namesOK
    rw [all_bad this (by decide)]; simp
  rw [if_neg k1, if_neg k1]
  by_cases p0 : p = 0
  · subst p0
    have e1 : (nms n).set 0 (nmAt 0) = nms n := set_same' (nms_at hp)
    simp only [e1, ite_self]
    rw [nms_ok hn]
    split <;> simp
  have lt' : ∀ {a b : Nat}, a < n → b ≤ a → Op.bytesLess (nmAt a) (nmAt b) = false := fun {a b} ha hb => by
    rw [nmAt_less (by omega) (by omega)]; simp; omega
  by_cases k2 : k = 2
  · rw [if_pos k2, if_pos (.inl k2), decide_eq_false p0, Bool.and_false]
    have h1 : ((nms n).set p (nmAt 0))[p - 1]? = some (nmAt (p - 1)) := by rw [List.getElem?_set, if_neg (by omega), nms_at (by omega)]
    have h2 : ((nms n).set p (nmAt 0))[p - 1 + 1]? = some (nmAt 0) := by rw [List.getElem?_set, if_pos (by omega), if_pos (by rw [nms_len]; omega)]
    unfold namesOK
    rw [rise_bad h1 h2 (lt' (by omega) (by omega))]; simp
  rw [if_neg k2]
  by_cases k3 : k = 3
  · rw [if_pos k3, if_pos (.inr k3), decide_eq_false p0, Bool.and_false]
    have h1 : (((nms n).set p (nmAt 0)).set 0 (nmAt p))[0]? = some (nmAt p) := by rw [List.getElem?_set, if_pos rfl, if_pos (by rw [List.length_set, nms_len]; omega)]
    unfold namesOK
    by_cases p1 : p = 1
    · have h2 : (((nms n).set p (nmAt 0)).set 0 (nmAt p))[0 + 1]? = some (nmAt 0) := by rw [List.getElem?_set, if_neg (by omega), List.getElem?_set, if_pos (by omega), if_pos (by rw [nms_len]; omega)]
      rw [rise_bad h1 h2 (lt' hp (by omega))]; simp
    · have h2 : (((nms n).set p (nmAt 0)).set 0 (nmAt p))[0 + 1]? = some (nmAt 1) := by rw [List.getElem?_set, if_neg (by omega), List.getElem?_set, if_neg (by omega), nms_at (by omega)]
      rw [rise_bad h1 h2 (lt' hp (by omega))]; simp
  · rw [if_neg k3, if_neg (by omega), nms_ok hn]
end Go.AM

/- The laws of scopes: names that rise, one turned. -/
namespace Go.AM
variable {prog : String → Option IFn}

theorem u97 : Value.int .u8 97 = u8 97 := congrArg (Value.int .u8) (by decide : (97 : Int) = (((97 : UInt8).toNat : Nat) : Int))
theorem clear_fre {s : St} {clr fre : List Nat} {env : List AV} {L : List (Option Blk)} (h1 : clr.foldl (fun e t => e.set t .dead) s.env = env) (h2 : fre.foldl (fun L k => L.set k none) s.h.L = L)
    (h3 : env.all (noRef fre) = true) (h4 : L.all (blkNoRef fre) = true) : clear s clr fre = some ⟨env, ⟨s.h.G, L⟩⟩ := by
  subst h1; subst h2
  unfold clear
  exact if_pos ⟨h3, h4⟩
theorem row_set {xs : List Txt} {p : Nat} {x : Txt} : (sEnc.row xs).set p (.v (str x)) = sEnc.row (xs.set p x) := by
  have e : ∀ xs : List Txt, sEnc.row xs = xs.map fun s => .v (str s) := fun xs => by
    induction xs with
    | nil => rfl
    | cons s xs ih => rw [List.map_cons, ← ih]; rfl
  rw [e, e, List.map_set]
theorem row_len1 {xs : List Txt} : (sEnc.row xs).length = xs.length := by rw [sEnc.row_len, show sEnc.esz = 1 from rfl, Nat.mul_one]

structure Scope11M (prog : String → Option IFn) : Prop extends Scope11 prog where
  mod : prog "haberdash/haberdashplay.Mod" = some f_play_Mod

theorem ScopeTurned_law (H : Scope11M prog) (hp : prog "haberdash/haberdashlaw11.ScopeTurned" = some f_law11_ScopeTurned) {as} (h : IsAll [(.int .i64), (.int .i64), (.int .i64), .bool] as) :
    ∃ G2, Ev prog (.call "haberdash/haberdashlaw11.ScopeTurned" as []) (.ret (.v (.bool true)) G2) := by
  rcases as with _ | ⟨a0, _ | ⟨a1, _ | ⟨a2, _ | ⟨a3, _ | _⟩⟩⟩⟩ <;> try (simp [IsAll] at h; done)
  obtain ⟨⟨c0', h0, rfl⟩, ⟨c1', h1, rfl⟩, ⟨c2', h2, rfl⟩, ⟨c3', h3, rfl⟩, _⟩ := h
  obtain ⟨c0, rfl, hc0⟩ := is_i64 h0
  obtain ⟨c1, rfl, hc1⟩ := is_i64 h1
  obtain ⟨c2, rfl, hc2⟩ := is_i64 h2
  obtain ⟨both, rfl⟩ := h3
  refine ⟨[], call_of_fin hp ?_⟩
  simp only [f_law11_ScopeTurned_B, enter, List.length_cons, List.length_nil, List.replicate, Nat.reduceAdd, Nat.reduceSub, List.cons_append, List.nil_append, Ty.arg, intAV]
  simp (disch := first | (simp only [ne_eq, reduceCtorEq, not_false_eq_true, implies_true]; done) | omega) only [WS, St.guard, St.put, evalO, reduceCtorEq, reduceIte, Nat.reduceAdd, Nat.reduceEqDiff]
  rw [WP_p (x := .int .i64 (umod c0 22 : Nat)) (by exact Mod_spec H.mod 22 rfl (by omega) (by omega)) (by exact trivial)]
  have hm0 := umod_lt (c := c0) (n := 22) (by omega)
  generalize umod c0 22 = m0 at *
  have e0 : (1 : Int) + (m0 : Int) = ((1 + m0 : Nat) : Int) := by omega
  simp (disch := first | (simp only [ne_eq, reduceCtorEq, not_false_eq_true, implies_true]; done) | omega) only [WS, St.guard, St.put, evalO, reduceCtorEq, reduceIte, Nat.reduceAdd, Nat.reduceEqDiff, vBin_add_i64, e0]
  obtain ⟨n, hn⟩ : ∃ n, n = 1 + m0 := ⟨_, rfl⟩
  rw [← hn]
  have hn1 : 1 ≤ n := by omega
  have hn22 : n ≤ 22 := by omega
  refine (WR_eq (show prim ⟨[], [none, none, none, none, none]⟩ (.nilv 1 1) [.v (.slice none 0 0)] = some (.own (.l 1) 0 0 0 1 none, ⟨[], [none, some (dBlk [] true true), none, none, none]⟩) from rfl)).2 ?_
  simp (disch := first | (simp only [ne_eq, reduceCtorEq, not_false_eq_true, implies_true]; done) | omega) only [WS, St.guard, St.put, evalO, reduceCtorEq, reduceIte, Nat.reduceAdd, Nat.reduceEqDiff]
  refine WC_count (fun i => ⟨f_law11_ScopeTurned_H0 (.v (.int .i64 (n : Nat))) (.v (.int .i64 c1)) (.v (.int .i64 c2)) (.v (.bool both)) (.own (.l 1) i 0 i 1 none) (.v (.int .i64 (i : Nat))), ⟨[], [none, some (dBlk (sEnc.row (nms i)) true (decide (i = 0))), none, none, none]⟩⟩) n ?_ (fun i hi => ?_) ?_
  · exact clear_fre (by simp only [clear_nil, List.foldl_cons, List.foldl_nil, Option.some.injEq, List.map_cons, List.map_nil, List.getD_cons_zero, List.getD_cons_succ, List.set_cons_zero, List.set_cons_succ, Option.map_some, Option.bind_some, ne_eq, reduceCtorEq, not_false_eq_true, implies_true, beq_self_eq_true, BEq.rfl, if_true, if_false, Bool.false_eq_true, not_true_eq_false, Option.some.injEq, reduceIte, Bool.not_true, Bool.not_false, beq_true, beq_false, Bool.true_and, Bool.and_true, Bool.false_and, Bool.and_false, true_and, List.getElem?_cons_zero, List.getElem?_cons_succ, List.length_cons, List.length_nil, Nat.reduceAdd]; rfl) (by rfl) (by rfl) (by rfl)
  · have hlt' : (i : Int) < (n : Int) := by omega
    simp (disch := first | (simp only [ne_eq, reduceCtorEq, not_false_eq_true, implies_true]; done) | omega) only [f_law11_ScopeTurned_L0, f_law11_ScopeTurned_H0, WS, St.guard, St.put, evalO, reduceCtorEq, reduceIte, Nat.reduceAdd, Nat.reduceEqDiff, hlt', decide_true, cvU8, u97, addU8]
    refine (WR_eq (build1 (n := 2) (xs := (nmAt i).map byteAV) (by rfl) (by rfl) (by rfl) cells_bytes bytes_lfs)).2 ?_
    simp (disch := first | (simp only [ne_eq, reduceCtorEq, not_false_eq_true, implies_true]; done) | omega) only [WS, St.guard, St.put, evalO, reduceCtorEq, reduceIte, Nat.reduceAdd, Nat.reduceEqDiff]
    have vb : ∀ L, View ⟨[], some (dBlk ((nmAt i).map byteAV) false false) :: L⟩ (.own (.l 0) 2 0 2 1 (some 2)) 1 (nmAt i).length ((nmAt i).map byteAV) := fun L => own_view1 (j := 0) rfl rfl (by simp)
    refine (WR_eq ((vb _).bytesStr)).2 ?_
    simp (disch := first | (simp only [ne_eq, reduceCtorEq, not_false_eq_true, implies_true]; done) | omega) only [WS, St.guard, St.put, evalO, reduceCtorEq, reduceIte, Nat.reduceAdd, Nat.reduceEqDiff]
    refine (WR_eq (build1 (n := 1) (xs := [.v (str (nmAt i))]) (by rfl) (by rfl) (by rfl) (by intro x hx; simp at hx; subst hx; rfl) (by rfl))).2 ?_
    simp (disch := first | (simp only [ne_eq, reduceCtorEq, not_false_eq_true, implies_true]; done) | omega) only [WS, St.guard, St.put, evalO, reduceCtorEq, reduceIte, Nat.reduceAdd, Nat.reduceEqDiff]
    refine (WR_eq (append_one (k := 0) (j := 1) (m := 2) (len := i) (x := .v (str (nmAt i))) (cells := sEnc.row (nms i)) (by rfl) (by rw [row_len1, nms_len]) (by rfl) (by rfl) (by unfold room; omega))).2 ?_
    have : sEnc.row (nms i) ++ [AV.v (str (nmAt i))] = sEnc.row (nms (i + 1)) := by rw [nms_succ, sEnc.row_append]; rfl
    have ei : (i : Int) + 1 = ((i + 1 : Nat) : Int) := rfl
    simp (disch := first | (simp only [ne_eq, reduceCtorEq, not_false_eq_true, implies_true]; done) | omega) only [WS, St.guard, St.put, evalO, reduceCtorEq, reduceIte, Nat.reduceAdd, Nat.reduceEqDiff, vBin_add_i64, this, ei]
    exact clear_fre (by simp only [clear_nil, List.foldl_cons, List.foldl_nil, Option.some.injEq, List.map_cons, List.map_nil, List.getD_cons_zero, List.getD_cons_succ, List.set_cons_zero, List.set_cons_succ, Option.map_some, Option.bind_some, ne_eq, reduceCtorEq, not_false_eq_true, implies_true, beq_self_eq_true, BEq.rfl, if_true, if_false, Bool.false_eq_true, not_true_eq_false, Option.some.injEq, reduceIte, Bool.not_true, Bool.not_false, beq_true, beq_false, Bool.true_and, Bool.and_true, Bool.false_and, Bool.and_false, true_and, List.getElem?_cons_zero, List.getElem?_cons_succ, List.length_cons, List.length_nil, Nat.reduceAdd]) (by rfl) (by rfl) (by rfl)
  · simp (disch := first | (simp only [ne_eq, reduceCtorEq, not_false_eq_true, implies_true]; done) | omega) only [f_law11_ScopeTurned_L0, f_law11_ScopeTurned_H0, WS, St.guard, St.put, evalO, reduceCtorEq, reduceIte, Nat.reduceAdd, Nat.reduceEqDiff, decide_false]
    rw [decide_eq_false (p := n = 0) (by omega)]
    rw [WP_p (x := .int .i64 (umod c1 n : Nat)) (by exact Mod_spec H.mod n rfl (by omega) (by omega)) (by exact ⟨dBlk_good, trivial⟩)]
    have hm1 := umod_lt (c := c1) (n := n) (by omega)
    generalize umod c1 n = p at *
    simp (disch := first | (simp only [ne_eq, reduceCtorEq, not_false_eq_true, implies_true]; done) | omega) only [WS, St.guard, St.put, evalO, reduceCtorEq, reduceIte, Nat.reduceAdd, Nat.reduceEqDiff]
    rw [WP_p (x := .int .i64 (umod c2 4 : Nat)) (by exact Mod_spec H.mod 4 rfl (by omega) (by omega)) (by exact ⟨dBlk_good, trivial⟩)]
    have hm2 := umod_lt (c := c2) (n := 4) (by omega)
    generalize umod c2 4 = k at *
    have hmain := turn_ok (k := k) hn22 hm1
    have vz : ∀ (zs : List Txt) (hz : zs.length = n) L, TView sEnc ⟨[], none :: some (dBlk (sEnc.row zs) true false) :: L⟩ (.own (.l 1) n 0 n 1 none) zs := fun zs hz L => sView_own (j := 1) rfl hz (by simp)
    have idx : ∀ (zs : List Txt) (hz : zs.length = n) (q : Nat) (hq : q < n) L, prim ⟨[], none :: some (dBlk (sEnc.row zs) true false) :: L⟩ (.indexAddr 1) [.own (.l 1) n 0 n 1 none, .v (.int .i64 (q : Int))] = some (.ptr (.l 1) n q, ⟨[], none :: some (dBlk (sEnc.row zs) true false) :: L⟩) := fun zs hz q hq L => by
      have := (vz zs hz L).index (k := .i64) (i := q) (by omega)
      simpa [elemPtr, show sEnc.esz = 1 from rfl] using this
    have ldx : ∀ (zs : List Txt) (hz : zs.length = n) (q : Nat) (x : Txt) (hx : zs[q]? = some x) L, prim ⟨[], none :: some (dBlk (sEnc.row zs) true false) :: L⟩ (.load 1 false) [.ptr (.l 1) n q] = some (.v (str x), ⟨[], none :: some (dBlk (sEnc.row zs) true false) :: L⟩) := fun zs hz q x hx L => by
      have := (vz zs hz L).load hx
      simpa [elemPtr, show sEnc.esz = 1 from rfl, show sEnc.agg = false from rfl, sEnc_av] using this
    have stx : ∀ (zs : List Txt) (hz : zs.length = n) (q : Nat) (hq : q < n) (x : Txt) L, prim ⟨[], none :: some (dBlk (sEnc.row zs) true false) :: L⟩ (.store 1 false) [.ptr (.l 1) n q, .v (str x)] = some (.v undef, ⟨[], none :: some (dBlk (sEnc.row (zs.set q x)) true false) :: L⟩) := fun zs hz q hq x L => by
      rw [store_data (j := 1) rfl (by rw [row_len1]; exact hz) hq rfl rfl, row_set]; rfl
    have h20 : decide (n ≤ 20) = decide ((n : Int) ≤ 20) := by rw [decide_eq_decide]; omega
    have aw : ∀ G, Ev prog (.call "haberdash/haberdashlaw11.awake" [] G) (.ret (.v (.bool true)) G) := fun G => awake11_spec H.toScope11
    have hn0 : (nms n)[0]? = some (nmAt 0) := nms_at (by omega)
    have hnp : (nms n)[p]? = some (nmAt p) := nms_at hm1
    have idx0 : ∀ (zs : List Txt) (hz : zs.length = n) L, prim ⟨[], none :: some (dBlk (sEnc.row zs) true false) :: L⟩ (.indexAddr 1) [.own (.l 1) n 0 n 1 none, .v (.int .i64 0)] = some (.ptr (.l 1) n 0, ⟨[], none :: some (dBlk (sEnc.row zs) true false) :: L⟩) := fun zs hz L => idx zs hz 0 (by omega) L
    have hzl : (turnL n p k).length = n := by unfold turnL; split <;> (try split) <;> (try split) <;> simp [nms_len]
    obtain ⟨b20, hb20⟩ : ∃ b, b = decide ((n : Int) ≤ 20) := ⟨_, rfl⟩
    rw [← hb20] at h20
    simp (disch := first | (simp only [ne_eq, reduceCtorEq, not_false_eq_true, implies_true]; done) | omega) only [WS, St.guard, St.put, evalO, reduceCtorEq, reduceIte, Nat.reduceAdd, Nat.reduceEqDiff]
    rw [← hb20]
    cases b20
    all_goals
      by_cases k1 : k = 1
      case' pos =>
        have f1 : ((k : Int) == 1) = true := by rw [beq_iff_eq]; omega
        simp (disch := first | (simp only [ne_eq, reduceCtorEq, not_false_eq_true, implies_true]; done) | omega) only [WS, St.guard, St.put, evalO, reduceCtorEq, reduceIte, Nat.reduceAdd, Nat.reduceEqDiff, f1, idx _ nms_len p hm1]
        refine (WR_eq (stx _ nms_len p hm1 [65] _)).2 ?_
        simp (disch := first | (simp only [ne_eq, reduceCtorEq, not_false_eq_true, implies_true]; done) | omega) only [WS, St.guard, St.put, evalO, reduceCtorEq, reduceIte, Nat.reduceAdd, Nat.reduceEqDiff]
        have hz : turnL n p k = (nms n).set p [65] := by unfold turnL; rw [if_pos k1]
        have hok : turnOK n p k = false := by unfold turnOK; rw [if_pos k1]
        rw [← hz]
      case' neg =>
        have f1 : ((k : Int) == 1) = false := by rw [beq_eq_false_iff_ne]; omega
        by_cases k2 : k = 2
        case' pos =>
          have f2 : ((k : Int) == 2) = true := by rw [beq_iff_eq]; omega
          simp (disch := first | (simp only [ne_eq, reduceCtorEq, not_false_eq_true, implies_true]; done) | omega) only [WS, St.guard, St.put, evalO, reduceCtorEq, reduceIte, Nat.reduceAdd, Nat.reduceEqDiff, f1, f2, idx _ nms_len p hm1, idx0 _ nms_len, ldx _ nms_len 0 _ hn0]
          refine (WR_eq (stx _ nms_len p hm1 (nmAt 0) _)).2 ?_
          simp (disch := first | (simp only [ne_eq, reduceCtorEq, not_false_eq_true, implies_true]; done) | omega) only [WS, St.guard, St.put, evalO, reduceCtorEq, reduceIte, Nat.reduceAdd, Nat.reduceEqDiff]
          have hz : turnL n p k = (nms n).set p (nmAt 0) := by unfold turnL; rw [if_neg k1, if_pos k2]
          have hok : turnOK n p k = (decide (n ≤ 20) && decide (p = 0)) := by unfold turnOK; rw [if_neg k1, if_pos (.inl k2)]
          rw [← hz]
        case' neg =>
          have f2 : ((k : Int) == 2) = false := by rw [beq_eq_false_iff_ne]; omega
          by_cases k3 : k = 3
          case' pos =>
            have f3 : ((k : Int) == 3) = true := by rw [beq_iff_eq]; omega
            have gq : ∀ zs : List Txt, Good ⟨[], [none, some (dBlk (sEnc.row zs) true false), none, none, none]⟩ := fun zs => ⟨dBlk_good, trivial⟩
            simp (disch := first | (simp only [ne_eq, reduceCtorEq, not_false_eq_true, implies_true]; done) | omega) only [WS, St.guard, St.put, evalO, reduceCtorEq, reduceIte, Nat.reduceAdd, Nat.reduceEqDiff, f1, f2, f3, idx _ nms_len p hm1, idx0 _ nms_len, ldx _ nms_len 0 _ hn0, ldx _ nms_len p _ hnp]
            refine WDP_good (stx _ nms_len p hm1 (nmAt 0) _) (gq _) (gq _) rfl (by exact quiet_set (j := 1) (by simp)) ?_
            simp (disch := first | (simp only [ne_eq, reduceCtorEq, not_false_eq_true, implies_true]; done) | omega) only [WS, St.guard, St.put, evalO, reduceCtorEq, reduceIte, Nat.reduceAdd, Nat.reduceEqDiff, idx0 _ (show ((nms n).set p (nmAt 0)).length = n by simp [nms_len])]
            refine WDP_good (stx _ (show ((nms n).set p (nmAt 0)).length = n by simp [nms_len]) 0 (by omega) (nmAt p) _) (gq _) (gq _) rfl (by exact quiet_set (j := 1) (by simp)) ?_
            simp (disch := first | (simp only [ne_eq, reduceCtorEq, not_false_eq_true, implies_true]; done) | omega) only [WS, St.guard, St.put, evalO, reduceCtorEq, reduceIte, Nat.reduceAdd, Nat.reduceEqDiff]
            have hz : turnL n p k = ((nms n).set p (nmAt 0)).set 0 (nmAt p) := by unfold turnL; rw [if_neg k1, if_neg k2, if_pos k3]
            have hok : turnOK n p k = (decide (n ≤ 20) && decide (p = 0)) := by unfold turnOK; rw [if_neg k1, if_pos (.inr k3)]
            rw [← hz]
          case' neg =>
            have f3 : ((k : Int) == 3) = false := by rw [beq_eq_false_iff_ne]; omega
            simp (disch := first | (simp only [ne_eq, reduceCtorEq, not_false_eq_true, implies_true]; done) | omega) only [WS, St.guard, St.put, evalO, reduceCtorEq, reduceIte, Nat.reduceAdd, Nat.reduceEqDiff, f1, f2, f3]
            have hz : turnL n p k = nms n := by unfold turnL; rw [if_neg k1, if_neg k2, if_neg k3]
            have hok : turnOK n p k = decide (n ≤ 20) := by unfold turnOK; rw [if_neg k1, if_neg (by omega)]
            rw [← hz]
    all_goals
      have vn : ∀ h, TView sEnc h (.v (.slice none 0 0)) [] := fun h => view_nil' (by decide)
      have ep : ((p : Int) == 0) = decide (p = 0) := by rw [Bool.eq_iff_iff]; simp
      have lm : (turnL n p k).length ≤ maxLen := by rw [hzl]; exact Nat.le_trans hn22 (by decide)
      refine (WR_same (.agg [.own (.l 1) n 0 n 1 none, .v (.slice none 0 0)]) (by rfl)).2 ?_
      simp (disch := first | (simp only [ne_eq, reduceCtorEq, not_false_eq_true, implies_true]; done) | omega) only [WS, St.guard, St.put, evalO, reduceCtorEq, reduceIte, Nat.reduceAdd, Nat.reduceEqDiff]
      rw [alloc_s rfl]
      simp (disch := first | (simp only [ne_eq, reduceCtorEq, not_false_eq_true, implies_true]; done) | omega) only [WS, St.guard, St.put, evalO, reduceCtorEq, reduceIte, Nat.reduceAdd, Nat.reduceEqDiff]
      rw [pair_store rfl]
      simp (disch := first | (simp only [ne_eq, reduceCtorEq, not_false_eq_true, implies_true]; done) | omega) only [WS, St.guard, St.put, evalO, reduceCtorEq, reduceIte, Nat.reduceAdd, Nat.reduceEqDiff]
      clear hz
      generalize turnL n p k = zs at hmain hzl lm ⊢
      rw [hok] at hmain
      try rw [h20] at hmain
      have gdd : ∀ a b d, (AV.labs.labss [a, b]).all (refLt 0 4) = true → Good ⟨[], [none, some (dBlk (sEnc.row zs) true false), none, none, some (sBlk [a, b] d)]⟩ := fun a b d h => ⟨dBlk_good, sBlk_good h, trivial⟩
      cases both
      · simp (disch := first | (simp only [ne_eq, reduceCtorEq, not_false_eq_true, implies_true]; done) | omega) only [WS, St.guard, St.put, evalO, reduceCtorEq, reduceIte, Nat.reduceAdd, Nat.reduceEqDiff]
        rw [WP_p (x := .bool true) (by exact aw _) (gdd _ _ _ rfl)]
        simp (disch := first | (simp only [ne_eq, reduceCtorEq, not_false_eq_true, implies_true]; done) | omega) only [WS, St.guard, St.put, evalO, reduceCtorEq, reduceIte, Nat.reduceAdd, Nat.reduceEqDiff]
        rw [pair_load rfl]
        simp (disch := first | (simp only [ne_eq, reduceCtorEq, not_false_eq_true, implies_true]; done) | omega) only [WS, St.guard, St.put, evalO, reduceCtorEq, reduceIte, Nat.reduceAdd, Nat.reduceEqDiff]
        rw [WP_p (x := .bool (scopeOK zs [])) (by exact Right_spec H.toScopeLib ((vz zs hzl _).into) ((vn _).into) lm (by simp)) (gdd _ _ _ rfl)]
        simp (disch := first | (simp only [ne_eq, reduceCtorEq, not_false_eq_true, implies_true]; done) | omega) only [WS, St.guard, St.put, evalO, reduceCtorEq, reduceIte, Nat.reduceAdd, Nat.reduceEqDiff, scopeOK, hmain, show namesOK [] = true from rfl, ep, fin_tmp, leave_v]
        simp
      · simp (disch := first | (simp only [ne_eq, reduceCtorEq, not_false_eq_true, implies_true]; done) | omega) only [WS, St.guard, St.put, evalO, reduceCtorEq, reduceIte, Nat.reduceAdd, Nat.reduceEqDiff]
        refine (WR_same (.agg [.v (.slice none 0 0), .own (.l 1) n 0 n 1 none]) (by rfl)).2 ?_
        simp (disch := first | (simp only [ne_eq, reduceCtorEq, not_false_eq_true, implies_true]; done) | omega) only [WS, St.guard, St.put, evalO, reduceCtorEq, reduceIte, Nat.reduceAdd, Nat.reduceEqDiff]
        rw [pair_store rfl]
        simp (disch := first | (simp only [ne_eq, reduceCtorEq, not_false_eq_true, implies_true]; done) | omega) only [WS, St.guard, St.put, evalO, reduceCtorEq, reduceIte, Nat.reduceAdd, Nat.reduceEqDiff]
        rw [WP_p (x := .bool true) (by exact aw _) (gdd _ _ _ rfl)]
        simp (disch := first | (simp only [ne_eq, reduceCtorEq, not_false_eq_true, implies_true]; done) | omega) only [WS, St.guard, St.put, evalO, reduceCtorEq, reduceIte, Nat.reduceAdd, Nat.reduceEqDiff]
        rw [pair_load rfl]
        simp (disch := first | (simp only [ne_eq, reduceCtorEq, not_false_eq_true, implies_true]; done) | omega) only [WS, St.guard, St.put, evalO, reduceCtorEq, reduceIte, Nat.reduceAdd, Nat.reduceEqDiff]
        rw [WP_p (x := .bool (scopeOK [] zs)) (by exact Right_spec H.toScopeLib ((vn _).into) ((vz zs hzl _).into) (by simp) lm) (gdd _ _ _ rfl)]
        simp (disch := first | (simp only [ne_eq, reduceCtorEq, not_false_eq_true, implies_true]; done) | omega) only [WS, St.guard, St.put, evalO, reduceCtorEq, reduceIte, Nat.reduceAdd, Nat.reduceEqDiff, scopeOK, hmain, show namesOK [] = true from rfl, ep, fin_tmp, leave_v]
        simp
end Go.AM
