import Derived.Test.YtikbagggffehkaaLeafB
import Derived.Test.YtikbagggffehkaaHelp
import Derived.Test.YtikbagggffehkaaAMD
set_option linter.unusedVariables false
set_option linter.unusedSimpArgs false
namespace Go.AM
variable {prog : String → Option IFn}
theorem build0 {G L} {site : Nat} {z : Value} (hL : L[site]? = some none) : prim ⟨G, L⟩ (.buildSlice site false 1 0 [z] []) [] = some (.own (.l site) 0 0 0 1 (some 0), ⟨G, L.set site (some (dBlk [] false false))⟩) := by
  simp only [px_buildSlice, Hp.mayFreeze, Bool.false_eq_true, if_false, Option.bind_some, List.replicate_zero, List.flatten_nil, fills, Nat.zero_mul, List.length_nil, if_true, Hp.new, hL, Option.map_some]
  rfl
theorem append_cap0 {G L} {site j bytes k : Nat} {x : AV} {new : List AV} (hL : L[j]? = some (some (dBlk [] false false))) (hs : L[site]? = some none) (hv : View ⟨G, L⟩ x 1 k new) (hd : AV.lf.lfs new = true) (h0 : 0 < k) (hr : k * bytes ≤ room) :
    prim ⟨G, L⟩ (.append site false 1 bytes) [.own (.l j) 0 0 0 1 (some 0), x] = some (.own (.l site) k 0 k 1 none, ⟨G, L.set site (some (dBlk new true false))⟩) := by
  simp only [prim, hv.source, Option.bind_some, Hp.mayFreeze, Bool.false_eq_true, if_false, Hp.append, hv.hclen, if_true, Hp.get, hL, Option.join_some, dBlk_cells, Nat.zero_add]
  refine (if_pos ⟨rfl, trivial, hr, rfl⟩).trans ?_
  rw [if_neg (by omega), if_neg (by omega)]
  simp only [Hp.new, hs, Option.map_some, dBlk, hd, Nat.zero_mul, List.take_zero, List.drop_zero, List.nil_append, Bool.and_self, Nat.mul_one]
theorem Clone_specN {nm} (hf : prog nm = some f_bytes_Clone) {G a} {bs : List UInt8} {nb : Bool} (w : ∀ L, View ⟨G, L⟩ a 1 bs.length (bs.map byteAV)) (hn : ∀ L, (⟨G, L⟩ : Hp).isNil .slice a = some nb) (hb : nb = true → bs = []) (hr : bs.length ≤ room) :
    ∃ r Bs, Ev prog (.call nm [a] G) (.ret r (G ++ Bs)) ∧ RetSlice G r Bs 1 bs.length (bs.map byteAV) := by
  cases nb with
  | true =>
    have := hb rfl
    subst this
    refine ⟨_, _, call_of_fin hf ?_, retSlice_nil (by omega)⟩
    simp only [f_bytes_Clone_B, enter, List.length_cons, List.length_nil, List.replicate, Nat.reduceAdd, Nat.reduceSub, List.cons_append, List.nil_append]
    simp (disch := first | (simp only [DS, reduceCtorEq]; done) | omega) only [WS, St.guard, St.put, evalO, reduceCtorEq, reduceIte, Nat.reduceAdd, Nat.reduceEqDiff, isNilV, hn, fin_tmp, leave_v, List.append_nil]
    simp
  | false =>
    by_cases h0 : bs.length = 0
    · have : bs = [] := List.eq_nil_of_length_eq_zero h0
      subst this
      refine ⟨_, _, call_of_fin hf ?_, retSlice_own (cs := []) (o := false) (v := false) (n := 0) (off := 0) (len := 0) (cap := some 0) rfl rfl rfl (by omega) (Nat.le_refl _)⟩
      simp only [f_bytes_Clone_B, enter, List.length_cons, List.length_nil, List.replicate, Nat.reduceAdd, Nat.reduceSub, List.cons_append, List.nil_append]
      simp (disch := first | (simp only [DS, reduceCtorEq]; done) | omega) only [WS, St.guard, St.put, evalO, reduceCtorEq, reduceIte, Nat.reduceAdd, Nat.reduceEqDiff, isNilV, hn]
      rw [build0 rfl]
      simp (disch := first | (simp only [DS, reduceCtorEq]; done) | omega) only [WS, St.guard, St.put, evalO, reduceCtorEq, reduceIte, Nat.reduceAdd, Nat.reduceEqDiff]
      have ap : prim ⟨G, [some (dBlk [] false false), none]⟩ (.append 1 false 1 1) [.own (.l 0) 0 0 0 1 (some 0), a] = some (.own (.l 0) 0 0 0 1 (some 0), ⟨G, [some (dBlk [] false false), none]⟩) := by
        simp only [prim, (w _).source, Option.bind_some, Hp.mayFreeze, Bool.false_eq_true, if_false, Hp.append, List.map_nil, List.length_nil, Nat.zero_mul, if_true, Hp.get, List.getElem?_cons_zero, Option.join_some]
        exact if_pos ⟨rfl, trivial, by unfold room; omega, rfl⟩
      rw [ap]
      simp (disch := first | (simp only [DS, reduceCtorEq]; done) | omega) only [WS, St.guard, St.put, evalO, reduceCtorEq, reduceIte, Nat.reduceAdd, Nat.reduceEqDiff, fin_tmp]
      exact ⟨by simp, leave_own1 (j := 0) rfl rfl⟩
    · refine ⟨_, _, call_of_fin hf ?_, retSlice_own (cs := bs.map byteAV) (o := true) (v := false) (n := bs.length) (off := 0) (len := bs.length) (cap := none) (by simp) (List.take_of_length_le (by simp)).symm (by simp) (by omega) trivial⟩
      simp only [f_bytes_Clone_B, enter, List.length_cons, List.length_nil, List.replicate, Nat.reduceAdd, Nat.reduceSub, List.cons_append, List.nil_append]
      simp (disch := first | (simp only [DS, reduceCtorEq]; done) | omega) only [WS, St.guard, St.put, evalO, reduceCtorEq, reduceIte, Nat.reduceAdd, Nat.reduceEqDiff, isNilV, hn]
      rw [build0 rfl]
      simp (disch := first | (simp only [DS, reduceCtorEq]; done) | omega) only [WS, St.guard, St.put, evalO, reduceCtorEq, reduceIte, Nat.reduceAdd, Nat.reduceEqDiff]
      rw [append_cap0 (j := 0) (site := 1) rfl rfl (w _) bytes_lfs (by omega) (by omega)]
      simp (disch := first | (simp only [DS, reduceCtorEq]; done) | omega) only [WS, St.guard, St.put, evalO, reduceCtorEq, reduceIte, Nat.reduceAdd, Nat.reduceEqDiff, fin_tmp]
      exact ⟨by simp, leave_own1 (j := 1) rfl rfl⟩
theorem Clone_spec (hf : prog "bytes.Clone" = some f_bytes_Clone) {G a} {bs : List UInt8} {nb : Bool} (w : ∀ L, View ⟨G, L⟩ a 1 bs.length (bs.map byteAV)) (hn : ∀ L, (⟨G, L⟩ : Hp).isNil .slice a = some nb) (hb : nb = true → bs = []) (hr : bs.length ≤ room) :
    ∃ r Bs, Ev prog (.call "bytes.Clone" [a] G) (.ret r (G ++ Bs)) ∧ RetSlice G r Bs 1 bs.length (bs.map byteAV) := Clone_specN hf w hn hb hr
theorem Bytes_spec (hf : prog "haberdash/haberdashhelp.Bytes" = some f_help_Bytes) {G a b} {xs ys : List UInt8} (v : ∀ L, View ⟨G, L⟩ a 1 xs.length (xs.map byteAV)) (w : ∀ L, View ⟨G, L⟩ b 1 ys.length (ys.map byteAV)) :
    Ev prog (.call "haberdash/haberdashhelp.Bytes" [a, b] G) (.ret (.v (.bool (decide (xs = ys)))) G) := by
  refine call_of_fin hf ?_
  simp only [f_help_Bytes_B, enter, List.length_cons, List.length_nil, List.replicate, Nat.reduceAdd, Nat.reduceSub, List.cons_append, List.nil_append]
  simp (disch := first | (simp only [DS, reduceCtorEq]; done) | omega) only [WS, St.guard, St.put, evalO, reduceCtorEq, reduceIte, Nat.reduceAdd, Nat.reduceEqDiff, (v _).bytesStr, (w _).bytesStr, vBin_eql_str, fin_tmp, leave_v]
  simp
end Go.AM
