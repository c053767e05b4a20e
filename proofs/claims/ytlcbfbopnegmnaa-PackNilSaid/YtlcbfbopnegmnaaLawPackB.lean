import Derived.Test.YtlcbfbopnegmnaaPackB
import Derived.Test.YtlcbfbopnegmnaaLawPack
set_option linter.unusedVariables false
set_option linter.unusedSimpArgs false
namespace Go.AM
variable {prog : String → Option IFn}
variable {G : List (Option Blk)} {p : Nat} {a : AV} {bs : Txt} {e : Int}
theorem Text_nil (H : PackLib prog) {most : Int} : Ev prog (.call "(*haberdash/pack.Reader).Text" [.v (.pointer none), .v (.int .i64 most)] G) (.ret (.v (str [])) G) := by
  have h1 : ((1 : Int) != 0) = true := by decide
  have inner : Ev prog (.call "(*haberdash/pack.Reader).text" [.v (.pointer none), .v (.int .i64 most), .fn "(*haberdash/pack.Reader).Num" [.v (.pointer none)] []] G) (.ret (.v (str [])) G) := by
    refine call_of_fin H.rdtxt ?_
    simp only [f___pack_Reader__text_B, enter, List.length_cons, List.length_nil, List.replicate, Nat.reduceAdd, Nat.reduceSub, List.cons_append, List.nil_append]
    simp (disch := first | (simp only [ne_eq, reduceCtorEq, not_false_eq_true, implies_true, List.getElem?_cons_zero, List.getElem?_cons_succ]; done) | omega) only [WS, St.guard, St.put, evalO, reduceCtorEq, reduceIte, Nat.reduceAdd, Nat.reduceEqDiff]
    refine WP_of (op_fnV (h' := ⟨G, []⟩) (by rw [into_nil]; exact Num_nil H) rfl rfl rfl trivial trivial) ?_
    simp (disch := first | (simp only [ne_eq, reduceCtorEq, not_false_eq_true, implies_true, List.getElem?_cons_zero, List.getElem?_cons_succ]; done) | omega) only [WS, St.guard, St.put, evalO, reduceCtorEq, reduceIte, Nat.reduceAdd, Nat.reduceEqDiff]
    refine WP_of (op_turn ⟨G, []⟩ (by rw [into_nil]; exact Err_nil H) rfl rfl rfl trivial trivial) ?_
    simp (disch := first | (simp only [ne_eq, reduceCtorEq, not_false_eq_true, implies_true, List.getElem?_cons_zero, List.getElem?_cons_succ]; done) | omega) only [WS, St.guard, St.put, evalO, reduceCtorEq, reduceIte, Nat.reduceAdd, Nat.reduceEqDiff, h1, fin_tmp, leave_v]
    simp [str]
  refine call_of_fin H.rdtext ?_
  simp only [f___pack_Reader__Text_B, enter, List.length_cons, List.length_nil, List.replicate, Nat.reduceAdd, Nat.reduceSub, List.cons_append, List.nil_append]
  simp (disch := first | (simp only [ne_eq, reduceCtorEq, not_false_eq_true, implies_true, List.getElem?_cons_zero, List.getElem?_cons_succ]; done) | omega) only [WS, St.guard, St.put, evalO, reduceCtorEq, reduceIte, Nat.reduceAdd, Nat.reduceEqDiff, new_s, virtBlk_eq, box_s, box_vs, box_vi, box_vb, px_load_l, px_load_o, loadB_s, storeX, storeB_s, alloc_s, lay, whole, Option.join_some, List.drop_zero, List.drop_succ_cons, List.take_succ_cons, List.take_zero, List.drop_nil, List.nil_append, List.cons_append, Nat.reduceLeDiff, Nat.zero_add, and_self, and_true, cells_int, cells_bool, cells_str, cells_string, cells_agg, cells_own, cells_ro, cells_ptr, cells_nil, AV.lf.lfs, AV.lf, px_build, fills, build_string, build_str, build_int, WDR_some, Nat.reduceLeDiff, Nat.le_refl, Bool.and_self]
  refine WP_of (op_turn ⟨G, []⟩ (by rw [into_nil]; exact inner) rfl rfl rfl trivial trivial) ?_
  simp (disch := first | (simp only [ne_eq, reduceCtorEq, not_false_eq_true, implies_true, List.getElem?_cons_zero, List.getElem?_cons_succ]; done) | omega) only [WS, St.guard, St.put, evalO, reduceCtorEq, reduceIte, Nat.reduceAdd, Nat.reduceEqDiff, fin_tmp, leave_v]
  simp
theorem wNum_nil (H : PackLib prog) {v : Int} : Ev prog (.call "(*haberdash/pack.Writer).Num" [.v (.pointer none), .v (.int .i64 v)] G) (.ret (.tup []) G) := by
  refine call_of_fin H.wnum ?_
  simp only [f___pack_Writer__Num_B, enter, List.length_cons, List.length_nil, List.replicate, Nat.reduceAdd, Nat.reduceSub, List.cons_append, List.nil_append]
  simp (disch := first | (simp only [ne_eq, reduceCtorEq, not_false_eq_true, implies_true, List.getElem?_cons_zero, List.getElem?_cons_succ]; done) | omega) only [WS, St.guard, St.put, evalO, reduceCtorEq, reduceIte, Nat.reduceAdd, Nat.reduceEqDiff, isNilV, Hp.isNil]
  exact ⟨.inr trivial, fin_nil⟩
theorem wText_nil (H : PackLib prog) {s : Txt} : Ev prog (.call "(*haberdash/pack.Writer).Text" [.v (.pointer none), .v (str s)] G) (.ret (.tup []) G) := by
  refine call_of_fin H.wtext ?_
  simp only [f___pack_Writer__Text_B, enter, List.length_cons, List.length_nil, List.replicate, Nat.reduceAdd, Nat.reduceSub, List.cons_append, List.nil_append]
  simp (disch := first | (simp only [ne_eq, reduceCtorEq, not_false_eq_true, implies_true, List.getElem?_cons_zero, List.getElem?_cons_succ]; done) | omega) only [WS, St.guard, St.put, evalO, reduceCtorEq, reduceIte, Nat.reduceAdd, Nat.reduceEqDiff, isNilV, Hp.isNil]
  exact ⟨.inr trivial, fin_nil⟩
theorem wFlag_nil (H : PackLib prog) {b : Bool} : Ev prog (.call "(*haberdash/pack.Writer).Flag" [.v (.pointer none), .v (.bool b)] G) (.ret (.tup []) G) := by
  refine call_of_fin H.wflag ?_
  simp only [f___pack_Writer__Flag_B, enter, List.length_cons, List.length_nil, List.replicate, Nat.reduceAdd, Nat.reduceSub, List.cons_append, List.nil_append]
  cases b
  · simp (disch := first | (simp only [ne_eq, reduceCtorEq, not_false_eq_true, implies_true, List.getElem?_cons_zero, List.getElem?_cons_succ]; done) | omega) only [WS, St.guard, St.put, evalO, reduceCtorEq, reduceIte, Nat.reduceAdd, Nat.reduceEqDiff]
    refine WP_of (op_turn ⟨G, []⟩ (by rw [into_nil]; exact wNum_nil H) rfl rfl rfl trivial trivial) ?_
    simp (disch := first | (simp only [ne_eq, reduceCtorEq, not_false_eq_true, implies_true, List.getElem?_cons_zero, List.getElem?_cons_succ]; done) | omega) only [WS, St.guard, St.put, evalO, reduceCtorEq, reduceIte, Nat.reduceAdd, Nat.reduceEqDiff]
    exact ⟨.inl trivial, fin_nil⟩
  · simp (disch := first | (simp only [ne_eq, reduceCtorEq, not_false_eq_true, implies_true, List.getElem?_cons_zero, List.getElem?_cons_succ]; done) | omega) only [WS, St.guard, St.put, evalO, reduceCtorEq, reduceIte, Nat.reduceAdd, Nat.reduceEqDiff]
    refine WP_of (op_turn ⟨G, []⟩ (by rw [into_nil]; exact wNum_nil H) rfl rfl rfl trivial trivial) ?_
    simp (disch := first | (simp only [ne_eq, reduceCtorEq, not_false_eq_true, implies_true, List.getElem?_cons_zero, List.getElem?_cons_succ]; done) | omega) only [WS, St.guard, St.put, evalO, reduceCtorEq, reduceIte, Nat.reduceAdd, Nat.reduceEqDiff]
    exact ⟨.inl trivial, fin_nil⟩
theorem wBytes_nilp (H : PackLib prog) : Ev prog (.call "(*haberdash/pack.Writer).Bytes" [.v (.pointer none)] G) (.ret (.v (.slice none 0 0)) G) := by
  refine call_of_fin H.wbytes ?_
  simp only [f___pack_Writer__Bytes_B, enter, List.length_cons, List.length_nil, List.replicate, Nat.reduceAdd, Nat.reduceSub, List.cons_append, List.nil_append]
  simp (disch := first | (simp only [ne_eq, reduceCtorEq, not_false_eq_true, implies_true, List.getElem?_cons_zero, List.getElem?_cons_succ]; done) | omega) only [WS, St.guard, St.put, evalO, reduceCtorEq, reduceIte, Nat.reduceAdd, Nat.reduceEqDiff, isNilV, Hp.isNil, fin_tmp, leave_v]
  simp
theorem eql_empty {s : Txt} : vBin .eql (str s) (.string ⟨#[]⟩) = some (.bool (decide (s = []))) := vBin_eql_str (b := [])
theorem PackNil_law (H : Law4 prog) (hp : prog "haberdash/haberdashlaw04.PackNil" = some f_law04_PackNil) {as} (h : IsAll [.int .i64, .str, .bool] as) :
    ∃ G2, Ev prog (.call "haberdash/haberdashlaw04.PackNil" as []) (.ret (.v (.bool true)) G2) := by
  rcases as with _ | ⟨a0, _ | ⟨a1, _ | ⟨a2, _ | _⟩⟩⟩ <;> try (simp [IsAll] at h; done)
  obtain ⟨⟨c0', h0, rfl⟩, ⟨c1', h1, rfl⟩, ⟨c2', h2, rfl⟩, _⟩ := h
  obtain ⟨n, rfl, hn⟩ := is_i64 h0
  obtain ⟨s, rfl, hs⟩ := is_str h1
  obtain ⟨b, rfl⟩ := h2
  have L := H.toPackLib
  have gn : Good ⟨[], [none]⟩ := trivial
  refine ⟨[], call_of_fin hp ?_⟩
  simp only [f_law04_PackNil_B, enter, List.length_cons, List.length_nil, List.replicate, Nat.reduceAdd, Nat.reduceSub, List.cons_append, List.nil_append, Ty.arg, intAV]
  simp (disch := first | (simp only [ne_eq, reduceCtorEq, not_false_eq_true, implies_true, List.getElem?_cons_zero, List.getElem?_cons_succ]; done) | omega) only [WS, St.guard, St.put, evalO, reduceCtorEq, reduceIte, Nat.reduceAdd, Nat.reduceEqDiff, new_s, virtBlk_eq, box_s, box_vs, box_vi, box_vb, px_load_l, px_load_o, loadB_s, storeX, storeB_s, alloc_s, lay, whole, Option.join_some, List.drop_zero, List.drop_succ_cons, List.take_succ_cons, List.take_zero, List.drop_nil, List.nil_append, List.cons_append, Nat.reduceLeDiff, Nat.zero_add, and_self, and_true, cells_int, cells_bool, cells_str, cells_string, cells_agg, cells_own, cells_ro, cells_ptr, cells_nil, AV.lf.lfs, AV.lf, px_build, fills, build_string, build_str, build_int, WDR_some, Nat.reduceLeDiff, Nat.le_refl, Bool.and_self]
  refine (WP_r (r := .tup []) (by exact wNum_nil L) rfl gn).2 ?_
  simp (disch := first | (simp only [ne_eq, reduceCtorEq, not_false_eq_true, implies_true, List.getElem?_cons_zero, List.getElem?_cons_succ]; done) | omega) only [WS, St.guard, St.put, evalO, reduceCtorEq, reduceIte, Nat.reduceAdd, Nat.reduceEqDiff]
  refine (WP_r (r := .tup []) (by exact wText_nil L) rfl gn).2 ?_
  simp (disch := first | (simp only [ne_eq, reduceCtorEq, not_false_eq_true, implies_true, List.getElem?_cons_zero, List.getElem?_cons_succ]; done) | omega) only [WS, St.guard, St.put, evalO, reduceCtorEq, reduceIte, Nat.reduceAdd, Nat.reduceEqDiff]
  refine (WP_r (r := .tup []) (by exact wFlag_nil L) rfl gn).2 ?_
  simp (disch := first | (simp only [ne_eq, reduceCtorEq, not_false_eq_true, implies_true, List.getElem?_cons_zero, List.getElem?_cons_succ]; done) | omega) only [WS, St.guard, St.put, evalO, reduceCtorEq, reduceIte, Nat.reduceAdd, Nat.reduceEqDiff]
  refine (WP_p (x := .bool true) (by exact awake4 H (.inl rfl)) gn).2 ?_
  simp (disch := first | (simp only [ne_eq, reduceCtorEq, not_false_eq_true, implies_true, List.getElem?_cons_zero, List.getElem?_cons_succ]; done) | omega) only [WS, St.guard, St.put, evalO, reduceCtorEq, reduceIte, Nat.reduceAdd, Nat.reduceEqDiff]
  refine WP_of (op_none (by exact wBytes_nilp L) (by decide) rfl gn) ?_
  simp (disch := first | (simp only [ne_eq, reduceCtorEq, not_false_eq_true, implies_true, List.getElem?_cons_zero, List.getElem?_cons_succ]; done) | omega) only [WS, St.guard, St.put, evalO, reduceCtorEq, reduceIte, Nat.reduceAdd, Nat.reduceEqDiff, goInt, Int.reduceBEq]
  refine (WP_p (x := .int .i64 0) (by exact Num_nil L) gn).2 ?_
  simp (disch := first | (simp only [ne_eq, reduceCtorEq, not_false_eq_true, implies_true, List.getElem?_cons_zero, List.getElem?_cons_succ]; done) | omega) only [WS, St.guard, St.put, evalO, reduceCtorEq, reduceIte, Nat.reduceAdd, Nat.reduceEqDiff, Int.reduceBEq]
  refine (WP_p (x := str []) (by exact Text_nil L) gn).2 ?_
  simp (disch := first | (simp only [ne_eq, reduceCtorEq, not_false_eq_true, implies_true, List.getElem?_cons_zero, List.getElem?_cons_succ]; done) | omega) only [WS, St.guard, St.put, evalO, reduceCtorEq, reduceIte, Nat.reduceAdd, Nat.reduceEqDiff, eql_empty, decide_true]
  refine (WP_p (x := .bool false) (by exact Flag_nil L) gn).2 ?_
  simp (disch := first | (simp only [ne_eq, reduceCtorEq, not_false_eq_true, implies_true, List.getElem?_cons_zero, List.getElem?_cons_succ]; done) | omega) only [WS, St.guard, St.put, evalO, reduceCtorEq, reduceIte, Nat.reduceAdd, Nat.reduceEqDiff]
  refine (WP_p (x := .int .i64 1) (by exact Err_nil L) gn).2 ?_
  simp (disch := first | (simp only [ne_eq, reduceCtorEq, not_false_eq_true, implies_true, List.getElem?_cons_zero, List.getElem?_cons_succ]; done) | omega) only [WS, St.guard, St.put, evalO, reduceCtorEq, reduceIte, Nat.reduceAdd, Nat.reduceEqDiff, Int.reduceBEq]
  refine (WP_p (x := .int .i64 1) (by exact End_nil L) gn).2 ?_
  simp (disch := first | (simp only [ne_eq, reduceCtorEq, not_false_eq_true, implies_true, List.getElem?_cons_zero, List.getElem?_cons_succ]; done) | omega) only [WS, St.guard, St.put, evalO, reduceCtorEq, reduceIte, Nat.reduceAdd, Nat.reduceEqDiff, Int.reduceBEq, fin_tmp, leave_v]
  simp
end Go.AM
