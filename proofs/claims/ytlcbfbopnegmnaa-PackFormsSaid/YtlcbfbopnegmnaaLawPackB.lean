import Derived.Test.YtlcbfbopnegmnaaPackB
import Derived.Test.YtlcbfbopnegmnaaLawPack
set_option linter.unusedVariables false
set_option linter.unusedSimpArgs false
namespace Go.AM
variable {prog : String → Option IFn}
variable {G : List (Option Blk)} {p : Nat} {a : AV} {bs : Txt} {e : Int}
theorem Text_err (H : PackLib prog) {most : Int} (hp : G[p]? = some (rdB a e)) (he : e ≠ 0) : Ev prog (.call "(*haberdash/pack.Reader).Text" [.ptr (.o p) 2 0, .v (.int .i64 most)] G) (.ret (.v (str [])) G) := by
  have h1 : (e != 0) = true := by rw [bne_iff_ne]; exact he
  have inner : Ev prog (.call "(*haberdash/pack.Reader).text" [.ptr (.o p) 2 0, .v (.int .i64 most), .fn "(*haberdash/pack.Reader).Num" [.ptr (.o p) 2 0] []] G) (.ret (.v (str [])) G) := by
    refine call_of_fin H.rdtxt ?_
    simp only [f___pack_Reader__text_B, enter, List.length_cons, List.length_nil, List.replicate, Nat.reduceAdd, Nat.reduceSub, List.cons_append, List.nil_append]
    simp (disch := first | (simp only [ne_eq, reduceCtorEq, not_false_eq_true, implies_true, List.getElem?_cons_zero, List.getElem?_cons_succ]; done) | omega) only [WS, St.guard, St.put, evalO, reduceCtorEq, reduceIte, Nat.reduceAdd, Nat.reduceEqDiff]
    refine WP_of (op_fnV (h' := ⟨G, []⟩) (by rw [into_nil]; exact Num_err H hp he) rfl rfl rfl trivial trivial) ?_
    simp (disch := first | (simp only [ne_eq, reduceCtorEq, not_false_eq_true, implies_true, List.getElem?_cons_zero, List.getElem?_cons_succ]; done) | omega) only [WS, St.guard, St.put, evalO, reduceCtorEq, reduceIte, Nat.reduceAdd, Nat.reduceEqDiff]
    refine WP_of (Err_op H hp) ?_
    simp (disch := first | (simp only [ne_eq, reduceCtorEq, not_false_eq_true, implies_true, List.getElem?_cons_zero, List.getElem?_cons_succ]; done) | omega) only [WS, St.guard, St.put, evalO, reduceCtorEq, reduceIte, Nat.reduceAdd, Nat.reduceEqDiff, h1, fin_tmp, leave_v]
    simp [str]
  refine call_of_fin H.rdtext ?_
  simp only [f___pack_Reader__Text_B, enter, List.length_cons, List.length_nil, List.replicate, Nat.reduceAdd, Nat.reduceSub, List.cons_append, List.nil_append]
  simp (disch := first | (simp only [ne_eq, reduceCtorEq, not_false_eq_true, implies_true, List.getElem?_cons_zero, List.getElem?_cons_succ]; done) | omega) only [WS, St.guard, St.put, evalO, reduceCtorEq, reduceIte, Nat.reduceAdd, Nat.reduceEqDiff, new_s, virtBlk_eq, box_s, box_vs, box_vi, box_vb, px_load_l, px_load_o, loadB_s, storeX, storeB_s, alloc_s, lay, whole, Option.join_some, List.drop_zero, List.drop_succ_cons, List.take_succ_cons, List.take_zero, List.drop_nil, List.nil_append, List.cons_append, Nat.reduceLeDiff, Nat.zero_add, and_self, and_true, cells_int, cells_bool, cells_str, cells_string, cells_agg, cells_own, cells_ro, cells_ptr, cells_nil, AV.lf.lfs, AV.lf, px_build, fills, build_string, build_str, build_int, WDR_some, Nat.reduceLeDiff, Nat.le_refl, Bool.and_self]
  refine WP_of (op_turn ⟨G, []⟩ (by rw [into_nil]; exact inner) rfl rfl rfl trivial trivial) ?_
  simp (disch := first | (simp only [ne_eq, reduceCtorEq, not_false_eq_true, implies_true, List.getElem?_cons_zero, List.getElem?_cons_succ]; done) | omega) only [WS, St.guard, St.put, evalO, reduceCtorEq, reduceIte, Nat.reduceAdd, Nat.reduceEqDiff, fin_tmp, leave_v]
  simp
theorem eql_empty {s : Txt} : vBin .eql (str s) (.string ⟨#[]⟩) = some (.bool (decide (s = []))) := vBin_eql_str (b := [])
end Go.AM
