import Derived.Test.YtikbagggffehkaaDiskC
import Derived.Test.YtikbagggffehkaaDiskB
set_option linter.unusedVariables false
set_option linter.unusedSimpArgs false
namespace Go.AM
variable {prog : String → Option IFn}
variable {G L : List (Option Blk)} {P : DPos} {D : DskD} {n : Nat}
def cloneB (esz bytes : Nat) (z : List Value) : ICode :=
  (.seq (.ops [⟨some 2, .id, [.c (.slice none 0 0)], none, [], [], false⟩])
    (.seq
      (.seq (.ops [⟨some 3, .id, [.t 0], none, [], [], false⟩, ⟨some 4, .eqNil false .slice, [.t 3, .c (.slice none 0 0)], none, [], [], false⟩])
        (.cond (.t 4) (.seq (.ops [⟨some 2, .id, [.c (.slice none 0 0)], none, [], [], false⟩]) .ret) .skip))
      (.seq
        (.ops [⟨some 5, .buildSlice 0 false esz 0 z [], [], none, [], [], false⟩, ⟨some 6, .id, [.t 0], none, [], [], false⟩,
          ⟨some 7, .append 1 false esz bytes, [.t 5, .t 6], none, [], [], false⟩, ⟨some 2, .id, [.t 7], none, [], [], false⟩])
        .ret)))
theorem build0T {G L} {site esz : Nat} {z : List Value} (hL : L[site]? = some none) : prim ⟨G, L⟩ (.buildSlice site false esz 0 z []) [] = some (.own (.l site) 0 0 0 esz (some 0), ⟨G, L.set site (some (dBlk [] false false))⟩) := by
  simp only [px_buildSlice, Hp.mayFreeze, Bool.false_eq_true, if_false, Option.bind_some, List.replicate_zero, List.flatten_nil, fills, Nat.zero_mul, List.length_nil, if_true, Hp.new, hL, Option.map_some]
  rfl
theorem append_cap0T {G L} {site j bytes k esz : Nat} {x : AV} {new : List AV} (hL : L[j]? = some (some (dBlk [] false false))) (hs : L[site]? = some none) (hv : View ⟨G, L⟩ x esz k new) (hd : AV.lf.lfs new = true) (h0 : 0 < k) (hr : k * bytes ≤ room) :
    prim ⟨G, L⟩ (.append site false esz bytes) [.own (.l j) 0 0 0 esz (some 0), x] = some (.own (.l site) (k * esz) 0 k esz none, ⟨G, L.set site (some (dBlk new true false))⟩) := by
  simp only [prim, hv.source, Option.bind_some, Hp.mayFreeze, Bool.false_eq_true, if_false, Hp.append, hv.hclen, if_true, Hp.get, hL, Option.join_some, dBlk_cells, Nat.zero_add]
  refine (if_pos ⟨rfl, trivial, hr, rfl⟩).trans ?_
  rw [if_neg (by omega), if_neg (by omega)]
  simp only [Hp.new, hs, Option.map_some, dBlk, hd, Nat.zero_mul, List.take_zero, List.drop_zero, List.nil_append, Bool.and_self]
theorem CloneT {nm} {esz bytes : Nat} {z : List Value} (hf : prog nm = some ⟨8, 2, [.tmp 2], cloneB esz bytes z⟩) {G a} {k : Nat} {new : List AV} (w : ∀ L, View ⟨G, L⟩ a esz k new) (hd : AV.lf.lfs new = true) (hn : ∀ L, (⟨G, L⟩ : Hp).isNil .slice a = some false) (h0 : 0 < k) (hr : k * bytes ≤ room) :
    Ev prog (.call nm [a] G) (.ret (.own (.o G.length) (k * esz) 0 k esz none) (G ++ [some (dBlk new true false)])) := by
  refine call_of_fin hf ?_
  simp only [cloneB, enter, List.length_cons, List.length_nil, List.replicate, Nat.reduceAdd, Nat.reduceSub, List.cons_append, List.nil_append]
  simp (disch := first | (simp only [DS, reduceCtorEq]; done) | omega) only [WS, St.guard, St.put, evalO, reduceCtorEq, reduceIte, Nat.reduceAdd, Nat.reduceEqDiff, isNilV, hn]
  rw [build0T rfl]
  simp (disch := first | (simp only [DS, reduceCtorEq]; done) | omega) only [WS, St.guard, St.put, evalO, reduceCtorEq, reduceIte, Nat.reduceAdd, Nat.reduceEqDiff]
  rw [append_cap0T (j := 0) (site := 1) rfl rfl (w _) hd h0 hr]
  simp (disch := first | (simp only [DS, reduceCtorEq]; done) | omega) only [WS, St.guard, St.put, evalO, reduceCtorEq, reduceIte, Nat.reduceAdd, Nat.reduceEqDiff, fin_tmp]
  exact ⟨by simp, leave_own1 (j := 1) rfl rfl⟩
end Go.AM
