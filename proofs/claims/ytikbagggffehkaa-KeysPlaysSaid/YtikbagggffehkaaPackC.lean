import Derived.Test.YtikbagggffehkaaLawPackB
set_option linter.unusedVariables false
set_option linter.unusedSimpArgs false
namespace Go.AM
variable {prog : String → Option IFn}
theorem Clone0 {nm} (hf : prog nm = some f_bytes_Clone) {G a} (w : ∀ L, View ⟨G, L⟩ a 1 ([] : Txt).length (([] : Txt).map byteAV)) (hn : ∀ L, (⟨G, L⟩ : Hp).isNil .slice a = some false) :
    Ev prog (.call nm [a] G) (.ret (.own (.o G.length) 0 0 0 1 (some 0)) (G ++ [some (dBlk [] false false)])) := by
  refine call_of_fin hf ?_
  simp only [f_bytes_Clone_B, enter, List.length_cons, List.length_nil, List.replicate, Nat.reduceAdd, Nat.reduceSub, List.cons_append, List.nil_append]
  simp (disch := first | (simp only [DS, reduceCtorEq]; done) | omega) only [WS, St.guard, St.put, evalO, reduceCtorEq, reduceIte, Nat.reduceAdd, Nat.reduceEqDiff, isNilV, hn]
  rw [build0 rfl]
  simp (disch := first | (simp only [DS, reduceCtorEq]; done) | omega) only [WS, St.guard, St.put, evalO, reduceCtorEq, reduceIte, Nat.reduceAdd, Nat.reduceEqDiff]
  have ap : prim ⟨G, [some (dBlk [] false false), none]⟩ (.append 1 false 1 1) [.own (.l 0) 0 0 0 1 (some 0), a] = some (.own (.l 0) 0 0 0 1 (some 0), ⟨G, [some (dBlk [] false false), none]⟩) := by
    simp only [prim, (w _).source, Option.bind_some, Hp.mayFreeze, Bool.false_eq_true, if_false, Hp.append, List.map_nil, List.length_nil, Nat.zero_mul, if_true, Hp.get, List.getElem?_cons_zero, Option.join_some]
    exact if_pos ⟨rfl, trivial, by unfold room; omega, rfl⟩
  rw [ap]
  simp (disch := first | (simp only [DS, reduceCtorEq]; done) | omega) only [WS, St.guard, St.put, evalO, reduceCtorEq, reduceIte, Nat.reduceAdd, Nat.reduceEqDiff, fin_tmp]
  exact ⟨by simp, leave_own1 (j := 0) rfl rfl⟩
end Go.AM
namespace Go.AM
variable {prog : String → Option IFn}
variable {G L : List (Option Blk)} {i j k : Nat} {bs : Txt} {c : Option Nat} {e : Int}
theorem WDP_of {s : St} {kf : List Kf} {Q : Out → St → Prop} {p : Prim} {xs m ld dst l} {a : AV} {h' : Hp} (he : Ev prog (.op p xs s.h) (.val a h')) (hg : Good s.h) (hg' : Good h') (hl : h'.L.length = s.h.L.length) (hq : Quiet (p.sites ++ m) s.h h')
    (h : WD prog l kf (({ s with h := h' } : St).put dst a) Q) : WDP prog p xs [] m ld dst l kf s Q := by
  refine WDP_go (h1 := h') (by rw [over_nil]; exact he) (by simp) hg hl ?_ ?_
  · rw [over_nil]; exact .inr ⟨hq, hg'⟩
  · rw [over_nil]; exact h
section
variable (H : PackLib prog) (hg : Good ⟨G, L⟩)
include H hg
end
end Go.AM
