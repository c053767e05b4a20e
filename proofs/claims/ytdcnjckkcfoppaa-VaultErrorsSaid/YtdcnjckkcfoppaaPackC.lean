import Derived.Test.YtdcnjckkcfoppaaLawPackB
set_option linter.unusedVariables false
set_option linter.unusedSimpArgs false
namespace Go.AM
variable {prog : String → Option IFn}
variable {G L : List (Option Blk)} {i j k : Nat} {bs : Txt} {c : Option Nat} {e : Int}
theorem WDP_of {s : St} {kf : List Kf} {Q : Out → St → Prop} {p : Prim} {xs m ld dst l} {a : AV} {h' : Hp} (he : Ev prog (.op p xs s.h) (.val a h')) (hg : Good s.h) (hg' : Good h') (hl : h'.L.length = s.h.L.length) (hq : Quiet (p.sites ++ m) s.h h')
    (h : WD prog l kf (({ s with h := h' } : St).put dst a) Q) : WDP prog p xs [] m ld dst l kf s Q := by
  refine WDP_go (h1 := h') (by rw [over_nil]; exact he) (by simp) hg hl ?_ ?_
  · rw [over_nil]; exact .inr ⟨hq, hg'⟩
  · rw [over_nil]; exact h
section
variable (H : PackLib prog) (hg : Good ⟨G, L⟩)
include H hg
end
end Go.AM
