import Derived.Test.YtdcnjckkcfoppaaLawPackB
set_option linter.unusedVariables false
set_option linter.unusedSimpArgs false
namespace Go.AM
variable {prog : String → Option IFn}
def rdL (i n k : Nat) (c : Option Nat) (e : Int) : Option Blk := some (sBlk [.own (.l i) n k (n - k) 1 c, .v (.int .i64 e)] false)
structure RdL (G L : List (Option Blk)) (i j : Nat) (bs : Txt) (k : Nat) (c : Option Nat) (e : Int) : Prop where
  dat : ∃ o v, L[i]? = some (some (dBlk (bs.map byteAV) o v))
  obj : L[j]? = some (rdL i bs.length k c e)
  lt : i < j
  hk : k ≤ bs.length
  hc : ∀ x, c = some x → bs.length - k ≤ x
  big : bs.length ≤ 2 ^ 40
variable {G L : List (Option Blk)} {i j k : Nat} {bs : Txt} {c : Option Nat} {e : Int}
theorem RdL.data (R : RdL G L i j bs k c e) : RdA (⟨G, L⟩ : Hp).into (G.length + j) (.own (.o (G.length + i)) bs.length k (bs.length - k) 1 c) (bs.drop k) := by
  obtain ⟨o, v, hd⟩ := R.dat
  refine ⟨fun L' => ?_, ?_, ?_⟩
  · have vv : View ⟨G, L⟩ (.own (.l i) bs.length k (bs.length - k) 1 c) 1 (bs.drop k).length ((bs.drop k).map byteAV) := by
      refine ⟨by simp [lenOf], ?_, by simp, rfl, ?_, by omega⟩
      · simp only [Hp.sees, Hp.get, hd, Option.join_some, dBlk_cells, List.length_map, if_true]
        rw [Nat.mul_one, ← List.map_drop, List.take_of_length_le (by simp)]
      · cases c with
        | none => trivial
        | some x => have := R.hc x rfl; simpa [capOK] using this
    exact vv.into bytes_lfs L'
  · have := R.lt
    simp [AV.labs, labLt]; omega
  · rw [List.length_drop]; have := R.big; omega
theorem RdL.at (R : RdL G L i j bs k c e) : (⟨G, L⟩ : Hp).into[G.length + j]? = some (rdB (.own (.o (G.length + i)) bs.length k (bs.length - k) 1 c) e) := by
  have := into_l (h := ⟨G, L⟩) (j := j)
  rw [this, R.obj]; rfl
theorem RdL.put (R : RdL G L i j bs k c e) {k2 : Nat} {c2 : Option Nat} {e2 : Int} : (⟨G, L⟩ : Hp).into.set (G.length + j) (rdB (.own (.o (G.length + i)) bs.length k2 (bs.length - k2) 1 c2) e2) = (⟨G, L.set j (rdL i bs.length k2 c2 e2)⟩ : Hp).into := by
  unfold Hp.into
  simp only
  rw [List.set_append_right _ _ (by omega), Nat.add_sub_cancel_left, List.map_set]
  rfl
theorem RdL.step (R : RdL G L i j bs k c e) {d : Nat} {e2 : Int} (hd : k + d ≤ bs.length) : RdL G (L.set j (rdL i bs.length (k + d) (c.map (· - d)) e2)) i j bs (k + d) (c.map (· - d)) e2 := by
  obtain ⟨o, v, h⟩ := R.dat
  have hl := R.lt
  have hj := lt_of_get R.obj
  refine ⟨⟨o, v, by rw [List.getElem?_set, if_neg (by omega)]; exact h⟩, by rw [List.getElem?_set_self (by omega)], R.lt, hd, fun x hx => ?_, R.big⟩
  cases c with
  | none => cases hx
  | some y =>
    have := R.hc y rfl
    simp at hx; omega
theorem WDP_of {s : St} {kf : List Kf} {Q : Out → St → Prop} {p : Prim} {xs m ld dst l} {a : AV} {h' : Hp} (he : Ev prog (.op p xs s.h) (.val a h')) (hg : Good s.h) (hg' : Good h') (hl : h'.L.length = s.h.L.length) (hq : Quiet (p.sites ++ m) s.h h')
    (h : WD prog l kf (({ s with h := h' } : St).put dst a) Q) : WDP prog p xs [] m ld dst l kf s Q := by
  refine WDP_go (h1 := h') (by rw [over_nil]; exact he) (by simp) hg hl ?_ ?_
  · rw [over_nil]; exact .inr ⟨hq, hg'⟩
  · rw [over_nil]; exact h
theorem Good.rd (hg : Good ⟨G, L⟩) (R : RdL G L i j bs k c e) {k2 : Nat} {c2 : Option Nat} {e2 : Int} : Good ⟨G, L.set j (rdL i bs.length k2 c2 e2)⟩ := by
  have hj := lt_of_get R.obj
  have hl := R.lt
  unfold Good at hg ⊢
  rw [goodL_iff] at hg ⊢
  intro q B hq
  rw [List.getElem?_set] at hq
  by_cases h : j = q
  · subst h
    rw [if_pos rfl, if_pos (by omega)] at hq
    simp only [rdL, Option.some.injEq] at hq
    subst hq
    refine sBlk_good ?_
    simp [AV.labs.labss, AV.labs, refLt]; omega
  · rw [if_neg h] at hq; exact hg q B hq
section
variable (H : PackLib prog) (hg : Good ⟨G, L⟩)
include H hg
end
end Go.AM
