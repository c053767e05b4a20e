import Derived.Test.YtdcnjckkcfoppaaPackA
set_option linter.unusedVariables false
set_option linter.unusedSimpArgs false
namespace Go.AM
variable {prog : String → Option IFn}
def nlen : Txt → Nat → Int
  | [], _ => -1
  | c :: cs, i => if c.toNat < 128 then (i : Int) + 1 else if i = 8 then 0 else nlen cs (i + 1)
def nvalN (bs : Txt) : Nat → Nat
  | 0 => 0
  | i + 1 => nvalN bs i + (bs.getD i 0).toNat % 128 * 2 ^ (7 * i)
def rdB (a : AV) (e : Int) : Option Blk := some (sBlk [a, .v (.int .i64 e)] a.lf)
structure RdA (G : List (Option Blk)) (p : Nat) (a : AV) (bs : Txt) : Prop where
  v : ∀ L, View ⟨G, L⟩ a 1 bs.length (bs.map byteAV)
  lt : a.labs.all (labLt p) = true
  big : bs.length ≤ 2 ^ 40
variable {G : List (Option Blk)} {p : Nat} {a : AV} {bs : Txt} {e : Int}
theorem sub_facts {h : Hp} {len cells} (v : View h a 1 len cells) {i j : Nat} : (AM.sub a 1 i j).cellsOf = some [AM.sub a 1 i j] ∧ (AM.sub a 1 i j).lf = a.lf ∧ (AM.sub a 1 i j).labs = a.labs := by
  rcases v.cases with ⟨rfl, rfl, rfl⟩ | ⟨nl, rfl⟩ | ⟨ℓ, n, off, cap, B, rfl, hB, hn, hc, hl⟩ <;> exact ⟨rfl, rfl, rfl⟩
def rnum (bs : Txt) (least most : Int) : Int × Nat × Int :=
  if nlen bs 0 < 0 then (0, 0, 3) else if nlen bs 0 = 0 then (0, 0, 4) else
  if 1 < (nlen bs 0).toNat ∧ bs.getD ((nlen bs 0).toNat - 1) 0 = 0 then (0, 0, 4) else
  if (nvalN bs (nlen bs 0).toNat : Int) < least ∨ most < (nvalN bs (nlen bs 0).toNat : Int) then (0, 0, 4) else (nvalN bs (nlen bs 0).toNat, (nlen bs 0).toNat, 0)
theorem RdA.set {B : Option Blk} (R : RdA G p a bs) : RdA (G.set p B) p a bs := by
  refine ⟨fun L => ?_, R.lt, R.big⟩
  refine (R.v L).ofGet fun ℓ n off l es c ha => ?_
  have hl := R.lt
  rw [ha] at hl
  simp only [AV.labs, List.all_cons, List.all_nil, Bool.and_true] at hl
  cases ℓ with
  | l k => simp [labLt] at hl
  | o q =>
    simp only [labLt, decide_eq_true_eq] at hl
    simp only [Hp.get]
    rw [List.getElem?_set, if_neg (by omega)]
end Go.AM
namespace Go.AM
variable {prog : String → Option IFn}
variable {G : List (Option Blk)} {p : Nat} {a : AV} {bs : Txt} {e : Int}
theorem RdA.drop (R : RdA G p a bs) {k : Nat} (hk : k ≤ bs.length) : RdA G p (AM.sub a 1 k bs.length) (bs.drop k) := by
  refine ⟨fun L => ?_, by rw [(sub_facts (R.v [])).2.2]; exact R.lt, by rw [List.length_drop]; have := R.big; omega⟩
  have := (R.v L).sub hk (Nat.le_refl _)
  rw [Nat.mul_one, Nat.mul_one, ← List.map_drop, List.take_of_length_le (by simp)] at this
  rw [List.length_drop]
  exact this
def rtext (bs : Txt) (most : Int) : Txt × Nat × Int :=
  if (rnum bs 0 most).2.2 ≠ 0 then ([], (rnum bs 0 most).2.1, (rnum bs 0 most).2.2)
  else if bs.length - (rnum bs 0 most).2.1 < (rnum bs 0 most).1.toNat then ([], (rnum bs 0 most).2.1, 3)
  else ((bs.drop (rnum bs 0 most).2.1).take (rnum bs 0 most).1.toNat, (rnum bs 0 most).2.1 + (rnum bs 0 most).1.toNat, 0)
end Go.AM
