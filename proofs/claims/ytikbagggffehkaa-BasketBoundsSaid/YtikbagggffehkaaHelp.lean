import Derived.Test.YtikbagggffehkaaAMA
import Derived.Test.YtikbagggffehkaaAMD
set_option linter.unusedVariables false
set_option linter.unusedSimpArgs false
namespace Go.AM
variable {prog : String → Option IFn}
def el (agg : Bool) (cs : List AV) : AV := if agg then .agg cs else cs.headD .dead
structure Enc (α : Type) where
  E : α → List AV
  esz : Nat
  agg : Bool
  len : ∀ x, (E x).length = esz
  pos : 0 < esz
  one : agg = true ∨ esz = 1
  lf : ∀ x, AV.lf.lfs (E x) = true
  cells : agg = false → ∀ x, ∃ c, E x = [c] ∧ c.cellsOf = some [c]
def Enc.row {α} (T : Enc α) (xs : List α) : List AV := xs.flatMap T.E
def Enc.av {α} (T : Enc α) (x : α) : AV := el T.agg (T.E x)
def TView {α} (T : Enc α) (h : Hp) (a : AV) (xs : List α) : Prop := View h a T.esz xs.length (T.row xs)
variable {α : Type} {T : Enc α}
theorem Enc.whole (T : Enc α) (x : α) : whole T.agg (T.E x) = some (T.av x) := by
  unfold AM.whole Enc.av el
  cases h : T.agg with
  | true => rfl
  | false => obtain ⟨c, hc, _⟩ := T.cells h x; rw [hc]; rfl
theorem Enc.cellsOf (T : Enc α) (x : α) : (T.av x).cellsOf = some (T.E x) := by
  unfold Enc.av el
  cases h : T.agg with
  | true => rfl
  | false => obtain ⟨c, hc, h2⟩ := T.cells h x; rw [hc]; exact h2
theorem Enc.row_len (T : Enc α) (xs : List α) : (T.row xs).length = xs.length * T.esz := by
  unfold Enc.row
  rw [List.flatMap_def, flatten_len' (c := T.esz)]
  · simp
  · intro x hx; obtain ⟨y, _, rfl⟩ := List.mem_map.1 hx; exact T.len y
theorem Enc.row_chunk (T : Enc α) {xs : List α} {i : Nat} {x : α} (h : xs[i]? = some x) : ((T.row xs).drop (i * T.esz)).take T.esz = T.E x := by
  unfold Enc.row
  rw [List.flatMap_def]
  refine flatten_chunk' (c := T.esz) (fun y hy => ?_) ?_
  · obtain ⟨z, _, rfl⟩ := List.mem_map.1 hy; exact T.len z
  · rw [List.getElem?_map, h]; rfl
theorem Enc.row_lf (T : Enc α) (xs : List α) : AV.lf.lfs (T.row xs) = true := by
  rw [lfs_iff]
  intro a ha
  obtain ⟨x, _, hx⟩ := List.mem_flatMap.1 ha
  exact lfs_iff.1 (T.lf x) a hx
theorem Enc.av_lf (T : Enc α) (x : α) : (T.av x).lf = true := by
  unfold Enc.av el
  cases h : T.agg with
  | true => exact T.lf x
  | false => obtain ⟨c, hc, _⟩ := T.cells h x; have := T.lf x; rw [hc] at this ⊢; simpa [AV.lf.lfs] using this
theorem TView.lenSlice {h a} {xs : List α} (v : TView T h a xs) : prim h .lenSlice [a] = some (.v (.int .i64 xs.length), h) := View.lenSlice v
theorem TView.index {h a} {xs : List α} (v : TView T h a xs) {k : IntKind} {i : Nat} (hi : i < xs.length) : prim h (.indexAddr T.esz) [a, .v (.int k i)] = some (elemPtr a T.esz i, h) := View.index v hi
theorem TView.load {h a} {xs : List α} (v : TView T h a xs) {i : Nat} {x : α} (hx : xs[i]? = some x) : prim h (.load T.esz T.agg) [elemPtr a T.esz i] = some (T.av x, h) := by
  have hi := lt_of_get hx
  rw [View.load v hi, T.row_chunk hx, T.whole]; rfl
theorem TView.into {h : Hp} {a} {xs : List α} (v : TView T h a xs) : ∀ L, TView T ⟨h.into, L⟩ (a.ren (up h.G.length)) xs := View.into v (T.row_lf xs)
end Go.AM
