import Derived.Test.YtikbagggffehkaaGoodsA
set_option linter.unusedVariables false
set_option linter.unusedSimpArgs false
namespace Go.AM
variable {prog : String → Option IFn}
section
variable {α : Type} {T : Enc α}
theorem Enc.row_cons (x : α) (xs : List α) : T.row (x :: xs) = T.E x ++ T.row xs := by simp [Enc.row]
theorem Enc.row_drop : ∀ (xs : List α) (i : Nat), (T.row xs).drop (i * T.esz) = T.row (xs.drop i)
  | xs, 0 => by simp
  | [], i + 1 => by simp [Enc.row]
  | x :: xs, i + 1 => by
    rw [Enc.row_cons, List.drop_succ_cons, ← Enc.row_drop xs i, Nat.add_mul, Nat.one_mul, Nat.add_comm, ← List.drop_drop]
    rw [show (T.E x ++ T.row xs).drop T.esz = T.row xs from by rw [← T.len x, List.drop_left]]
theorem Enc.row_take : ∀ (xs : List α) (i : Nat), (T.row xs).take (i * T.esz) = T.row (xs.take i)
  | xs, 0 => by simp [Enc.row]
  | [], i + 1 => by simp [Enc.row]
  | x :: xs, i + 1 => by
    rw [Enc.row_cons, List.take_succ_cons, Enc.row_cons, ← Enc.row_take xs i, Nat.add_mul, Nat.one_mul, Nat.add_comm]
    conv => lhs; rw [← T.len x]
    rw [List.take_length_add_append]
    rw [T.len]
theorem TView.sub {h a} {xs : List α} (v : TView T h a xs) {i j : Nat} (hij : i ≤ j) (hj : j ≤ xs.length) : TView T h (AM.sub a T.esz i j) ((xs.drop i).take (j - i)) := by
  have := View.sub v hij hj
  unfold TView
  rw [Enc.row_drop, Enc.row_take] at this
  have hl : ((xs.drop i).take (j - i)).length = j - i := by rw [List.length_take, List.length_drop]; omega
  rw [hl]; exact this
end
end Go.AM
