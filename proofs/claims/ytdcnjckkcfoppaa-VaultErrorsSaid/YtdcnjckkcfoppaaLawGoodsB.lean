import Derived.Test.YtdcnjckkcfoppaaLawGoods
set_option linter.unusedVariables false
set_option linter.unusedSimpArgs false
namespace Go.AM
variable {prog : String → Option IFn}
section
variable {α : Type} {T : Enc α}
theorem row_setf {x : AV} {f : Nat} (hf : f < T.esz) {z z' : α} (he : T.E z' = (T.E z).set f x) : ∀ {zs : List α} {k : Nat}, zs[k]? = some z → (T.row zs).set (k * T.esz + f) x = T.row (zs.set k z')
  | [], k, h => by simp at h
  | y :: zs, 0, h => by
    simp at h; subst h
    rw [List.set_cons_zero, Enc.row_cons, Enc.row_cons, he, Nat.zero_mul, Nat.zero_add, List.set_append_left _ _ (by rw [T.len]; exact hf)]
  | y :: zs, k + 1, h => by
    have ih := row_setf hf he (zs := zs) (k := k) (by simpa using h)
    rw [List.set_cons_succ, Enc.row_cons, Enc.row_cons, ← ih, List.set_append_right _ _ (by rw [T.len, Nat.add_mul]; omega), T.len]
    congr 2
    rw [Nat.add_mul]; omega
theorem row_setw {z' : α} : ∀ {zs : List α} {k : Nat}, k < zs.length → lay (T.row zs) (k * T.esz) (T.E z') = T.row (zs.set k z')
  | [], k, h => by simp at h
  | y :: zs, 0, h => by
    rw [List.set_cons_zero, Enc.row_cons, Enc.row_cons]
    unfold lay
    rw [Nat.zero_mul, List.take_zero, List.nil_append, Nat.zero_add, T.len]
    conv => lhs; rw [show (T.E y ++ T.row zs).drop T.esz = T.row zs from by rw [← T.len y, List.drop_left]]
  | y :: zs, k + 1, h => by
    have ih := row_setw (z' := z') (zs := zs) (k := k) (by simpa using h)
    rw [List.set_cons_succ, Enc.row_cons, Enc.row_cons, ← ih]
    unfold lay
    have e1 : (k + 1) * T.esz = (T.E y).length + k * T.esz := by rw [T.len, Nat.add_mul]; omega
    rw [e1, List.take_length_add_append, Nat.add_assoc, List.drop_append, List.drop_of_length_le (by omega), List.nil_append, Nat.add_sub_cancel_left]
    simp [List.append_assoc]
end
end Go.AM
