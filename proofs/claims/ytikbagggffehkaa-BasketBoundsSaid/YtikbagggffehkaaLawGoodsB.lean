import Derived.Test.YtikbagggffehkaaLawGoods
set_option linter.unusedVariables false
set_option linter.unusedSimpArgs false
namespace Go.AM
variable {prog : String → Option IFn}
section
variable {α : Type} {T : Enc α}
theorem row_setf {x : AV} {f : Nat} (hf : f < T.esz) {z z' : α} (he : T.E z' = (T.E z).set f x) : ∀ {zs : List α} {k : Nat}, zs[k]? = some z → (T.row zs).set (k * T.esz + f) x = T.row (zs.set k z')
  | [], k, h => by simp at h
  | y :: zs, 0, h => by
    simp at h; subst h
    rw [List.set_cons_zero, Enc.row_cons, Enc.row_cons, he, Nat.zero_mul, Nat.zero_add, List.set_append_left _ _ (by rw [T.len]; exact hf)]
  | y :: zs, k + 1, h => by
    have ih := row_setf hf he (zs := zs) (k := k) (by simpa using h)
    rw [List.set_cons_succ, Enc.row_cons, Enc.row_cons, ← ih, List.set_append_right _ _ (by rw [T.len, Nat.add_mul]; omega), T.len]
    congr 2
    rw [Nat.add_mul]; omega
end
end Go.AM
