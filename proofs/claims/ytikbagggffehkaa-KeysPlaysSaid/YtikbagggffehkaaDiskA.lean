import Derived.Test.YtikbagggffehkaaAMA
import Derived.Test.YtikbagggffehkaaCrc
import Derived.Test.YtikbagggffehkaaLeafA
import Derived.Test.YtikbagggffehkaaHelp
import Derived.Test.YtikbagggffehkaaScopeA
import Derived.Test.YtikbagggffehkaaSortA
import Derived.Test.YtikbagggffehkaaPackA
import Derived.Test.YtikbagggffehkaaLawGoodsB
import Derived.Test.YtikbagggffehkaaPackC
set_option linter.unusedVariables false
set_option linter.unusedSimpArgs false
namespace Go.AM
variable {prog : String → Option IFn}
abbrev Sec := {t : Txt // t.length = 64}
structure DskD where
  a : List Sec
  b : List Sec
  l : List Bool
  off : Bool
  armed : Nat
structure DPos where
  q0 : Nat
  q1 : Nat
  q2 : Nat
  p : Nat
  c0 : Option Nat
  c1 : Option Nat
  c2 : Option Nat
  o0 : Bool
  o1 : Bool
  o2 : Bool
structure DskD.Ok (D : DskD) : Prop where
  b : D.b.length = D.a.length
  l : D.l.length = D.a.length
  n : D.a.length ≤ 20000
  armed : D.armed < 2 ^ 63
structure DPos.Ok (P : DPos) (g n : Nat) : Prop where
  h0 : P.q0 < P.p
  h1 : P.q1 < P.p
  h2 : P.q2 < P.p
  hp : P.p < g
  n01 : P.q0 ≠ P.q1
  n02 : P.q0 ≠ P.q2
  n12 : P.q1 ≠ P.q2
  k0 : ∀ x, P.c0 = some x → n ≤ x
  k1 : ∀ x, P.c1 = some x → n ≤ x
  k2 : ∀ x, P.c2 = some x → n ≤ x
variable {G L : List (Option Blk)} {P : DPos} {D : DskD} {n : Nat}
section
variable (h : P.Ok G.length n)
include h
end
end Go.AM
namespace Go.AM
variable {prog : String → Option IFn}
variable {G L : List (Option Blk)} {P : DPos} {D : DskD} {n : Nat}
theorem DPos.Ok.app {X : List (Option Blk)} (h : P.Ok G.length n) : P.Ok (G ++ X).length n := ⟨h.h0, h.h1, h.h2, by rw [List.length_append]; have := h.hp; omega, h.n01, h.n02, h.n12, h.k0, h.k1, h.k2⟩
def DskD.put (D : DskD) (i : Nat) (s : Sec) : DskD := { D with b := D.b.set i s, l := D.l.set i true }
end Go.AM
