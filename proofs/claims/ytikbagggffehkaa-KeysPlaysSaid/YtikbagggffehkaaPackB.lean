import Derived.Test.YtikbagggffehkaaPackA
set_option linter.unusedVariables false
set_option linter.unusedSimpArgs false
namespace Go.AM
variable {prog : String → Option IFn}
def nlen : Txt → Nat → Int
  | [], _ => -1
  | c :: cs, i => if c.toNat < 128 then (i : Int) + 1 else if i = 8 then 0 else nlen cs (i + 1)
def nvalN (bs : Txt) : Nat → Nat
  | 0 => 0
  | i + 1 => nvalN bs i + (bs.getD i 0).toNat % 128 * 2 ^ (7 * i)
variable {G : List (Option Blk)} {p : Nat} {a : AV} {bs : Txt} {e : Int}
def rnum (bs : Txt) (least most : Int) : Int × Nat × Int :=
  if nlen bs 0 < 0 then (0, 0, 3) else if nlen bs 0 = 0 then (0, 0, 4) else
  if 1 < (nlen bs 0).toNat ∧ bs.getD ((nlen bs 0).toNat - 1) 0 = 0 then (0, 0, 4) else
  if (nvalN bs (nlen bs 0).toNat : Int) < least ∨ most < (nvalN bs (nlen bs 0).toNat : Int) then (0, 0, 4) else (nvalN bs (nlen bs 0).toNat, (nlen bs 0).toNat, 0)
end Go.AM
namespace Go.AM
variable {prog : String → Option IFn}
variable {G : List (Option Blk)} {p : Nat} {a : AV} {bs : Txt} {e : Int}
def rtext (bs : Txt) (most : Int) : Txt × Nat × Int :=
  if (rnum bs 0 most).2.2 ≠ 0 then ([], (rnum bs 0 most).2.1, (rnum bs 0 most).2.2)
  else if bs.length - (rnum bs 0 most).2.1 < (rnum bs 0 most).1.toNat then ([], (rnum bs 0 most).2.1, 3)
  else ((bs.drop (rnum bs 0 most).2.1).take (rnum bs 0 most).1.toNat, (rnum bs 0 most).2.1 + (rnum bs 0 most).1.toNat, 0)
end Go.AM
