import Derived.Test.YtdcnjckkcfoppaaLawScopeB
import Derived.Test.YtdcnjckkcfoppaaAME
set_option linter.unusedVariables false
set_option linter.unusedSimpArgs false
namespace Go.AM
variable {prog : String → Option IFn}
def pickV (s : Txt) : Nat → Int
  | 0 => (s.length : Int)
  | i + 1 => IntKind.i64.wrap (IntKind.i64.wrap (7 * pickV s i) + ((s.getD i 0).toNat : Int))
end Go.AM
namespace Go.AM
variable {prog : String → Option IFn}
def hit (n i : Nat) (xs : List Txt) : Bool := (xs.take 4).any fun s => umod (pickV s (min s.length 8)) n == i
end Go.AM
