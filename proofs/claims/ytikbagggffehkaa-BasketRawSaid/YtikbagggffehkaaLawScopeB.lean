import Derived.Test.YtikbagggffehkaaScopeB
import Derived.Test.YtikbagggffehkaaLawScope
set_option linter.unusedVariables false
set_option linter.unusedSimpArgs false
namespace Go.AM
variable {prog : String → Option IFn}
theorem clear_fre {s : St} {clr fre : List Nat} {env : List AV} {L : List (Option Blk)} (h1 : clr.foldl (fun e t => e.set t .dead) s.env = env) (h2 : fre.foldl (fun L k => L.set k none) s.h.L = L)
    (h3 : env.all (noRef fre) = true) (h4 : L.all (blkNoRef fre) = true) : clear s clr fre = some ⟨env, ⟨s.h.G, L⟩⟩ := by
  subst h1; subst h2
  unfold clear
  exact if_pos ⟨h3, h4⟩
end Go.AM
