import Derived.Test.YtphknfgiljkjaaaPlayA
set_option linter.unusedVariables false
set_option linter.unusedSimpArgs false
namespace Go.AM
variable {prog : String → Option IFn}
structure ScopeW (prog : String → Option IFn) : Prop extends Scope11 prog where
  play : PlayLib prog
end Go.AM
