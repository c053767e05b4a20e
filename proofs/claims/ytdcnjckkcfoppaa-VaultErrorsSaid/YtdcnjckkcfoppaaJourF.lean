import Derived.Test.YtdcnjckkcfoppaaJourE
set_option linter.unusedVariables false
set_option linter.unusedSimpArgs false

