import Derived.Test.YtlcbfbopnegmnaaPackB
import Derived.Test.YtlcbfbopnegmnaaLawPack
set_option linter.unusedVariables false
set_option linter.unusedSimpArgs false

