import Derived.Test.YtlcbfbopnegmnaaLeafB
import Derived.Test.YtlcbfbopnegmnaaHelp
import Derived.Test.YtlcbfbopnegmnaaAMD
set_option linter.unusedVariables false
set_option linter.unusedSimpArgs false

