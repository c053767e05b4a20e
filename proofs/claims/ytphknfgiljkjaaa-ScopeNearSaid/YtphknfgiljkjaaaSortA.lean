import Derived.Test.YtphknfgiljkjaaaAMA
import Derived.Test.YtphknfgiljkjaaaScopeA
import Derived.Test.YtphknfgiljkjaaaScopeB
import Derived.Test.YtphknfgiljkjaaaAME
set_option linter.unusedVariables false
set_option linter.unusedSimpArgs false

