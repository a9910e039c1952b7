/- All conditions. -/
import Derived.Test.YtndpnfbcnmebjaaSh1
import Derived.Test.YtndpnfbcnmebjaaSh2
set_option linter.all false
