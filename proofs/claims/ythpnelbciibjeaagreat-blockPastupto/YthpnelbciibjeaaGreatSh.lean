/- All conditions. -/
import Derived.Test.YthpnelbciibjeaaGreatSh1
import Derived.Test.YthpnelbciibjeaaGreatSh2
set_option linter.all false
