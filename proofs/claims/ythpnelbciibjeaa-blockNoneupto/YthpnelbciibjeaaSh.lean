/- All conditions. -/
import Derived.Test.YthpnelbciibjeaaSh1
import Derived.Test.YthpnelbciibjeaaSh2
set_option linter.all false
