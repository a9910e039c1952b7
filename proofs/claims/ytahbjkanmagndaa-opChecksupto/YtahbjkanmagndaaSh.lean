/- All conditions. -/
import Derived.Test.YtahbjkanmagndaaSh1
import Derived.Test.YtahbjkanmagndaaSh2
import Derived.Test.YtahbjkanmagndaaSh3
set_option linter.all false
