/- All conditions. -/
import Derived.Test.YtaocmalhjfakdaaSh1
import Derived.Test.YtaocmalhjfakdaaSh2
import Derived.Test.YtaocmalhjfakdaaSh3
set_option linter.all false
