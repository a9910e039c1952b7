/- All conditions. -/
import Derived.Test.YtcappjcojggehaaGreatSh1
import Derived.Test.YtcappjcojggehaaGreatSh2
set_option linter.all false
