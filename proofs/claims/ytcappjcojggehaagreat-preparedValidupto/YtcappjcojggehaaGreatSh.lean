/- All conditions. -/
import Derived.Test.YtcappjcojggehaaGreatSh1
import Derived.Test.YtcappjcojggehaaGreatSh2
import Derived.Test.YtcappjcojggehaaGreatSh3
import Derived.Test.YtcappjcojggehaaGreatSh4
import Derived.Test.YtcappjcojggehaaGreatSh5
set_option linter.all false
