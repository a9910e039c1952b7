/- All conditions. -/
import Derived.Test.YtcappjcojggehaaSh1
import Derived.Test.YtcappjcojggehaaSh2
import Derived.Test.YtcappjcojggehaaSh3
import Derived.Test.YtcappjcojggehaaSh4
set_option linter.all false
