/- All conditions. -/
import Derived.Test.YtjjchfbckfopkaaGreatSh1
import Derived.Test.YtjjchfbckfopkaaGreatSh2
import Derived.Test.YtjjchfbckfopkaaGreatSh3
set_option linter.all false
