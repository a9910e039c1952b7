/- All conditions. -/
import Derived.Test.YtfgbofkdhfjegaaGreatSh1
import Derived.Test.YtfgbofkdhfjegaaGreatSh2
import Derived.Test.YtfgbofkdhfjegaaGreatSh3
import Derived.Test.YtfgbofkdhfjegaaGreatSh4
import Derived.Test.YtfgbofkdhfjegaaGreatSh5
set_option linter.all false
