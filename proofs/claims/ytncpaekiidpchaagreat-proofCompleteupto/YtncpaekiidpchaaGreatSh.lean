/- All conditions. -/
import Derived.Test.YtncpaekiidpchaaGreatSh1
import Derived.Test.YtncpaekiidpchaaGreatSh2
import Derived.Test.YtncpaekiidpchaaGreatSh3
import Derived.Test.YtncpaekiidpchaaGreatSh4
set_option linter.all false
