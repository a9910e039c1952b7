/- All conditions. -/
import Derived.Test.YtdgcepphjnoalaaGreatSh1
import Derived.Test.YtdgcepphjnoalaaGreatSh2
import Derived.Test.YtdgcepphjnoalaaGreatSh3
import Derived.Test.YtdgcepphjnoalaaGreatSh4
import Derived.Test.YtdgcepphjnoalaaGreatSh5
set_option linter.all false
