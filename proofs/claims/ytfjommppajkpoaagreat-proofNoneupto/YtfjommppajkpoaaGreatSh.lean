/- All conditions. -/
import Derived.Test.YtfjommppajkpoaaGreatSh1
import Derived.Test.YtfjommppajkpoaaGreatSh2
import Derived.Test.YtfjommppajkpoaaGreatSh3
import Derived.Test.YtfjommppajkpoaaGreatSh4
set_option linter.all false
