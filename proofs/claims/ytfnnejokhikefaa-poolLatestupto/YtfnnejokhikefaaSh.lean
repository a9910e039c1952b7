/- All conditions. -/
import Derived.Test.YtfnnejokhikefaaSh1
import Derived.Test.YtfnnejokhikefaaSh2
import Derived.Test.YtfnnejokhikefaaSh3
import Derived.Test.YtfnnejokhikefaaSh4
set_option linter.all false
