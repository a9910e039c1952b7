/- All conditions. -/
import Derived.Test.YthmdpooklflkfaaSh1
import Derived.Test.YthmdpooklflkfaaSh2
import Derived.Test.YthmdpooklflkfaaSh3
import Derived.Test.YthmdpooklflkfaaSh4
import Derived.Test.YthmdpooklflkfaaSh5
set_option linter.all false
