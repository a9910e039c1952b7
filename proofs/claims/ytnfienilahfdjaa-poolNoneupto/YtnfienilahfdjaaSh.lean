/- All conditions. -/
import Derived.Test.YtnfienilahfdjaaSh1
set_option linter.all false
