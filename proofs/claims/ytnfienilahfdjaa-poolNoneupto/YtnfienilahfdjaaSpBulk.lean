/- What holds little has short lists. No program in sight. -/
import Derived.Test.YtnfienilahfdjaaSpDec
set_option linter.all false
set_option linter.unusedSimpArgs false
namespace Go.AW

end Go.AW
