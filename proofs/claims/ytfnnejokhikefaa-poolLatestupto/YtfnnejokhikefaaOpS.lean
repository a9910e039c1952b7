/- Contracts: which operations are the same, by the reference. -/
import Derived.Test.YtfnnejokhikefaaSh
import Derived.Test.YtfnnejokhikefaaSpOp
set_option linter.all false

set_option maxRecDepth 100000
set_option linter.unusedSimpArgs false
namespace Go.Proofs.Ytfnnejokhikefaa
open Go.AW

end Go.Proofs.Ytfnnejokhikefaa
