/- Contracts: how numbers and byte strings are put. -/
import Derived.Test.YtfnnejokhikefaaCodec1
import Derived.Test.YtfnnejokhikefaaSpNum
set_option linter.all false
set_option maxRecDepth 100000
set_option linter.unusedSimpArgs false
namespace Go.Proofs.Ytfnnejokhikefaa
open Go.AW

end Go.Proofs.Ytfnnejokhikefaa
