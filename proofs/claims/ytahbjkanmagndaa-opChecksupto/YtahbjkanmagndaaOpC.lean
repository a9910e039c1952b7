/- Contracts: an operation in memory of its own. -/
import Derived.Test.YtahbjkanmagndaaCl1
import Derived.Test.YtahbjkanmagndaaSpOp
set_option linter.all false
set_option maxRecDepth 100000
set_option linter.unusedSimpArgs false
namespace Go.Proofs.Ytahbjkanmagndaa
open Go.AW

end Go.Proofs.Ytahbjkanmagndaa
