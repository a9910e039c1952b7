/- Contracts: what is wrong with requests, signatures and batches, on both sides. -/
import Derived.Test.YtahbjkanmagndaaOp2
import Derived.Test.YtahbjkanmagndaaRq1
import Derived.Test.YtahbjkanmagndaaSpRc
set_option linter.all false
set_option maxRecDepth 100000
set_option linter.unusedSimpArgs false
set_option linter.unusedVariables false
namespace Go.Proofs.Ytahbjkanmagndaa
open Go.AW

end Go.Proofs.Ytahbjkanmagndaa
