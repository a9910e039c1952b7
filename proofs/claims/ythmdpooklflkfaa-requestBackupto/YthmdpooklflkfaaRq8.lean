/- Contracts: how the document reads requests, signatures and batches. -/
import Derived.Test.YthmdpooklflkfaaRd1
import Derived.Test.YthmdpooklflkfaaRq7
set_option linter.all false
set_option maxRecDepth 100000
set_option linter.unusedSimpArgs false
set_option linter.unusedVariables false
namespace Go.Proofs.Ythmdpooklflkfaa
open Go.AW

end Go.Proofs.Ythmdpooklflkfaa
