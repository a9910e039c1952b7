/- Contracts: which operations are the same, by the reference. -/
import Derived.Test.YthmdpooklflkfaaSh
import Derived.Test.YthmdpooklflkfaaSpNum
set_option linter.all false

set_option maxRecDepth 100000
set_option linter.unusedSimpArgs false
namespace Go.Proofs.Ythmdpooklflkfaa
open Go.AW

end Go.Proofs.Ythmdpooklflkfaa
