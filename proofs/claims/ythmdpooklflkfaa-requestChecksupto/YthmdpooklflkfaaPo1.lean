/- Contracts: a pool: made, asked, put into, done. -/
import Derived.Test.YthmdpooklflkfaaRc2
import Derived.Test.YthmdpooklflkfaaSpPool
set_option linter.all false
set_option maxRecDepth 100000
set_option linter.unusedSimpArgs false
set_option linter.unusedVariables false
namespace Go.Proofs.Ythmdpooklflkfaa
open Go.AW

end Go.Proofs.Ythmdpooklflkfaa
