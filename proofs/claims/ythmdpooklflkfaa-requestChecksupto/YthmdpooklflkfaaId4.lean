/- Contracts: the document's tables and ledgers. -/
import Derived.Test.YthmdpooklflkfaaId3
set_option linter.all false
set_option maxRecDepth 100000
set_option linter.unusedSimpArgs false
set_option linter.unusedVariables false
namespace Go.Proofs.Ythmdpooklflkfaa
open Go.AW

end Go.Proofs.Ythmdpooklflkfaa
