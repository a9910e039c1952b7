/- Contracts: what the document says of sealed requests. -/
import Derived.Test.YthmdpooklflkfaaRq4
set_option linter.all false
set_option maxRecDepth 100000
set_option linter.unusedSimpArgs false
set_option linter.unusedVariables false
namespace Go.Proofs.Ythmdpooklflkfaa
open Go.AW

end Go.Proofs.Ythmdpooklflkfaa
