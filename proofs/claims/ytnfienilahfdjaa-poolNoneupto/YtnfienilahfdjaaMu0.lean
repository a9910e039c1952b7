/- Contracts: batches that are the same, the program's. -/
import Derived.Test.YtnfienilahfdjaaRc2
import Derived.Test.YtnfienilahfdjaaRq1
import Derived.Test.YtnfienilahfdjaaOp2
set_option linter.all false
set_option maxRecDepth 100000
set_option linter.unusedSimpArgs false
set_option linter.unusedVariables false
namespace Go.Proofs.Ytnfienilahfdjaa
open Go.AW

end Go.Proofs.Ytnfienilahfdjaa
