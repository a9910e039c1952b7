/- Contracts: which operations are the same, by the reference. -/
import Derived.Test.YtnfienilahfdjaaSh
import Derived.Test.YtnfienilahfdjaaSpOp
set_option linter.all false

set_option maxRecDepth 100000
set_option linter.unusedSimpArgs false
namespace Go.Proofs.Ytnfienilahfdjaa
open Go.AW

end Go.Proofs.Ytnfienilahfdjaa
