/- Contracts: how numbers and byte strings are put. -/
import Derived.Test.YtnfienilahfdjaaCodec1
import Derived.Test.YtnfienilahfdjaaSpNum
set_option linter.all false
set_option maxRecDepth 100000
set_option linter.unusedSimpArgs false
namespace Go.Proofs.Ytnfienilahfdjaa
open Go.AW

end Go.Proofs.Ytnfienilahfdjaa
