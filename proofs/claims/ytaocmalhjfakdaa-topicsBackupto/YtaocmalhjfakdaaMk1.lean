/- Contracts: where a list is parted, how long a proof is, leaves and nodes, on both sides. -/
import Derived.Test.YtaocmalhjfakdaaId3
import Derived.Test.YtaocmalhjfakdaaCodec1
import Derived.Test.YtaocmalhjfakdaaSpUtf
set_option linter.all false
set_option maxRecDepth 100000
set_option linter.unusedSimpArgs false
set_option linter.unusedVariables false
namespace Go.Proofs.Ytaocmalhjfakdaa
open Go.AW

end Go.Proofs.Ytaocmalhjfakdaa
