/- Bytes of requests and batches say where they end; who is in a ledger. No program in sight. -/
import Derived.Test.YtaocmalhjfakdaaSpNum
import Derived.Test.YtaocmalhjfakdaaId2
import Derived.Test.YtaocmalhjfakdaaCodec1
set_option linter.all false
set_option linter.unusedSimpArgs false
set_option linter.unusedVariables false
namespace Go.AW


end Go.AW

/- Contracts: where a list is parted, how long a proof is, leaves and nodes, on both sides. -/
set_option maxRecDepth 100000
set_option linter.unusedSimpArgs false
set_option linter.unusedVariables false
namespace Go.Proofs.Ytaocmalhjfakdaa
open Go.AW

end Go.Proofs.Ytaocmalhjfakdaa
