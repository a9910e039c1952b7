/- Contracts: the digest of leaves, on both sides. -/
import Derived.Test.YtaocmalhjfakdaaSpReq3
import Derived.Test.YtaocmalhjfakdaaRq3
import Derived.Test.YtaocmalhjfakdaaSpNum
import Derived.Test.YtaocmalhjfakdaaId2
set_option linter.all false
set_option maxRecDepth 100000
set_option linter.unusedSimpArgs false
set_option linter.unusedVariables false
namespace Go.Proofs.Ytaocmalhjfakdaa
open Go.AW





end Go.Proofs.Ytaocmalhjfakdaa
