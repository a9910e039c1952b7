/- Contracts: an operation in memory of its own. -/
import Derived.Test.YtaocmalhjfakdaaCl1
import Derived.Test.YtaocmalhjfakdaaSpNum
import Derived.Test.YtaocmalhjfakdaaSh
import Derived.Test.YtaocmalhjfakdaaOp1
import Derived.Test.YtaocmalhjfakdaaSpUtf
set_option linter.all false
set_option maxRecDepth 100000
set_option linter.unusedSimpArgs false
namespace Go.Proofs.Ytaocmalhjfakdaa
open Go.AW






end Go.Proofs.Ytaocmalhjfakdaa
