/- Contracts: the digest of leaves, on both sides. -/
import Derived.Test.YtaocmalhjfakdaaMk1
import Derived.Test.YtaocmalhjfakdaaRq3
import Derived.Test.YtaocmalhjfakdaaSpTab
import Derived.Test.YtaocmalhjfakdaaSpUtf
import Derived.Test.YtaocmalhjfakdaaId2
set_option linter.all false
set_option maxRecDepth 100000
set_option linter.unusedSimpArgs false
set_option linter.unusedVariables false
namespace Go.Proofs.Ytaocmalhjfakdaa
open Go.AW

end Go.Proofs.Ytaocmalhjfakdaa

/- Votes: their bytes, and whether they are signed. No program in sight. -/
set_option linter.unusedSimpArgs false
set_option linter.unusedVariables false
namespace Go.AW

end Go.AW

/- Contracts: the digest to which a proof comes, on both sides. -/
set_option maxRecDepth 100000
set_option linter.unusedSimpArgs false
set_option linter.unusedVariables false
namespace Go.Proofs.Ytaocmalhjfakdaa
open Go.AW




end Go.Proofs.Ytaocmalhjfakdaa
