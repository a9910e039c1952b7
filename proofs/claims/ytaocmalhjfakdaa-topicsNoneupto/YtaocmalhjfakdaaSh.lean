/- All conditions. -/
import Derived.Test.YtaocmalhjfakdaaSh1
import Derived.Test.YtaocmalhjfakdaaSh2
import Derived.Test.YtaocmalhjfakdaaSh3
import Derived.Shelf.SortM.Plain
import Derived.Shelf.SortM.SortNone
import Derived.Ground.SlgmProg
set_option linter.all false

/- The kit's contracts of a library function, laid at this seat. -/
set_option maxRecDepth 100000
namespace Go.Proofs.Ytaocmalhjfakdaa
open Go.Shelf Go.Proofs
end Go.Proofs.Ytaocmalhjfakdaa
