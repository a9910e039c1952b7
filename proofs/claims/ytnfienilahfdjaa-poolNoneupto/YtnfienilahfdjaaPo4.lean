/- Contracts: a pool of those that were kept; the document's pool. -/
import Derived.Test.YtnfienilahfdjaaPo3
import Derived.Test.YtnfienilahfdjaaSpPool2
set_option linter.all false
set_option maxRecDepth 100000
set_option linter.unusedSimpArgs false
set_option linter.unusedVariables false
namespace Go.Proofs.Ytnfienilahfdjaa
open Go.AW

end Go.Proofs.Ytnfienilahfdjaa
