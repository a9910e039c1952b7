/- Contracts: the document's pool: put into, done, what comes next; a pool of those that were kept, on both sides; a pool's clone. -/
import Derived.Test.YtnfienilahfdjaaPo4
set_option linter.all false
set_option maxRecDepth 100000
set_option linter.unusedSimpArgs false
set_option linter.unusedVariables false
namespace Go.Proofs.Ytnfienilahfdjaa
open Go.AW

end Go.Proofs.Ytnfienilahfdjaa
