/- Contracts: the document's pool: done, what comes next; pools of those that were kept; a clone. -/
import Derived.Test.YtnfienilahfdjaaPo5
set_option linter.all false
set_option maxRecDepth 100000
set_option linter.unusedSimpArgs false
set_option linter.unusedVariables false
namespace Go.Proofs.Ytnfienilahfdjaa
open Go.AW

end Go.Proofs.Ytnfienilahfdjaa
