/- Contracts: the document's pool: done, what comes next; pools of those that were kept; a clone. -/
import Derived.Test.YtfnnejokhikefaaPo5
set_option linter.all false
set_option maxRecDepth 100000
set_option linter.unusedSimpArgs false
set_option linter.unusedVariables false
namespace Go.Proofs.Ytfnnejokhikefaa
open Go.AW

end Go.Proofs.Ytfnnejokhikefaa
