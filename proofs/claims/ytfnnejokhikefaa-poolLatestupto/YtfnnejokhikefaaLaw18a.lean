/- The law PoolFrom, from the contracts. -/
import Derived.Test.YtfnnejokhikefaaPo8
import Derived.Test.YtfnnejokhikefaaSpBulk
import Derived.Test.YtfnnejokhikefaaAwRun
set_option linter.all false
set_option maxRecDepth 100000
set_option linter.unusedSimpArgs false
set_option linter.unusedVariables false
namespace Go.Proofs.Ytfnnejokhikefaa
open Go.AW

end Go.Proofs.Ytfnnejokhikefaa
