/- Contracts: what the document says of sealed requests. -/
import Derived.Test.YthmdpooklflkfaaRq4
set_option linter.all false
set_option maxRecDepth 100000
set_option linter.unusedSimpArgs false
set_option linter.unusedVariables false
namespace Go.Proofs.Ythmdpooklflkfaa
open Go.AW

theorem c_rqrKey {σ : List AObj} {c : Int} {K : AV → List AObj → Prop} (hK : K (.d (.int .i64 (keyF c))) σ) : ACall Try.prog n_r08_Key [.d (.int .i64 c)] σ K := c_rKey hK
end Go.Proofs.Ythmdpooklflkfaa
