/- Contracts: votes and certificates, the document's. -/
import Derived.Test.YtaocmalhjfakdaaQu1
import Derived.Test.YtaocmalhjfakdaaSpNum
import Derived.Test.YtaocmalhjfakdaaPo1
import Derived.Test.YtaocmalhjfakdaaHd2
import Derived.Test.YtaocmalhjfakdaaOp1
set_option linter.all false
set_option maxRecDepth 100000
set_option linter.unusedSimpArgs false
set_option linter.unusedVariables false
namespace Go.Proofs.Ytaocmalhjfakdaa
open Go.AW

end Go.Proofs.Ytaocmalhjfakdaa

/- Checkpoints' certificates: which are valid. No program in sight. -/
set_option linter.unusedSimpArgs false
set_option linter.unusedVariables false
namespace Go.AW

end Go.AW

/- Contracts: checkpoints' certificates, on both sides. -/
set_option maxRecDepth 100000
set_option linter.unusedSimpArgs false
set_option linter.unusedVariables false
namespace Go.Proofs.Ytaocmalhjfakdaa
open Go.AW



structure smallPf (p : TProof) : Prop where
  topic : p.topic.length ≤ 16777216
  rec_ : p.rec_.length ≤ 16777216
  headers : p.headers.length ≤ 1073741824
  path : p.path.length ≤ 1073741824
  signs : p.cert.signs.length ≤ 1073741824
  off : i64r p.offset
  index : i64r p.index
  count : i64r p.count
  paths : ∀ x ∈ p.path, i64r x

end Go.Proofs.Ytaocmalhjfakdaa
