/- Contracts: batches: in memory of their own; which are the same, by the reference. -/
import Derived.Test.YtahbjkanmagndaaOpC
import Derived.Test.YtahbjkanmagndaaOpS
import Derived.Test.YtahbjkanmagndaaSpDec
set_option linter.all false
set_option maxRecDepth 100000
set_option linter.unusedSimpArgs false
namespace Go.Proofs.Ytahbjkanmagndaa
open Go.AW

/-- so long lists that nothing overflows -/
def smallB (b : List TSigned) : Prop := b.length ≤ 1073741824 ∧ ∀ x ∈ b, x.op.recs.length ≤ 1073741824 ∧ ∀ r ∈ x.op.recs, r.length ≤ 1073741824
end Go.Proofs.Ytahbjkanmagndaa
