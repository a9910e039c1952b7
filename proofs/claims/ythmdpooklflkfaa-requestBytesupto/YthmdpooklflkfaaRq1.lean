/- Contracts: batches: in memory of their own; which are the same, by the reference. -/
import Derived.Test.YthmdpooklflkfaaOpC
import Derived.Test.YthmdpooklflkfaaOpS
import Derived.Test.YthmdpooklflkfaaSpNum
set_option linter.all false
set_option maxRecDepth 100000
set_option linter.unusedSimpArgs false
namespace Go.Proofs.Ythmdpooklflkfaa
open Go.AW

def signedA (x : TSigned) : AV := .agg [.d (.int .i64 x.client), .d (.int .i64 x.time), .d (.int .i64 x.op.kind), .d (.str x.op.topic), .d (.str x.op.group), .d (.int .i64 x.op.offset), .d (.slice (recsE x.op.recs)), .d (.int .i64 x.key), .d (.int .i64 x.dig)]
def reqA (x : TSigned) : AV := .agg [.d (.int .i64 x.client), .d (.int .i64 x.time), .d (.int .i64 x.op.kind), .d (.str x.op.topic), .d (.str x.op.group), .d (.int .i64 x.op.offset), .d (.slice (recsE x.op.recs))]
end Go.Proofs.Ythmdpooklflkfaa
