/- Contracts: how many brokers there are, and a quorum has. -/
import Derived.Test.YtaocmalhjfakdaaSh
import Derived.Test.YtaocmalhjfakdaaPo1
import Derived.Test.YtaocmalhjfakdaaAwEnd
import Derived.Test.YtaocmalhjfakdaaSpNum
set_option linter.all false
set_option maxRecDepth 100000
set_option linter.unusedSimpArgs false
namespace Go.Proofs.Ytaocmalhjfakdaa
open Go.AW



abbrev prepA (p : TPrep) : AV := .agg [.d (.int .i64 p.view), .d (.int .i64 p.seq), .d (.int .i64 p.dig), .d (.int .i64 p.fkey), .d (.int .i64 p.fdig), .d (.slice (signsE p.signs)), .d (.slice (batchE p.batch))]


structure smallP (p : TPrep) : Prop where
  ops : ∀ x ∈ p.batch, opSz x.op ≤ 20971520
  batch : p.batch.length ≤ 1073741824
  signs : p.signs.length ≤ 1073741824

end Go.Proofs.Ytaocmalhjfakdaa
