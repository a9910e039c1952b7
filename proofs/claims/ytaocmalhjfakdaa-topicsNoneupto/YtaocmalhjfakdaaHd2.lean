/- Contracts: chains of headers, leaves, a header's digest, on both sides. -/
import Derived.Test.YtaocmalhjfakdaaHd1
import Derived.Test.YtaocmalhjfakdaaRq3
import Derived.Test.YtaocmalhjfakdaaSpNum
import Derived.Test.YtaocmalhjfakdaaOp1
import Derived.Test.YtaocmalhjfakdaaOpC
import Derived.Test.YtaocmalhjfakdaaCodec1
import Derived.Test.YtaocmalhjfakdaaSpReq3
import Derived.Test.YtaocmalhjfakdaaMk2
set_option linter.all false
set_option maxRecDepth 100000
set_option linter.unusedSimpArgs false
set_option linter.unusedVariables false
namespace Go.Proofs.Ytaocmalhjfakdaa
open Go.AW

end Go.Proofs.Ytaocmalhjfakdaa

/- Which proofs may be: the first error of all that is asked. No program in sight. -/
set_option linter.unusedSimpArgs false
set_option linter.unusedVariables false
namespace Go.AW

structure TProof where
  topic : List UInt8
  offset : Int
  rec_ : List UInt8
  headers : List THdr
  index : Int
  count : Int
  path : List Int
  cert : TCert
end Go.AW

/- Contracts: what is asked of a proof, the program's. -/
set_option maxRecDepth 100000
set_option linter.unusedSimpArgs false
set_option linter.unusedVariables false
namespace Go.Proofs.Ytaocmalhjfakdaa
open Go.AW

theorem wkc (k : Nat) (h : k ≤ 1073741824) : IntKind.i64.wrap ((k : Int) + 1) = ((k + 1 : Nat) : Int) := by rw [zcA (by omega) (by omega)]; rfl
end Go.Proofs.Ytaocmalhjfakdaa

/- The proof of a record in blocks. No program in sight. -/
set_option linter.unusedSimpArgs false
set_option linter.unusedVariables false
namespace Go.AW

structure TBlock where
  header : THdr
  batch : List zU
  placed : List zcS
end Go.AW

/- Contracts: the proof of a record: where it stands, which headers lead to the certificate; on both sides. -/
set_option maxRecDepth 100000
set_option linter.unusedSimpArgs false
set_option linter.unusedVariables false
namespace Go.Proofs.Ytaocmalhjfakdaa
open Go.AW

structure smallBk (b : TBlock) : Prop where
  seq : i64r b.header.seq
  len : b.placed.length ≤ 1048576
  each : ∀ p ∈ b.placed, zkg p
end Go.Proofs.Ytaocmalhjfakdaa
