/- Contracts: the digest of leaves, on both sides. -/
import Derived.Test.YtaocmalhjfakdaaMk1
import Derived.Test.YtaocmalhjfakdaaRq3
import Derived.Test.YtaocmalhjfakdaaSpTab
import Derived.Test.YtaocmalhjfakdaaSpUtf
import Derived.Test.YtaocmalhjfakdaaSpNum
import Derived.Test.YtaocmalhjfakdaaCodec1
import Derived.Test.YtaocmalhjfakdaaOp1
import Derived.Test.YtaocmalhjfakdaaOpC
set_option linter.all false
set_option maxRecDepth 100000
set_option linter.unusedSimpArgs false
set_option linter.unusedVariables false
namespace Go.Proofs.Ytaocmalhjfakdaa
open Go.AW

end Go.Proofs.Ytaocmalhjfakdaa

/- Votes: their bytes, and whether they are signed. No program in sight. -/
set_option linter.unusedSimpArgs false
set_option linter.unusedVariables false
namespace Go.AW

end Go.AW

/- Contracts: the digest to which a proof comes, on both sides. -/
set_option maxRecDepth 100000
set_option linter.unusedSimpArgs false
set_option linter.unusedVariables false
namespace Go.Proofs.Ytaocmalhjfakdaa
open Go.AW




end Go.Proofs.Ytaocmalhjfakdaa

/- Headers, and records at their places: their bytes; chains. No program in sight. -/
set_option linter.unusedSimpArgs false
set_option linter.unusedVariables false
namespace Go.AW

structure THdr where
  seq : Int
  prev : Int
  batch : Int
  root : Int
  state : Int
deriving DecidableEq
structure zet where
  topic : List UInt8
  offset : Int
  rec_ : List UInt8
abbrev placedD (p : zet) : List D := [.str p.topic, .int .i64 p.offset, .slice (bcs p.rec_)]
abbrev zdy (l : List zet) : List (List D) := l.map placedD
end Go.AW

/- Contracts: headers, and records at their places, on both sides. -/
set_option maxRecDepth 100000
set_option linter.unusedSimpArgs false
set_option linter.unusedVariables false
namespace Go.Proofs.Ytaocmalhjfakdaa
open Go.AW

structure smallPl (p : zet) : Prop where
  off : i64r p.offset
  topic : p.topic.length ≤ 16777216
  rec_ : p.rec_.length ≤ 16777216

end Go.Proofs.Ytaocmalhjfakdaa

/- Which proofs may be: the first error of all that is asked. No program in sight. -/
set_option linter.unusedSimpArgs false
set_option linter.unusedVariables false
namespace Go.AW

structure TProof where
  topic : List UInt8
  offset : Int
  rec_ : List UInt8
  headers : List THdr
  index : Int
  count : Int
  path : List Int
  cert : TCert
end Go.AW

/- Contracts: what is asked of a proof, the program's. -/
set_option maxRecDepth 100000
set_option linter.unusedSimpArgs false
set_option linter.unusedVariables false
namespace Go.Proofs.Ytaocmalhjfakdaa
open Go.AW

theorem wkc (k : Nat) (h : k ≤ 1073741824) : IntKind.i64.wrap ((k : Int) + 1) = ((k + 1 : Nat) : Int) := by rw [zcT (by omega) (by omega)]; rfl
end Go.Proofs.Ytaocmalhjfakdaa

/- The proof of a record in blocks. No program in sight. -/
set_option linter.unusedSimpArgs false
set_option linter.unusedVariables false
namespace Go.AW

structure TBlock where
  header : THdr
  batch : List zH
  placed : List zet
end Go.AW

/- Contracts: the proof of a record: where it stands, which headers lead to the certificate; on both sides. -/
set_option maxRecDepth 100000
set_option linter.unusedSimpArgs false
set_option linter.unusedVariables false
namespace Go.Proofs.Ytaocmalhjfakdaa
open Go.AW

structure smallBk (b : TBlock) : Prop where
  seq : i64r b.header.seq
  len : b.placed.length ≤ 1048576
  each : ∀ p ∈ b.placed, smallPl p
end Go.Proofs.Ytaocmalhjfakdaa
