/- Headers, and records at their places: their bytes; chains. No program in sight. -/
import Derived.Test.YtaocmalhjfakdaaMk2
import Derived.Test.YtaocmalhjfakdaaSpNum
import Derived.Test.YtaocmalhjfakdaaId2
import Derived.Test.YtaocmalhjfakdaaRq3
import Derived.Test.YtaocmalhjfakdaaSpUtf
set_option linter.all false
set_option linter.unusedSimpArgs false
set_option linter.unusedVariables false
namespace Go.AW

structure THdr where
  seq : Int
  prev : Int
  batch : Int
  root : Int
  state : Int
deriving DecidableEq
structure TPlaced where
  topic : List UInt8
  offset : Int
  rec_ : List UInt8
abbrev placedD (p : TPlaced) : List D := [.str p.topic, .int .i64 p.offset, .slice (bcs p.rec_)]
abbrev placedE (l : List TPlaced) : List (List D) := l.map placedD
end Go.AW

/- Contracts: headers, and records at their places, on both sides. -/
set_option maxRecDepth 100000
set_option linter.unusedSimpArgs false
set_option linter.unusedVariables false
namespace Go.Proofs.Ytaocmalhjfakdaa
open Go.AW

structure smallPl (p : TPlaced) : Prop where
  off : i64r p.offset
  topic : p.topic.length ≤ 16777216
  rec_ : p.rec_.length ≤ 16777216

end Go.Proofs.Ytaocmalhjfakdaa

/- Which proofs may be: the first error of all that is asked. No program in sight. -/
set_option linter.unusedSimpArgs false
set_option linter.unusedVariables false
namespace Go.AW

structure TProof where
  topic : List UInt8
  offset : Int
  rec_ : List UInt8
  headers : List THdr
  index : Int
  count : Int
  path : List Int
  cert : TCert
end Go.AW
