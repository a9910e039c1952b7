/- Contracts: certificates that are kept. -/
import Derived.Test.YtaocmalhjfakdaaQu1
import Derived.Test.YtaocmalhjfakdaaSpMap
import Derived.Test.YtaocmalhjfakdaaOpC
set_option linter.all false
set_option maxRecDepth 100000
set_option linter.unusedSimpArgs false
set_option linter.unusedVariables false
namespace Go.Proofs.Ytaocmalhjfakdaa
open Go.AW

abbrev hE (l : List (Int × TPrep)) : List (AV × AV) := ents (l.map fun e => (e.1, prepA e.2))
structure HeldAt (σ : List AObj) (h m : Nat) (l : List (Int × TPrep)) : Prop where
  box : σ[h]? = some (.box [.map m])
  map : σ[m]? = some (.map (hE l))
theorem HeldAt.app {σ : List AObj} {h m : Nat} {l : List (Int × TPrep)} (H : HeldAt σ h m l) (τ : List AObj) : HeldAt (σ ++ τ) h m l := ⟨get_left H.box, get_left H.map⟩
end Go.Proofs.Ytaocmalhjfakdaa
