/- Contracts: the program's topics: names, groups, what was committed, what a client was told last. -/
import Derived.Test.YtaocmalhjfakdaaKs1
import Derived.Test.YtaocmalhjfakdaaTq8
import Derived.Test.YtaocmalhjfakdaaPf1
set_option linter.all false
set_option maxRecDepth 100000
set_option linter.unusedSimpArgs false
set_option linter.unusedVariables false
namespace Go.Proofs.Ytaocmalhjfakdaa
open Go.AW

section

variable {σ : List zb} {id m : Nat} {X : List zdV} {T : zav} {O : Nat → Prop} {K : AV → List zb → Prop}

end


section

variable {σ : List zb} {id : Nat} {T : zav} {O : Nat → Prop} {K : AV → List zb → Prop}

end

end Go.Proofs.Ytaocmalhjfakdaa
