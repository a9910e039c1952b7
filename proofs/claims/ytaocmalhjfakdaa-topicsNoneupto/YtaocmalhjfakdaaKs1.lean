/- A map's keys, sorted. -/
import Derived.Test.YtaocmalhjfakdaaSs1
import Derived.Test.YtaocmalhjfakdaaAwEnd
import Derived.Test.YtaocmalhjfakdaaSpNum
import Derived.Test.YtaocmalhjfakdaaTq1
set_option linter.all false
set_option maxRecDepth 100000
set_option linter.unusedSimpArgs false
set_option linter.unusedVariables false
namespace Go.Proofs.Ytaocmalhjfakdaa
open Go.AW

abbrev strsA (l : List (List UInt8)) : List AV := l.map fun x => .d (.str x)
inductive KS where
  | start
  | run (c : Nat) (bs : List Nat) (it : Nat) (seen : List Nat) (ys : List (List UInt8))
  | fin (ys : List (List UInt8))
def KS.ys : KS → List (List UInt8)
  | .start => []
  | .run _ _ _ _ ys => ys
  | .fin ys => ys
def KS.map (m : Nat) (es : List (AV × AV)) (n : Nat) : KS → List zb → Prop
  | .start, s => s[m]? = some (.map es)
  | .run c bs it seen ys, s => s[m]? = some (.mapr c bs es) ∧ s[it]? = some (.mit (some m) c seen) ∧ n + 1 < it
  | .fin _, s => s[m]? = some (.map es)
structure KJ (B : List zb) (R : zb) (a t m : Nat) (es : List (AV × AV)) (i : KS) (s : List zb) : Prop where
  len : B.length + 1 < s.length
  r : s[B.length + 1]? = some R
  out : ∀ j, j < B.length → j ≠ a → j ≠ t → j ≠ m → s[j]? = B[j]?
  box : ∃ g, s[a]? = some (.box [.rsl t g 1 0 i.ys.length]) ∧ s[t]? = some (.row g 1 (strsA i.ys))
  map : i.map m es B.length s
section

variable {B : List zb} {R : zb} {a t m : Nat} {es : List (AV × AV)} {names : List (List UInt8)}

end

section

variable {σ : List zb} {t m bx : Nat} {es : List (AV × AV)} {names : List (List UInt8)} {K : AV → List zb → Prop}

end

end Go.Proofs.Ytaocmalhjfakdaa
