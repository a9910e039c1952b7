/- What is wrong with requests, signatures and batches, as the document says. No program in sight. -/
import Derived.Test.YtahbjkanmagndaaSpDec
import Derived.Test.YtahbjkanmagndaaSpUtf
set_option linter.all false
set_option linter.unusedSimpArgs false
namespace Go.AW

def checkReqF (x : TSigned) : Int := if x.client < 0 ∨ x.client ≥ 8 ∨ x.time < 1 ∨ x.time > 9007199254740992 then 80 else checkOpF nameF x.op
def checkSignF (k d : Int) : Int := if k < 0 ∨ k ≥ 21 ∨ d < 1 ∨ d > 9007199254740992 then 81 else 0
def errF (s : TSigned) : Int := if checkReqF s ≠ 0 then checkReqF s else checkSignF s.key s.dig
def errsF : List TSigned → Int
  | [] => 0
  | s :: r => if errF s ≠ 0 then errF s else errsF r
def ndup (a b : TSigned) : Prop := ¬ (a.client = b.client ∧ a.time = b.time)
instance : DecidableRel ndup := fun a b => inferInstanceAs (Decidable (¬ _))
def checkBatchF (l : List TSigned) : Int :=
  if l.length > 4 then 3 else if errsF l ≠ 0 then errsF l else if l.Pairwise ndup then 0 else 5

/-- lists at most so long, names too -/
def okO (o : TOp) : Prop := o.topic.length ≤ 1073741824 ∧ o.group.length ≤ 1073741824 ∧ o.recs.length ≤ 1073741824 ∧ ∀ r ∈ o.recs, r.length ≤ 1073741824
end Go.AW
