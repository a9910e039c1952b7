/- What is wrong with requests, signatures and batches, as the document says. No program in sight. -/
import Derived.Test.YtnfienilahfdjaaSpDec
import Derived.Test.YtnfienilahfdjaaSpUtf
set_option linter.all false
set_option linter.unusedSimpArgs false
namespace Go.AW

def checkReqF (x : TSigned) : Int := if x.client < 0 ∨ x.client ≥ 8 ∨ x.time < 1 ∨ x.time > 9007199254740992 then 80 else checkOpF nameF x.op
def checkSignF (k d : Int) : Int := if k < 0 ∨ k ≥ 21 ∨ d < 1 ∨ d > 9007199254740992 then 81 else 0
def errF (s : TSigned) : Int := if checkReqF s ≠ 0 then checkReqF s else checkSignF s.key s.dig
def errsF : List TSigned → Int
  | [] => 0
  | s :: r => if errF s ≠ 0 then errF s else errsF r
def ndup (a b : TSigned) : Prop := ¬ (a.client = b.client ∧ a.time = b.time)
instance : DecidableRel ndup := fun a b => inferInstanceAs (Decidable (¬ _))
def checkBatchF (l : List TSigned) : Int :=
  if l.length > 4 then 3 else if errsF l ≠ 0 then errsF l else if l.Pairwise ndup then 0 else 5

theorem errsF_take {l : List TSigned} : ∀ {k : Nat} {x : TSigned}, l[k]? = some x → errsF (l.take k) = 0 → errF x ≠ 0 → errsF l = errF x := by
  induction l with
  | nil => intro k x h; simp at h
  | cons s r ih =>
    intro k x h h0 hx
    cases k with
    | zero => simp at h; subst h; simp [errsF, hx]
    | succ k =>
      simp only [List.take_succ_cons, errsF] at h0 ⊢
      simp at h
      split at h0
      · rename_i hs; exact absurd h0 hs
      · rename_i hs; rw [if_neg hs]; exact ih h h0 hx
theorem errsF_snoc {l : List TSigned} {k : Nat} {x : TSigned} (h : l[k]? = some x) (h0 : errsF (l.take k) = 0) (hx : errF x = 0) : errsF (l.take (k + 1)) = 0 := by
  have key : ∀ (a : List TSigned), errsF a = 0 → errsF (a ++ [x]) = 0 := by
    intro a
    induction a with
    | nil => intro _; simp [errsF, hx]
    | cons s r ih =>
      intro h
      simp only [List.cons_append, errsF] at h ⊢
      split at h
      · rename_i hs; exact absurd h hs
      · rename_i hs; rw [if_neg hs]; exact ih h
  rw [List.take_add_one, h]
  exact key _ h0
theorem pairs_snoc {l : List TSigned} {k : Nat} {x : TSigned} (h : l[k]? = some x) (h0 : (l.take k).Pairwise ndup) (hx : ∀ y ∈ l.take k, ¬ (x.client = y.client ∧ x.time = y.time)) : (l.take (k + 1)).Pairwise ndup := by
  rw [List.take_add_one, h]
  refine List.pairwise_append.2 ⟨h0, by simp, fun a ha b hb => ?_⟩
  simp at hb; subst hb
  exact fun e => hx a ha ⟨e.1.symm, e.2.symm⟩
theorem pairs_not {l : List TSigned} {k j : Nat} {x y : TSigned} (h : l[k]? = some x) (hy : l[j]? = some y) (hj : j < k) (hxy : x.client = y.client ∧ x.time = y.time) : ¬ l.Pairwise ndup := by
  intro hp
  rw [List.pairwise_iff_getElem] at hp
  obtain ⟨hk, rfl⟩ := List.getElem?_eq_some_iff.1 h
  obtain ⟨hj', rfl⟩ := List.getElem?_eq_some_iff.1 hy
  exact hp j k hj' hk hj ⟨hxy.1.symm, hxy.2.symm⟩

def okO (o : TOp) : Prop := o.topic.length ≤ 1073741824 ∧ o.group.length ≤ 1073741824 ∧ o.recs.length ≤ 1073741824 ∧ ∀ r ∈ o.recs, r.length ≤ 1073741824
def okB (b : List TSigned) : Prop := b.length ≤ 1073741824 ∧ ∀ x ∈ b, okO x.op
end Go.AW
