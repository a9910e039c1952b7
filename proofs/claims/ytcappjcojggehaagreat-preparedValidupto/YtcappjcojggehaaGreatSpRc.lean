/- What is wrong with requests, signatures and batches, as the document says. No program in sight. -/
import Derived.Test.YtcappjcojggehaaGreatSpNum
import Derived.Test.YtcappjcojggehaaGreatSpUtf
set_option linter.all false
set_option linter.unusedSimpArgs false
namespace Go.AW

def zG (x : zf) : Int := if x.client < 0 ∨ x.client ≥ 8 ∨ x.time < 1 ∨ x.time > 9007199254740992 then 80 else zbz zhp x.op
def zan (k d : Int) : Int := if k < 0 ∨ k ≥ 21 ∨ d < 1 ∨ d > 9007199254740992 then 81 else 0
def znz (s : zf) : Int := if zG s ≠ 0 then zG s else zan s.key s.dig
def zhq : List zf → Int
  | [] => 0
  | s :: r => if znz s ≠ 0 then znz s else zhq r
def ndup (a b : zf) : Prop := ¬ (a.client = b.client ∧ a.time = b.time)
instance : DecidableRel ndup := fun a b => inferInstanceAs (Decidable (¬ _))
def zA (l : List zf) : Int :=
  if l.length > 4 then 3 else if zhq l ≠ 0 then zhq l else if l.Pairwise ndup then 0 else 5

theorem zil {l : List zf} : ∀ {k : Nat} {x : zf}, l[k]? = some x → zhq (l.take k) = 0 → znz x ≠ 0 → zhq l = znz x := by
  induction l with
  | nil => intro k x h; simp at h
  | cons s r ih =>
    intro k x h h0 hx
    cases k with
    | zero => simp at h; subst h; simp [zhq, hx]
    | succ k =>
      simp only [List.take_succ_cons, zhq] at h0 ⊢
      simp at h
      split at h0
      · rename_i hs; exact absurd h0 hs
      · rename_i hs; rw [if_neg hs]; exact ih h h0 hx
theorem zny {l : List zf} {k : Nat} {x : zf} (h : l[k]? = some x) (h0 : zhq (l.take k) = 0) (hx : znz x = 0) : zhq (l.take (k + 1)) = 0 := by
  have key : ∀ (a : List zf), zhq a = 0 → zhq (a ++ [x]) = 0 := by
    intro a
    induction a with
    | nil => intro _; simp [zhq, hx]
    | cons s r ih =>
      intro h
      simp only [List.cons_append, zhq] at h ⊢
      split at h
      · rename_i hs; exact absurd h hs
      · rename_i hs; rw [if_neg hs]; exact ih h
  rw [List.take_add_one, h]
  exact key _ h0
theorem znk {l : List zf} {k : Nat} {x : zf} (h : l[k]? = some x) (h0 : (l.take k).Pairwise ndup) (hx : ∀ y ∈ l.take k, ¬ (x.client = y.client ∧ x.time = y.time)) : (l.take (k + 1)).Pairwise ndup := by
  rw [List.take_add_one, h]
  refine List.pairwise_append.2 ⟨h0, by simp, fun a ha b hb => ?_⟩
  simp at hb; subst hb
  exact fun e => hx a ha ⟨e.1.symm, e.2.symm⟩
theorem pairs_not {l : List zf} {k j : Nat} {x y : zf} (h : l[k]? = some x) (hy : l[j]? = some y) (hj : j < k) (hxy : x.client = y.client ∧ x.time = y.time) : ¬ l.Pairwise ndup := by
  intro hp
  rw [List.pairwise_iff_getElem] at hp
  obtain ⟨hk, rfl⟩ := List.getElem?_eq_some_iff.1 h
  obtain ⟨hj', rfl⟩ := List.getElem?_eq_some_iff.1 hy
  exact hp j k hj' hk hj ⟨hxy.1.symm, hxy.2.symm⟩

def okO (o : TOp) : Prop := o.topic.length ≤ 1073741824 ∧ o.group.length ≤ 1073741824 ∧ o.recs.length ≤ 1073741824 ∧ ∀ r ∈ o.recs, r.length ≤ 1073741824
def okB (b : List zf) : Prop := b.length ≤ 1073741824 ∧ ∀ x ∈ b, okO x.op
end Go.AW
