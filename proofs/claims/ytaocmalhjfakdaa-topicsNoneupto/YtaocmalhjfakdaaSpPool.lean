/- Requests that wait: of each client at most one. No program in sight. -/
import Derived.Test.YtaocmalhjfakdaaSpNum
import Derived.Test.YtaocmalhjfakdaaAwEnd
set_option linter.all false
set_option linter.unusedSimpArgs false
set_option linter.unusedVariables false
namespace Go.AW

abbrev PQ := List (Option zU)
structure zdB (q : PQ) : Prop where
  len : q.length = 8
  at_ : ∀ (i : Nat) x, q[i]? = some (some x) → x.client = i ∧ zdS [x] = 0 ∧ okO x.op
def zbA (q : PQ) : List zU := q.filterMap id
def ofF (q : PQ) (c : Int) : Option zU := if 0 ≤ c ∧ c < 8 then (q[c.toNat]?).join else none
def mayPut : Option zU → Int → Bool
  | some y, t => decide (y.time < t)
  | none, _ => true
def mayDone : Option zU → Int → Bool
  | some y, t => decide (y.time ≤ t)
  | none, _ => false
def canPut (q : PQ) (x : zU) : Bool := decide (zdS [x] = 0) && mayPut (ofF q x.client) x.time
def putQ (q : PQ) (x : zU) : PQ := if canPut q x = true then q.set x.client.toNat (some x) else q
def canDone (q : PQ) (c t : Int) : Bool := mayDone (ofF q c) t
def doneQ (q : PQ) (c t : Int) : PQ := if canDone q c t = true then q.set c.toNat none else q

theorem one_ok {x : zU} (h : zdS [x] = 0) : 0 ≤ x.client ∧ x.client < 8 ∧ 1 ≤ x.time ∧ x.time ≤ 9007199254740992 ∧ zaB zdm x.op = 0 ∧ zdR x = 0 ∧ zho x.key x.dig = 0 := by
  simp only [zdS, List.length_singleton, errsF, errF] at h
  have h1 : ¬ (1 > 4) := by omega
  rw [if_neg h1] at h
  by_cases hr : zdR x = 0
  · by_cases hs : zho x.key x.dig = 0
    · unfold zdR at hr
      split at hr
      · cases hr
      · rename_i hc
        have hr' : zdR x = 0 := by unfold zdR; rw [if_neg hc]; exact hr
        exact ⟨by omega, by omega, by omega, by omega, hr, hr', hs⟩
    · exfalso
      simp [hr, hs] at h
  · exfalso
    simp [hr] at h
theorem ofF_some {q : PQ} {c : Int} {x : zU} (h : ofF q c = some x) : 0 ≤ c ∧ c < 8 ∧ q[c.toNat]? = some (some x) := by
  unfold ofF at h
  split at h
  · rename_i hc
    refine ⟨hc.1, hc.2, ?_⟩
    cases hq : q[c.toNat]? with
    | none => rw [hq] at h; cases h
    | some o => rw [hq] at h; simp at h; rw [h]
  · cases h
theorem zdB.get {q : PQ} (hq : zdB q) {c : Int} (h0 : 0 ≤ c) (h8 : c < 8) : q[c.toNat]? = some (ofF q c) := by
  have hl := hq.len
  have : q[c.toNat]? = some (q[c.toNat]'(by omega)) := List.getElem?_eq_getElem _
  unfold ofF
  rw [if_pos ⟨h0, h8⟩, this]
  rfl
theorem zdB.put {q : PQ} (hq : zdB q) {x : zU} (hx : okO x.op) : zdB (putQ q x) := by
  unfold putQ
  split
  · rename_i hc
    simp only [canPut, Bool.and_eq_true, decide_eq_true_eq] at hc
    obtain ⟨h0, h8, _⟩ := one_ok hc.1
    refine ⟨by simp [hq.len], fun i y h => ?_⟩
    rw [List.getElem?_set] at h
    split at h
    · rename_i e
      split at h
      · simp at h; subst h
        exact ⟨by omega, hc.1, hx⟩
      · cases h
    · exact hq.at_ i y h
  · exact hq
theorem zdB.done {q : PQ} (hq : zdB q) {c t : Int} : zdB (doneQ q c t) := by
  unfold doneQ
  split
  · refine ⟨by simp [hq.len], fun i y h => ?_⟩
    rw [List.getElem?_set] at h
    split at h
    · split at h
      · simp at h
      · cases h
    · exact hq.at_ i y h
  · exact hq
theorem zgf {q : PQ} {x : zU} (h : x ∈ zbA q) : ∃ i : Nat, q[i]? = some (some x) := by
  simp only [zbA, List.mem_filterMap, id_eq, exists_eq_right] at h
  exact List.mem_iff_getElem?.1 h
end Go.AW
