/- Requests that wait: of each client at most one. No program in sight. -/
import Derived.Test.YtnfienilahfdjaaSpRc
import Derived.Test.YtnfienilahfdjaaAwFrz
set_option linter.all false
set_option linter.unusedSimpArgs false
set_option linter.unusedVariables false
namespace Go.AW

abbrev PQ := List (Option TSigned)
def pcell : Option TSigned → AV
  | none => .exact []
  | some x => .d (.slice [signedD x])
def poolC (q : PQ) : List AV := .d (.bool true) :: q.map pcell
def poolO (q : PQ) : AObj := .box (poolC q)
structure PoolI (q : PQ) : Prop where
  len : q.length = 8
  at_ : ∀ (i : Nat) x, q[i]? = some (some x) → x.client = i ∧ checkBatchF [x] = 0 ∧ okO x.op
def noPool : PQ := List.replicate 8 none
theorem noPool_I : PoolI noPool := ⟨rfl, fun i x h => by
  simp only [noPool, List.getElem?_replicate] at h
  split at h <;> cases h⟩
def waitF (q : PQ) : List TSigned := q.filterMap id
def ofF (q : PQ) (c : Int) : Option TSigned := if 0 ≤ c ∧ c < 8 then (q[c.toNat]?).join else none
def mayPut : Option TSigned → Int → Bool
  | some y, t => decide (y.time < t)
  | none, _ => true
def mayDone : Option TSigned → Int → Bool
  | some y, t => decide (y.time ≤ t)
  | none, _ => false
def canPut (q : PQ) (x : TSigned) : Bool := decide (checkBatchF [x] = 0) && mayPut (ofF q x.client) x.time
def putQ (q : PQ) (x : TSigned) : PQ := if canPut q x = true then q.set x.client.toNat (some x) else q
def canDone (q : PQ) (c t : Int) : Bool := mayDone (ofF q c) t
def doneQ (q : PQ) (c t : Int) : PQ := if canDone q c t = true then q.set c.toNat none else q

theorem pcell_low (n : Nat) (o : Option TSigned) : Low n (pcell o) := by cases o <;> first | exact .exact _ | exact .d _
theorem poolO_low (n : Nat) (q : PQ) : LowO n (poolO q) := by
  intro c hc
  simp only [poolC, List.mem_cons, List.mem_map] at hc
  rcases hc with rfl | ⟨o, _, rfl⟩
  · exact .d _
  · exact pcell_low n o
theorem one_ok {x : TSigned} (h : checkBatchF [x] = 0) : 0 ≤ x.client ∧ x.client < 8 ∧ 1 ≤ x.time ∧ x.time ≤ 9007199254740992 ∧ checkOpF nameF x.op = 0 ∧ checkReqF x = 0 ∧ checkSignF x.key x.dig = 0 := by
  simp only [checkBatchF, List.length_singleton, errsF, errF] at h
  have h1 : ¬ (1 > 4) := by omega
  rw [if_neg h1] at h
  by_cases hr : checkReqF x = 0
  · by_cases hs : checkSignF x.key x.dig = 0
    · unfold checkReqF at hr
      split at hr
      · cases hr
      · rename_i hc
        have hr' : checkReqF x = 0 := by unfold checkReqF; rw [if_neg hc]; exact hr
        exact ⟨by omega, by omega, by omega, by omega, hr, hr', hs⟩
    · exfalso
      simp [hr, hs] at h
  · exfalso
    simp [hr] at h
theorem ofF_some {q : PQ} {c : Int} {x : TSigned} (h : ofF q c = some x) : 0 ≤ c ∧ c < 8 ∧ q[c.toNat]? = some (some x) := by
  unfold ofF at h
  split at h
  · rename_i hc
    refine ⟨hc.1, hc.2, ?_⟩
    cases hq : q[c.toNat]? with
    | none => rw [hq] at h; cases h
    | some o => rw [hq] at h; simp at h; rw [h]
  · cases h
theorem PoolI.get {q : PQ} (hq : PoolI q) {c : Int} (h0 : 0 ≤ c) (h8 : c < 8) : q[c.toNat]? = some (ofF q c) := by
  have hl := hq.len
  have : q[c.toNat]? = some (q[c.toNat]'(by omega)) := List.getElem?_eq_getElem _
  unfold ofF
  rw [if_pos ⟨h0, h8⟩, this]
  rfl
theorem PoolI.put {q : PQ} (hq : PoolI q) {x : TSigned} (hx : okO x.op) : PoolI (putQ q x) := by
  unfold putQ
  split
  · rename_i hc
    simp only [canPut, Bool.and_eq_true, decide_eq_true_eq] at hc
    obtain ⟨h0, h8, _⟩ := one_ok hc.1
    refine ⟨by simp [hq.len], fun i y h => ?_⟩
    rw [List.getElem?_set] at h
    split at h
    · rename_i e
      split at h
      · simp at h; subst h
        exact ⟨by omega, hc.1, hx⟩
      · cases h
    · exact hq.at_ i y h
  · exact hq
theorem PoolI.done {q : PQ} (hq : PoolI q) {c t : Int} : PoolI (doneQ q c t) := by
  unfold doneQ
  split
  · refine ⟨by simp [hq.len], fun i y h => ?_⟩
    rw [List.getElem?_set] at h
    split at h
    · split at h
      · simp at h
      · cases h
    · exact hq.at_ i y h
  · exact hq
theorem waitF_mem {q : PQ} {x : TSigned} (h : x ∈ waitF q) : ∃ i : Nat, q[i]? = some (some x) := by
  simp only [waitF, List.mem_filterMap, id_eq, exists_eq_right] at h
  exact List.mem_iff_getElem?.1 h
theorem PoolI.wait_ok {q : PQ} (hq : PoolI q) : okB (waitF q) := by
  refine ⟨?_, fun x hx => ?_⟩
  · have := List.length_filterMap_le id q
    have := hq.len
    simp only [waitF]; omega
  · obtain ⟨i, hi⟩ := waitF_mem hx
    exact (hq.at_ i x hi).2.2
theorem take_set_drop {α : Type} {cs : List α} {i : Nat} {x : α} (h : i < cs.length) : cs.take i ++ x :: cs.drop (i + 1) = cs.set i x := by
  rw [List.set_eq_take_append_cons_drop, if_pos h]
theorem poolC_get {q : PQ} {i : Nat} {o : Option TSigned} (h : q[i]? = some o) : (poolC q)[1 + i]? = some (pcell o) := by
  rw [Nat.add_comm]; simp [poolC, h]
theorem poolC_set (q : PQ) (i : Nat) (o : Option TSigned) : (poolC q).set (1 + i) (pcell o) = poolC (q.set i o) := by
  rw [Nat.add_comm]; simp [poolC, List.map_set]

def sameCT (s x : TSigned) : Bool := x.client == s.client && x.time == s.time
def standsF (s : TSigned) (op : List (List TSigned)) : Bool := op.any fun b => b.any (sameCT s)
def pickStep (op : List (List TSigned)) (out : List TSigned) (s : TSigned) : List TSigned := if out.length < 4 ∧ standsF s op = false then out ++ [s] else out
def pickF (w : List TSigned) (op : List (List TSigned)) : List TSigned := w.foldl (pickStep op) []
abbrev openE (l : List (List TSigned)) : List (List D) := l.map fun b => [D.slice (batchE b)]
theorem pick_snoc {w : List TSigned} {k : Nat} {x : TSigned} (h : w[k]? = some x) (op : List (List TSigned)) : pickF (w.take (k + 1)) op = pickStep op (pickF (w.take k) op) x := by
  rw [List.take_add_one, h]; simp [pickF]
theorem pickStep_len (op : List (List TSigned)) (out : List TSigned) (x : TSigned) : (pickStep op out x).length ≤ max out.length 4 := by
  unfold pickStep
  split
  · simp only [List.length_append, List.length_singleton]; omega
  · omega
theorem pickF_len (w : List TSigned) (op : List (List TSigned)) : (pickF w op).length ≤ 4 := by
  have : ∀ (w out : List TSigned), out.length ≤ 4 → (w.foldl (pickStep op) out).length ≤ 4 := by
    intro w
    induction w with
    | nil => intro out h; exact h
    | cons x w ih => intro out h; exact ih _ (by have := pickStep_len op out x; omega)
  exact this w [] (by simp)
end Go.AW
