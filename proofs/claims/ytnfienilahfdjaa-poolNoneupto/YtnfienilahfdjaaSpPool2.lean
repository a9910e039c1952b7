/- Requests that wait, in a list by clients: the document's pool. No program in sight. -/
import Derived.Test.YtnfienilahfdjaaSpPool
set_option linter.all false
set_option linter.unusedSimpArgs false
set_option linter.unusedVariables false
namespace Go.AW

theorem wait_split {q : PQ} {n : Nat} {o : Option TSigned} (h : q[n]? = some o) : waitF q = waitF (q.take n) ++ (o.toList ++ waitF (q.drop (n + 1))) := by
  obtain ⟨hn, rfl⟩ := List.getElem?_eq_some_iff.1 h
  have e : q = q.take n ++ q[n] :: q.drop (n + 1) := by rw [List.getElem_cons_drop]; exact (List.take_append_drop n q).symm
  conv => lhs; rw [e]
  simp only [waitF, List.filterMap_append, List.filterMap_cons, id_eq]
  cases q[n] <;> rfl
theorem wait_set {q : PQ} {n : Nat} (o : Option TSigned) (h : n < q.length) : waitF (q.set n o) = waitF (q.take n) ++ (o.toList ++ waitF (q.drop (n + 1))) := by
  have := wait_split (q := q.set n o) (n := n) (o := o) (by simp [h])
  rwa [List.take_set_of_le (Nat.le_refl _), List.drop_set_of_lt (by omega)] at this
theorem PoolI.before {q : PQ} (hq : PoolI q) {n : Nat} {y : TSigned} (h : y ∈ waitF (q.take n)) : y.client < n := by
  obtain ⟨i, hi⟩ := waitF_mem h
  rw [List.getElem?_take] at hi
  split at hi
  · have := (hq.at_ i y hi).1; omega
  · cases hi
theorem PoolI.behind {q : PQ} (hq : PoolI q) {n : Nat} {y : TSigned} (h : y ∈ waitF (q.drop (n + 1))) : (n : Int) < y.client := by
  obtain ⟨i, hi⟩ := waitF_mem h
  rw [List.getElem?_drop] at hi
  have := (hq.at_ _ y hi).1; omega
theorem of_wait {q : PQ} {c : Int} {x : TSigned} (h : ofF q c = some x) : x ∈ waitF q := by
  obtain ⟨_, _, h⟩ := ofF_some h
  simp only [waitF, List.mem_filterMap, id_eq, exists_eq_right]
  exact List.mem_of_getElem? h
theorem PoolI.client {q : PQ} (hq : PoolI q) {c : Int} {x : TSigned} (h : ofF q c = some x) : x.client = c := by
  obtain ⟨h0, h8, hg⟩ := ofF_some h
  have := (hq.at_ _ x hg).1; omega
theorem PoolI.of_none {q : PQ} (hq : PoolI q) {c : Int} (h : ∀ y ∈ waitF q, y.client ≠ c) : ofF q c = none := by
  cases ho : ofF q c with
  | none => rfl
  | some x => exact absurd (hq.client ho) (h x (of_wait ho))
theorem filter_all {α : Type} {l : List α} {p : α → Bool} (h : ∀ x ∈ l, p x = true) : l.filter p = l := List.filter_eq_self.2 h
theorem PoolI.without {q : PQ} (hq : PoolI q) {c : Int} (h0 : 0 ≤ c) (h8 : c < 8) : (waitF q).filter (fun y => y.client != c) = waitF (q.set c.toNat none) := by
  have hl := hq.len
  have hg := hq.get h0 h8
  rw [wait_split hg, wait_set none (by omega)]
  simp only [List.filter_append, Option.toList_none, List.nil_append]
  rw [filter_all (l := waitF (q.take c.toNat)) fun y hy => by have := hq.before hy; simp; omega, filter_all (l := waitF (q.drop (c.toNat + 1))) fun y hy => by have := hq.behind hy; simp; omega]
  congr 1
  cases ho : ofF q c with
  | none => rfl
  | some x => simp [hq.client ho]
theorem PoolI.place {q : PQ} (hq : PoolI q) {c : Int} (h0 : 0 ≤ c) (h8 : c < 8) {k : Nat} (hlo : ∀ y ∈ (waitF (q.set c.toNat none)).take k, y.client < c) (hk : k ≤ (waitF (q.set c.toNat none)).length)
    (hhi : ∀ y, (waitF (q.set c.toNat none))[k]? = some y → ¬ y.client < c) (x : TSigned) :
    (waitF (q.set c.toNat none)).take k ++ (x :: (waitF (q.set c.toNat none)).drop k) = waitF (q.set c.toNat (some x)) := by
  have hl := hq.len
  have e := wait_set (q := q) none (show c.toNat < q.length by omega)
  have e2 := wait_set (q := q) (some x) (show c.toNat < q.length by omega)
  simp only [Option.toList_none, List.nil_append, Option.toList_some] at e e2
  obtain ⟨A, hA⟩ : ∃ A, waitF (q.take c.toNat) = A := ⟨_, rfl⟩
  obtain ⟨B, hB⟩ : ∃ B, waitF (q.drop (c.toNat + 1)) = B := ⟨_, rfl⟩
  have hAlt : ∀ y ∈ A, y.client < c := fun y hy => by rw [← hA] at hy; have := hq.before hy; omega
  have hBgt : ∀ y ∈ B, c < y.client := fun y hy => by rw [← hB] at hy; have := hq.behind hy; omega
  rw [hA, hB] at e e2
  rw [e] at hlo hk hhi ⊢
  rw [e2]
  have hkA : k = A.length := by
    rcases Nat.lt_trichotomy k A.length with h | h | h
    · exact absurd (hAlt A[k] (List.getElem_mem h)) (hhi A[k] (by rw [List.getElem?_append_left h]; simp [h]))
    · exact h
    · exfalso
      rw [List.length_append] at hk
      have hb : B[0]? = some (B[0]'(by omega)) := List.getElem?_eq_getElem _
      have hm : B[0]'(by omega) ∈ (A ++ B).take k := by
        refine List.mem_of_getElem? (i := A.length) ?_
        rw [List.getElem?_take, if_pos h, List.getElem?_append_right (Nat.le_refl _), Nat.sub_self]
        exact hb
      have h1 := hlo _ hm
      have h2 := hBgt _ (List.getElem_mem (show 0 < B.length by omega))
      omega
  subst hkA
  simp

theorem PoolI.push {q : PQ} (hq : PoolI q) {x : TSigned} (hx : checkBatchF [x] = 0) (hlt : ∀ y ∈ waitF q, y.client < x.client) : canPut q x = true ∧ waitF (putQ q x) = waitF q ++ [x] := by
  obtain ⟨h0, h8, _⟩ := one_ok hx
  have hl := hq.len
  have hno : ofF q x.client = none := hq.of_none fun y hy => by have := hlt y hy; omega
  have hc : canPut q x = true := by simp [canPut, hx, hno, mayPut]
  refine ⟨hc, ?_⟩
  have hg := hq.get h0 h8
  rw [hno] at hg
  rw [putQ, if_pos hc, wait_set _ (by omega), wait_split hg]
  have hB : waitF (q.drop (x.client.toNat + 1)) = [] := by
    rw [List.eq_nil_iff_forall_not_mem]
    intro y hy
    have h1 := hq.behind hy
    have h2 := hlt y (by rw [wait_split hg]; simp [hy])
    omega
  rw [hB]; simp
end Go.AW
