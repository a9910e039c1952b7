/- A record stands at its offset until it is trimmed. No program in sight. -/
import Derived.Test.YthpnelbciibjeaaSpTake
import Derived.Test.YthpnelbciibjeaaSpNum
import Derived.Test.YthpnelbciibjeaaMk3
import Derived.Test.YthpnelbciibjeaaSpUtf
set_option linter.all false
set_option linter.unusedSimpArgs false
set_option linter.unusedVariables false
namespace Go.AW

structure AtE where
  n : List UInt8
  l : List (List UInt8)
  t : Nat
def findY (n : List UInt8) : List AtE → Nat → Option (Nat × AtE)
  | [], _ => none
  | e :: r, i => if n = e.n then some (i, e) else findY n r (i + 1)
theorem znb {n : List UInt8} : ∀ {l : List AtE} {i k : Nat} {e : AtE}, findY n l i = some (k, e) → ∃ j, k = i + j ∧ l[j]? = some e ∧ e.n = n
  | [], _, _, _, h => by simp [findY] at h
  | g :: r, i, k, v, h => by
    simp only [findY] at h
    split at h
    · rename_i e; cases h; exact ⟨0, rfl, rfl, e.symm⟩
    · obtain ⟨j, h1, h2, h3⟩ := znb h
      exact ⟨j + 1, by omega, by simpa using h2, h3⟩


theorem zhz {q : PQ} {n : Nat} {o : Option zh} (h : q[n]? = some o) : zcq q = zcq (q.take n) ++ (o.toList ++ zcq (q.drop (n + 1))) := by
  obtain ⟨hn, rfl⟩ := List.getElem?_eq_some_iff.1 h
  have e : q = q.take n ++ q[n] :: q.drop (n + 1) := by rw [List.getElem_cons_drop]; exact (List.take_append_drop n q).symm
  conv => lhs; rw [e]
  simp only [zcq, List.filterMap_append, List.filterMap_cons, id_eq]
  cases q[n] <;> rfl
theorem zkT {q : PQ} {n : Nat} (o : Option zh) (h : n < q.length) : zcq (q.set n o) = zcq (q.take n) ++ (o.toList ++ zcq (q.drop (n + 1))) := by
  have := zhz (q := q.set n o) (n := n) (o := o) (by simp [h])
  rwa [List.take_set_of_le (Nat.le_refl _), List.drop_set_of_lt (by omega)] at this
theorem zeV.before {q : PQ} (hq : zeV q) {n : Nat} {y : zh} (h : y ∈ zcq (q.take n)) : y.client < n := by
  obtain ⟨i, hi⟩ := ziW h
  rw [List.getElem?_take] at hi
  split at hi
  · have := (hq.at_ i y hi).1; omega
  · cases hi
theorem zeV.behind {q : PQ} (hq : zeV q) {n : Nat} {y : zh} (h : y ∈ zcq (q.drop (n + 1))) : (n : Int) < y.client := by
  obtain ⟨i, hi⟩ := ziW h
  rw [List.getElem?_drop] at hi
  have := (hq.at_ _ y hi).1; omega
theorem of_wait {q : PQ} {c : Int} {x : zh} (h : ofF q c = some x) : x ∈ zcq q := by
  obtain ⟨_, _, h⟩ := ofF_some h
  simp only [zcq, List.mem_filterMap, id_eq, exists_eq_right]
  exact List.mem_of_getElem? h
theorem zeV.client {q : PQ} (hq : zeV q) {c : Int} {x : zh} (h : ofF q c = some x) : x.client = c := by
  obtain ⟨h0, h8, hg⟩ := ofF_some h
  have := (hq.at_ _ x hg).1; omega
theorem zeV.of_none {q : PQ} (hq : zeV q) {c : Int} (h : ∀ y ∈ zcq q, y.client ≠ c) : ofF q c = none := by
  cases ho : ofF q c with
  | none => rfl
  | some x => exact absurd (hq.client ho) (h x (of_wait ho))
theorem znd {α : Type} {l : List α} {p : α → Bool} (h : ∀ x ∈ l, p x = true) : l.filter p = l := List.filter_eq_self.2 h
theorem zeV.without {q : PQ} (hq : zeV q) {c : Int} (h0 : 0 ≤ c) (h8 : c < 8) : (zcq q).filter (fun y => y.client != c) = zcq (q.set c.toNat none) := by
  have hl := hq.len
  have hg := hq.get h0 h8
  rw [zhz hg, zkT none (by omega)]
  simp only [List.filter_append, Option.toList_none, List.nil_append]
  rw [znd (l := zcq (q.take c.toNat)) fun y hy => by have := hq.before hy; simp; omega, znd (l := zcq (q.drop (c.toNat + 1))) fun y hy => by have := hq.behind hy; simp; omega]
  congr 1
  cases ho : ofF q c with
  | none => rfl
  | some x => simp [hq.client ho]
theorem zeV.place {q : PQ} (hq : zeV q) {c : Int} (h0 : 0 ≤ c) (h8 : c < 8) {k : Nat} (hlo : ∀ y ∈ (zcq (q.set c.toNat none)).take k, y.client < c) (hk : k ≤ (zcq (q.set c.toNat none)).length)
    (hhi : ∀ y, (zcq (q.set c.toNat none))[k]? = some y → ¬ y.client < c) (x : zh) :
    (zcq (q.set c.toNat none)).take k ++ (x :: (zcq (q.set c.toNat none)).drop k) = zcq (q.set c.toNat (some x)) := by
  have hl := hq.len
  have e := zkT (q := q) none (show c.toNat < q.length by omega)
  have e2 := zkT (q := q) (some x) (show c.toNat < q.length by omega)
  simp only [Option.toList_none, List.nil_append, Option.toList_some] at e e2
  obtain ⟨A, hA⟩ : ∃ A, zcq (q.take c.toNat) = A := ⟨_, rfl⟩
  obtain ⟨B, hB⟩ : ∃ B, zcq (q.drop (c.toNat + 1)) = B := ⟨_, rfl⟩
  have hAlt : ∀ y ∈ A, y.client < c := fun y hy => by rw [← hA] at hy; have := hq.before hy; omega
  have hBgt : ∀ y ∈ B, c < y.client := fun y hy => by rw [← hB] at hy; have := hq.behind hy; omega
  rw [hA, hB] at e e2
  rw [e] at hlo hk hhi ⊢
  rw [e2]
  have hkA : k = A.length := by
    rcases Nat.lt_trichotomy k A.length with h | h | h
    · exact absurd (hAlt A[k] (List.getElem_mem h)) (hhi A[k] (by rw [List.getElem?_append_left h]; simp [h]))
    · exact h
    · exfalso
      rw [List.length_append] at hk
      have hb : B[0]? = some (B[0]'(by omega)) := List.getElem?_eq_getElem _
      have hm : B[0]'(by omega) ∈ (A ++ B).take k := by
        refine List.mem_of_getElem? (i := A.length) ?_
        rw [List.getElem?_take, if_pos h, List.getElem?_append_right (Nat.le_refl _), Nat.sub_self]
        exact hb
      have h1 := hlo _ hm
      have h2 := hBgt _ (List.getElem_mem (show 0 < B.length by omega))
      omega
  subst hkA
  simp

def prevC (w : List zh) : Nat → Int
  | 0 => -1
  | k + 1 => match w[k]? with | some x => x.client | none => -1
theorem zeV.push {q : PQ} (hq : zeV q) {x : zh} (hx : zC [x] = 0) (hlt : ∀ y ∈ zcq q, y.client < x.client) : canPut q x = true ∧ zcq (putQ q x) = zcq q ++ [x] := by
  obtain ⟨h0, h8, _⟩ := one_ok hx
  have hl := hq.len
  have hno : ofF q x.client = none := hq.of_none fun y hy => by have := hlt y hy; omega
  have hc : canPut q x = true := by simp [canPut, hx, hno, mayPut]
  refine ⟨hc, ?_⟩
  have hg := hq.get h0 h8
  rw [hno] at hg
  rw [putQ, if_pos hc, zkT _ (by omega), zhz hg]
  have hB : zcq (q.drop (x.client.toNat + 1)) = [] := by
    rw [List.eq_nil_iff_forall_not_mem]
    intro y hy
    have h1 := hq.behind hy
    have h2 := hlt y (by rw [zhz hg]; simp [hy])
    omega
  rw [hB]; simp
theorem zeV.prev {q : PQ} (hq : zeV q) {k : Nat} {x : zh} (hx : (zcq q)[k]? = some x) : prevC (zcq q) k < x.client := by
  have hxm := List.mem_of_getElem? hx
  obtain ⟨i, hi⟩ := ziW hxm
  have hxc := (hq.at_ i x hi).1
  cases k with
  | zero => simp only [prevC]; omega
  | succ k =>
    have hk := (List.getElem?_eq_some_iff.1 hx).1
    have hy : (zcq q)[k]? = some ((zcq q)[k]'(by omega)) := List.getElem?_eq_getElem _
    simp only [prevC, hy]
    -- the list is rising
    have hp : (zcq q).Pairwise fun a b => a.client < b.client := by
      have key : ∀ (l : PQ) (a : Nat), (∀ (i : Nat) x, l[i]? = some (some x) → x.client = ((a + i : Nat) : Int)) → (l.filterMap id).Pairwise fun a b => a.client < b.client := by
        intro l
        induction l with
        | nil => intro a _; simp
        | cons o l ih =>
          intro a h
          have hr := ih (a + 1) fun i x hi => by have := h (i + 1) x (by simpa using hi); rw [this]; congr 1; omega
          cases o with
          | none => simpa using hr
          | some x =>
            simp only [List.filterMap_cons, id_eq, List.pairwise_cons]
            refine ⟨fun y hy => ?_, hr⟩
            obtain ⟨j, hj⟩ := ziW (q := l) hy
            have h1 := h 0 x rfl
            have h2 := h (j + 1) y (by simpa using hj)
            omega
      exact key q 0 fun i x hi => by have := (hq.at_ i x hi).1; simpa using this
    have := List.pairwise_iff_getElem.1 hp k (k + 1) (by omega) hk (by omega)
    obtain ⟨_, rfl⟩ := List.getElem?_eq_some_iff.1 hx
    exact this

structure TStep where
  what : Int
  s : zh
  client : Int
  time : Int
  opn : List (List zh)

end Go.AW
