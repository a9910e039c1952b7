/- What holds little has short lists. No program in sight. -/
import Derived.Test.YtdgcepphjnoalaaGreatSpDec
import Derived.Test.YtdgcepphjnoalaaGreatSpPool
import Derived.Test.YtdgcepphjnoalaaGreatSpTab
set_option linter.all false
set_option linter.unusedSimpArgs false
namespace Go.AW

theorem zdr {α : Type} {f : α → List D} (h : ∀ a, 1 ≤ zcx (f a)) : ∀ (l : List α), l.length ≤ zdd (l.map f)
  | [] => Nat.zero_le _
  | a :: l => by have := h a; have := zdr h l; simp only [List.map_cons, List.length_cons, zdd]; omega
theorem zeD {α : Type} {f : α → List D} {a : α} : ∀ {l : List α}, a ∈ l → zcx (f a) ≤ zdd (l.map f)
  | b :: l, h => by
    simp only [List.map_cons, zdd]
    rcases List.mem_cons.1 h with rfl | h
    · omega
    · have := zeD (f := f) h; omega
theorem zpx (rs : List (List UInt8)) : rs.length ≤ zdd (zeE rs) ∧ ∀ r ∈ rs, r.length ≤ zdd (zeE rs) := by
  refine ⟨zdr (f := fun r => [D.slice (bcs r)]) (fun r => by simp only [zcx, zeQ]; omega) rs, fun r hr => ?_⟩
  have := zeD (f := fun r => [D.slice (bcs r)]) hr
  simp only [zcx, zeQ, zrk] at this
  unfold zeE
  omega
def leB (n : Nat) (b : List zt) : Prop := b.length ≤ n ∧ ∀ x ∈ b, x.op.recs.length ≤ n ∧ ∀ r ∈ x.op.recs, r.length ≤ n
theorem leB_bulk {b : List zt} {n : Nat} (h : zdd (zcR b) ≤ n) : leB n b := by
  unfold zcR at h
  refine ⟨Nat.le_trans (zdr (f := zaH) (fun a => by simp only [zaH, zcx, zeQ]; omega) b) h, fun x hx => ?_⟩
  have := zeD (f := zaH) hx
  simp only [zaH, zcx, zeQ] at this
  have h2 := zpx x.op.recs
  refine ⟨by omega, fun r hr => ?_⟩
  have := h2.2 r hr
  omega
theorem signs_bulk (l : List zS) : l.length ≤ zdd (zbQ l) := zdr (f := ziU) (fun a => by simp only [ziU, zcx, zeQ]; omega) l

theorem zjG {q : PQ} {n : Nat} {o : Option zt} (h : q[n]? = some o) : zdG q = zdG (q.take n) ++ (o.toList ++ zdG (q.drop (n + 1))) := by
  obtain ⟨hn, rfl⟩ := List.getElem?_eq_some_iff.1 h
  have e : q = q.take n ++ q[n] :: q.drop (n + 1) := by rw [List.getElem_cons_drop]; exact (List.take_append_drop n q).symm
  conv => lhs; rw [e]
  simp only [zdG, List.filterMap_append, List.filterMap_cons, id_eq]
  cases q[n] <;> rfl
theorem znz {q : PQ} {n : Nat} (o : Option zt) (h : n < q.length) : zdG (q.set n o) = zdG (q.take n) ++ (o.toList ++ zdG (q.drop (n + 1))) := by
  have := zjG (q := q.set n o) (n := n) (o := o) (by simp [h])
  rwa [List.take_set_of_le (Nat.le_refl _), List.drop_set_of_lt (by omega)] at this
theorem zgq.before {q : PQ} (hq : zgq q) {n : Nat} {y : zt} (h : y ∈ zdG (q.take n)) : y.client < n := by
  obtain ⟨i, hi⟩ := zkY h
  rw [List.getElem?_take] at hi
  split at hi
  · have := (hq.at_ i y hi).1; omega
  · cases hi
theorem zgq.behind {q : PQ} (hq : zgq q) {n : Nat} {y : zt} (h : y ∈ zdG (q.drop (n + 1))) : (n : Int) < y.client := by
  obtain ⟨i, hi⟩ := zkY h
  rw [List.getElem?_drop] at hi
  have := (hq.at_ _ y hi).1; omega
theorem of_wait {q : PQ} {c : Int} {x : zt} (h : ofF q c = some x) : x ∈ zdG q := by
  obtain ⟨_, _, h⟩ := ofF_some h
  simp only [zdG, List.mem_filterMap, id_eq, exists_eq_right]
  exact List.mem_of_getElem? h
theorem zgq.client {q : PQ} (hq : zgq q) {c : Int} {x : zt} (h : ofF q c = some x) : x.client = c := by
  obtain ⟨h0, h8, hg⟩ := ofF_some h
  have := (hq.at_ _ x hg).1; omega
theorem zgq.of_none {q : PQ} (hq : zgq q) {c : Int} (h : ∀ y ∈ zdG q, y.client ≠ c) : ofF q c = none := by
  cases ho : ofF q c with
  | none => rfl
  | some x => exact absurd (hq.client ho) (h x (of_wait ho))
theorem zqc {α : Type} {l : List α} {p : α → Bool} (h : ∀ x ∈ l, p x = true) : l.filter p = l := List.filter_eq_self.2 h
theorem zgq.without {q : PQ} (hq : zgq q) {c : Int} (h0 : 0 ≤ c) (h8 : c < 8) : (zdG q).filter (fun y => y.client != c) = zdG (q.set c.toNat none) := by
  have hl := hq.len
  have hg := hq.get h0 h8
  rw [zjG hg, znz none (by omega)]
  simp only [List.filter_append, Option.toList_none, List.nil_append]
  rw [zqc (l := zdG (q.take c.toNat)) fun y hy => by have := hq.before hy; simp; omega, zqc (l := zdG (q.drop (c.toNat + 1))) fun y hy => by have := hq.behind hy; simp; omega]
  congr 1
  cases ho : ofF q c with
  | none => rfl
  | some x => simp [hq.client ho]
theorem zgq.place {q : PQ} (hq : zgq q) {c : Int} (h0 : 0 ≤ c) (h8 : c < 8) {k : Nat} (hlo : ∀ y ∈ (zdG (q.set c.toNat none)).take k, y.client < c) (hk : k ≤ (zdG (q.set c.toNat none)).length)
    (hhi : ∀ y, (zdG (q.set c.toNat none))[k]? = some y → ¬ y.client < c) (x : zt) :
    (zdG (q.set c.toNat none)).take k ++ (x :: (zdG (q.set c.toNat none)).drop k) = zdG (q.set c.toNat (some x)) := by
  have hl := hq.len
  have e := znz (q := q) none (show c.toNat < q.length by omega)
  have e2 := znz (q := q) (some x) (show c.toNat < q.length by omega)
  simp only [Option.toList_none, List.nil_append, Option.toList_some] at e e2
  obtain ⟨A, hA⟩ : ∃ A, zdG (q.take c.toNat) = A := ⟨_, rfl⟩
  obtain ⟨B, hB⟩ : ∃ B, zdG (q.drop (c.toNat + 1)) = B := ⟨_, rfl⟩
  have hAlt : ∀ y ∈ A, y.client < c := fun y hy => by rw [← hA] at hy; have := hq.before hy; omega
  have hBgt : ∀ y ∈ B, c < y.client := fun y hy => by rw [← hB] at hy; have := hq.behind hy; omega
  rw [hA, hB] at e e2
  rw [e] at hlo hk hhi ⊢
  rw [e2]
  have hkA : k = A.length := by
    rcases Nat.lt_trichotomy k A.length with h | h | h
    · exact absurd (hAlt A[k] (List.getElem_mem h)) (hhi A[k] (by rw [List.getElem?_append_left h]; simp [h]))
    · exact h
    · exfalso
      rw [List.length_append] at hk
      have hb : B[0]? = some (B[0]'(by omega)) := List.getElem?_eq_getElem _
      have hm : B[0]'(by omega) ∈ (A ++ B).take k := by
        refine List.mem_of_getElem? (i := A.length) ?_
        rw [List.getElem?_take, if_pos h, List.getElem?_append_right (Nat.le_refl _), Nat.sub_self]
        exact hb
      have h1 := hlo _ hm
      have h2 := hBgt _ (List.getElem_mem (show 0 < B.length by omega))
      omega
  subst hkA
  simp

def prevC (w : List zt) : Nat → Int
  | 0 => -1
  | k + 1 => match w[k]? with | some x => x.client | none => -1
theorem zgq.push {q : PQ} (hq : zgq q) {x : zt} (hx : zbB [x] = 0) (hlt : ∀ y ∈ zdG q, y.client < x.client) : canPut q x = true ∧ zdG (putQ q x) = zdG q ++ [x] := by
  obtain ⟨h0, h8, _⟩ := one_ok hx
  have hl := hq.len
  have hno : ofF q x.client = none := hq.of_none fun y hy => by have := hlt y hy; omega
  have hc : canPut q x = true := by simp [canPut, hx, hno, mayPut]
  refine ⟨hc, ?_⟩
  have hg := hq.get h0 h8
  rw [hno] at hg
  rw [putQ, if_pos hc, znz _ (by omega), zjG hg]
  have hB : zdG (q.drop (x.client.toNat + 1)) = [] := by
    rw [List.eq_nil_iff_forall_not_mem]
    intro y hy
    have h1 := hq.behind hy
    have h2 := hlt y (by rw [zjG hg]; simp [hy])
    omega
  rw [hB]; simp
theorem zgq.prev {q : PQ} (hq : zgq q) {k : Nat} {x : zt} (hx : (zdG q)[k]? = some x) : prevC (zdG q) k < x.client := by
  have hxm := List.mem_of_getElem? hx
  obtain ⟨i, hi⟩ := zkY hxm
  have hxc := (hq.at_ i x hi).1
  cases k with
  | zero => simp only [prevC]; omega
  | succ k =>
    have hk := (List.getElem?_eq_some_iff.1 hx).1
    have hy : (zdG q)[k]? = some ((zdG q)[k]'(by omega)) := List.getElem?_eq_getElem _
    simp only [prevC, hy]
    -- the list is rising
    have hp : (zdG q).Pairwise fun a b => a.client < b.client := by
      have key : ∀ (l : PQ) (a : Nat), (∀ (i : Nat) x, l[i]? = some (some x) → x.client = ((a + i : Nat) : Int)) → (l.filterMap id).Pairwise fun a b => a.client < b.client := by
        intro l
        induction l with
        | nil => intro a _; simp
        | cons o l ih =>
          intro a h
          have hr := ih (a + 1) fun i x hi => by have := h (i + 1) x (by simpa using hi); rw [this]; congr 1; omega
          cases o with
          | none => simpa using hr
          | some x =>
            simp only [List.filterMap_cons, id_eq, List.pairwise_cons]
            refine ⟨fun y hy => ?_, hr⟩
            obtain ⟨j, hj⟩ := zkY (q := l) hy
            have h1 := h 0 x rfl
            have h2 := h (j + 1) y (by simpa using hj)
            omega
      exact key q 0 fun i x hi => by have := (hq.at_ i x hi).1; simpa using this
    have := List.pairwise_iff_getElem.1 hp k (k + 1) (by omega) hk (by omega)
    obtain ⟨_, rfl⟩ := List.getElem?_eq_some_iff.1 hx
    exact this

theorem okB_bulk {b : List zt} {n : Nat} (h : zdd (zcR b) ≤ n) (hn : n ≤ 1048576) : okB b := by
  obtain ⟨h1, h2⟩ := leB_bulk h
  refine ⟨by omega, fun x hx => ?_⟩
  obtain ⟨h3, h4⟩ := h2 x hx
  unfold zcR at h
  have := zeD (f := zaH) hx
  simp only [zaH, zcx, zeQ] at this
  exact ⟨by omega, by omega, by omega, fun r hr => by have := h4 r hr; omega⟩
structure TStep where
  what : Int
  s : zt
  client : Int
  time : Int
  opn : List (List zt)

end Go.AW
