/- What holds little has short lists. No program in sight. -/
import Derived.Test.YthpnelbciibjeaaGreatCl1
import Derived.Test.YthpnelbciibjeaaGreatSpChk
import Derived.Test.YthpnelbciibjeaaGreatSpUtf
set_option linter.all false
set_option linter.unusedSimpArgs false
namespace Go.AW

theorem ziR {α : Type} {f : α → List D} (h : ∀ a, 1 ≤ zdJ (f a)) : ∀ (l : List α), l.length ≤ zdZ (l.map f)
  | [] => Nat.zero_le _
  | a :: l => by have := h a; have := ziR h l; simp only [List.map_cons, List.length_cons, zdZ]; omega
theorem zlr {α : Type} {f : α → List D} {a : α} : ∀ {l : List α}, a ∈ l → zdJ (f a) ≤ zdZ (l.map f)
  | b :: l, h => by
    simp only [List.map_cons, zdZ]
    rcases List.mem_cons.1 h with rfl | h
    · omega
    · have := zlr (f := f) h; omega

theorem ziu {q : PQ} {n : Nat} {o : Option zf} (h : q[n]? = some o) : zcU q = zcU (q.take n) ++ (o.toList ++ zcU (q.drop (n + 1))) := by
  obtain ⟨hn, rfl⟩ := List.getElem?_eq_some_iff.1 h
  have e : q = q.take n ++ q[n] :: q.drop (n + 1) := by rw [List.getElem_cons_drop]; exact (List.take_append_drop n q).symm
  conv => lhs; rw [e]
  simp only [zcU, List.filterMap_append, List.filterMap_cons, id_eq]
  cases q[n] <;> rfl
theorem zmd {q : PQ} {n : Nat} (o : Option zf) (h : n < q.length) : zcU (q.set n o) = zcU (q.take n) ++ (o.toList ++ zcU (q.drop (n + 1))) := by
  have := ziu (q := q.set n o) (n := n) (o := o) (by simp [h])
  rwa [List.take_set_of_le (Nat.le_refl _), List.drop_set_of_lt (by omega)] at this
theorem zfs.before {q : PQ} (hq : zfs q) {n : Nat} {y : zf} (h : y ∈ zcU (q.take n)) : y.client < n := by
  obtain ⟨i, hi⟩ := zjO h
  rw [List.getElem?_take] at hi
  split at hi
  · have := (hq.at_ i y hi).1; omega
  · cases hi
theorem zfs.behind {q : PQ} (hq : zfs q) {n : Nat} {y : zf} (h : y ∈ zcU (q.drop (n + 1))) : (n : Int) < y.client := by
  obtain ⟨i, hi⟩ := zjO h
  rw [List.getElem?_drop] at hi
  have := (hq.at_ _ y hi).1; omega
theorem of_wait {q : PQ} {c : Int} {x : zf} (h : ofF q c = some x) : x ∈ zcU q := by
  obtain ⟨_, _, h⟩ := ofF_some h
  simp only [zcU, List.mem_filterMap, id_eq, exists_eq_right]
  exact List.mem_of_getElem? h
theorem zfs.client {q : PQ} (hq : zfs q) {c : Int} {x : zf} (h : ofF q c = some x) : x.client = c := by
  obtain ⟨h0, h8, hg⟩ := ofF_some h
  have := (hq.at_ _ x hg).1; omega
theorem zfs.of_none {q : PQ} (hq : zfs q) {c : Int} (h : ∀ y ∈ zcU q, y.client ≠ c) : ofF q c = none := by
  cases ho : ofF q c with
  | none => rfl
  | some x => exact absurd (hq.client ho) (h x (of_wait ho))
theorem zoE {α : Type} {l : List α} {p : α → Bool} (h : ∀ x ∈ l, p x = true) : l.filter p = l := List.filter_eq_self.2 h
theorem zfs.without {q : PQ} (hq : zfs q) {c : Int} (h0 : 0 ≤ c) (h8 : c < 8) : (zcU q).filter (fun y => y.client != c) = zcU (q.set c.toNat none) := by
  have hl := hq.len
  have hg := hq.get h0 h8
  rw [ziu hg, zmd none (by omega)]
  simp only [List.filter_append, Option.toList_none, List.nil_append]
  rw [zoE (l := zcU (q.take c.toNat)) fun y hy => by have := hq.before hy; simp; omega, zoE (l := zcU (q.drop (c.toNat + 1))) fun y hy => by have := hq.behind hy; simp; omega]
  congr 1
  cases ho : ofF q c with
  | none => rfl
  | some x => simp [hq.client ho]
theorem zfs.place {q : PQ} (hq : zfs q) {c : Int} (h0 : 0 ≤ c) (h8 : c < 8) {k : Nat} (hlo : ∀ y ∈ (zcU (q.set c.toNat none)).take k, y.client < c) (hk : k ≤ (zcU (q.set c.toNat none)).length)
    (hhi : ∀ y, (zcU (q.set c.toNat none))[k]? = some y → ¬ y.client < c) (x : zf) :
    (zcU (q.set c.toNat none)).take k ++ (x :: (zcU (q.set c.toNat none)).drop k) = zcU (q.set c.toNat (some x)) := by
  have hl := hq.len
  have e := zmd (q := q) none (show c.toNat < q.length by omega)
  have e2 := zmd (q := q) (some x) (show c.toNat < q.length by omega)
  simp only [Option.toList_none, List.nil_append, Option.toList_some] at e e2
  obtain ⟨A, hA⟩ : ∃ A, zcU (q.take c.toNat) = A := ⟨_, rfl⟩
  obtain ⟨B, hB⟩ : ∃ B, zcU (q.drop (c.toNat + 1)) = B := ⟨_, rfl⟩
  have hAlt : ∀ y ∈ A, y.client < c := fun y hy => by rw [← hA] at hy; have := hq.before hy; omega
  have hBgt : ∀ y ∈ B, c < y.client := fun y hy => by rw [← hB] at hy; have := hq.behind hy; omega
  rw [hA, hB] at e e2
  rw [e] at hlo hk hhi ⊢
  rw [e2]
  have hkA : k = A.length := by
    rcases Nat.lt_trichotomy k A.length with h | h | h
    · exact absurd (hAlt A[k] (List.getElem_mem h)) (hhi A[k] (by rw [List.getElem?_append_left h]; simp [h]))
    · exact h
    · exfalso
      rw [List.length_append] at hk
      have hb : B[0]? = some (B[0]'(by omega)) := List.getElem?_eq_getElem _
      have hm : B[0]'(by omega) ∈ (A ++ B).take k := by
        refine List.mem_of_getElem? (i := A.length) ?_
        rw [List.getElem?_take, if_pos h, List.getElem?_append_right (Nat.le_refl _), Nat.sub_self]
        exact hb
      have h1 := hlo _ hm
      have h2 := hBgt _ (List.getElem_mem (show 0 < B.length by omega))
      omega
  subst hkA
  simp

def prevC (w : List zf) : Nat → Int
  | 0 => -1
  | k + 1 => match w[k]? with | some x => x.client | none => -1
theorem zfs.push {q : PQ} (hq : zfs q) {x : zf} (hx : zh [x] = 0) (hlt : ∀ y ∈ zcU q, y.client < x.client) : canPut q x = true ∧ zcU (putQ q x) = zcU q ++ [x] := by
  obtain ⟨h0, h8, _⟩ := one_ok hx
  have hl := hq.len
  have hno : ofF q x.client = none := hq.of_none fun y hy => by have := hlt y hy; omega
  have hc : canPut q x = true := by simp [canPut, hx, hno, mayPut]
  refine ⟨hc, ?_⟩
  have hg := hq.get h0 h8
  rw [hno] at hg
  rw [putQ, if_pos hc, zmd _ (by omega), ziu hg]
  have hB : zcU (q.drop (x.client.toNat + 1)) = [] := by
    rw [List.eq_nil_iff_forall_not_mem]
    intro y hy
    have h1 := hq.behind hy
    have h2 := hlt y (by rw [ziu hg]; simp [hy])
    omega
  rw [hB]; simp
theorem zfs.prev {q : PQ} (hq : zfs q) {k : Nat} {x : zf} (hx : (zcU q)[k]? = some x) : prevC (zcU q) k < x.client := by
  have hxm := List.mem_of_getElem? hx
  obtain ⟨i, hi⟩ := zjO hxm
  have hxc := (hq.at_ i x hi).1
  cases k with
  | zero => simp only [prevC]; omega
  | succ k =>
    have hk := (List.getElem?_eq_some_iff.1 hx).1
    have hy : (zcU q)[k]? = some ((zcU q)[k]'(by omega)) := List.getElem?_eq_getElem _
    simp only [prevC, hy]
    -- the list is rising
    have hp : (zcU q).Pairwise fun a b => a.client < b.client := by
      have key : ∀ (l : PQ) (a : Nat), (∀ (i : Nat) x, l[i]? = some (some x) → x.client = ((a + i : Nat) : Int)) → (l.filterMap id).Pairwise fun a b => a.client < b.client := by
        intro l
        induction l with
        | nil => intro a _; simp
        | cons o l ih =>
          intro a h
          have hr := ih (a + 1) fun i x hi => by have := h (i + 1) x (by simpa using hi); rw [this]; congr 1; omega
          cases o with
          | none => simpa using hr
          | some x =>
            simp only [List.filterMap_cons, id_eq, List.pairwise_cons]
            refine ⟨fun y hy => ?_, hr⟩
            obtain ⟨j, hj⟩ := zjO (q := l) hy
            have h1 := h 0 x rfl
            have h2 := h (j + 1) y (by simpa using hj)
            omega
      exact key q 0 fun i x hi => by have := (hq.at_ i x hi).1; simpa using this
    have := List.pairwise_iff_getElem.1 hp k (k + 1) (by omega) hk (by omega)
    obtain ⟨_, rfl⟩ := List.getElem?_eq_some_iff.1 hx
    exact this

theorem dec_batch {d : D} (h : zhg (.slice ziv) d) : ∃ b, d = .slice (zce b) := zkm h fun e he => by
  obtain ⟨s, rfl, _⟩ := dec_signed he
  exact ⟨s, rfl⟩
theorem dec_open {d : D} (h : zhg (.slice [.slice ziv]) d) : ∃ l, d = .slice (openE l) := zkm h fun e he => by
  obtain ⟨d, rfl, h1⟩ := one_of he
  obtain ⟨b, rfl⟩ := dec_batch h1
  exact ⟨b, rfl⟩

structure TStep where
  what : Int
  s : zf
  client : Int
  time : Int
  opn : List (List zf)

theorem signedD_sz {x : zf} {n : Nat} (h : zdJ (zbu x) ≤ n) (hn : n ≤ 2097152) : zfc x.op ≤ 20971520 := by
  have := opSz_bulk x.op
  simp only [zbu, opD, zdJ, zid] at h this
  omega
theorem batch_sz {b : List zf} {n : Nat} (h : zdZ (zce b) ≤ n) (hn : n ≤ 2097152) : (∀ s ∈ b, zfc s.op ≤ 20971520) ∧ b.length ≤ 2097152 := by
  unfold zce at h
  exact ⟨fun s hs => signedD_sz (Nat.le_trans (zlr (f := zbu) hs) h) hn, Nat.le_trans (ziR (f := zbu) (fun a => by simp only [zbu, zdJ, zid]; omega) b) (by omega)⟩
end Go.AW
