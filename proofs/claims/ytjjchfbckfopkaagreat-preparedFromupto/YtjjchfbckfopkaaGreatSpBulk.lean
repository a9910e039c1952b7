/- What holds little has short lists. No program in sight. -/
import Derived.Test.YtjjchfbckfopkaaGreatSpNum
import Derived.Test.YtjjchfbckfopkaaGreatRq3
import Derived.Test.YtjjchfbckfopkaaGreatSpRd
set_option linter.all false
set_option linter.unusedSimpArgs false
namespace Go.AW

theorem zgl {α : Type} {f : α → List D} (h : ∀ a, 1 ≤ zcv (f a)) : ∀ (l : List α), l.length ≤ zcD (l.map f)
  | [] => Nat.zero_le _
  | a :: l => by have := h a; have := zgl h l; simp only [List.map_cons, List.length_cons, zcD]; omega
theorem zgk {α : Type} {f : α → List D} {a : α} : ∀ {l : List α}, a ∈ l → zcv (f a) ≤ zcD (l.map f)
  | b :: l, h => by
    simp only [List.map_cons, zcD]
    rcases List.mem_cons.1 h with rfl | h
    · omega
    · have := zgk (f := f) h; omega
theorem znV (rs : List (List UInt8)) : rs.length ≤ zcD (zcQ rs) ∧ ∀ r ∈ rs, r.length ≤ zcD (zcQ rs) := by
  refine ⟨zgl (f := fun r => [D.slice (bcs r)]) (fun r => by simp only [zcv, zfA]; omega) rs, fun r hr => ?_⟩
  have := zgk (f := fun r => [D.slice (bcs r)]) hr
  simp only [zcv, zfA, bulk_bcs] at this
  unfold zcQ
  omega
def leB (n : Nat) (b : List ze) : Prop := b.length ≤ n ∧ ∀ x ∈ b, x.op.recs.length ≤ n ∧ ∀ r ∈ x.op.recs, r.length ≤ n
theorem leB_bulk {b : List ze} {n : Nat} (h : zcD (zaE b) ≤ n) : leB n b := by
  unfold zaE at h
  refine ⟨Nat.le_trans (zgl (f := zao) (fun a => by simp only [zao, zcv, zfA]; omega) b) h, fun x hx => ?_⟩
  have := zgk (f := zao) hx
  simp only [zao, zcv, zfA] at this
  have h2 := znV x.op.recs
  refine ⟨by omega, fun r hr => ?_⟩
  have := h2.2 r hr
  omega
def leP (n : Nat) (p : zar) : Prop := p.signs.length ≤ n ∧ leB n p.batch
theorem signs_bulk (l : List zM) : l.length ≤ zcD (zax l) := zgl (f := zej) (fun a => by simp only [zej, zcv, zfA]; omega) l
theorem leP_bulk {p : zar} {n : Nat} (h : zcv (zeU p) ≤ n) : leP n p := by
  simp only [zeU, zcv, zfA] at h
  have := signs_bulk p.signs
  exact ⟨by omega, leB_bulk (by omega)⟩

theorem zhV {q : PQ} {n : Nat} {o : Option ze} (h : q[n]? = some o) : zcw q = zcw (q.take n) ++ (o.toList ++ zcw (q.drop (n + 1))) := by
  obtain ⟨hn, rfl⟩ := List.getElem?_eq_some_iff.1 h
  have e : q = q.take n ++ q[n] :: q.drop (n + 1) := by rw [List.getElem_cons_drop]; exact (List.take_append_drop n q).symm
  conv => lhs; rw [e]
  simp only [zcw, List.filterMap_append, List.filterMap_cons, id_eq]
  cases q[n] <;> rfl
theorem zmb {q : PQ} {n : Nat} (o : Option ze) (h : n < q.length) : zcw (q.set n o) = zcw (q.take n) ++ (o.toList ++ zcw (q.drop (n + 1))) := by
  have := zhV (q := q.set n o) (n := n) (o := o) (by simp [h])
  rwa [List.take_set_of_le (Nat.le_refl _), List.drop_set_of_lt (by omega)] at this
theorem zeV.before {q : PQ} (hq : zeV q) {n : Nat} {y : ze} (h : y ∈ zcw (q.take n)) : y.client < n := by
  obtain ⟨i, hi⟩ := zjl h
  rw [List.getElem?_take] at hi
  split at hi
  · have := (hq.at_ i y hi).1; omega
  · cases hi
theorem zeV.behind {q : PQ} (hq : zeV q) {n : Nat} {y : ze} (h : y ∈ zcw (q.drop (n + 1))) : (n : Int) < y.client := by
  obtain ⟨i, hi⟩ := zjl h
  rw [List.getElem?_drop] at hi
  have := (hq.at_ _ y hi).1; omega
theorem of_wait {q : PQ} {c : Int} {x : ze} (h : ofF q c = some x) : x ∈ zcw q := by
  obtain ⟨_, _, h⟩ := ofF_some h
  simp only [zcw, List.mem_filterMap, id_eq, exists_eq_right]
  exact List.mem_of_getElem? h
theorem zeV.client {q : PQ} (hq : zeV q) {c : Int} {x : ze} (h : ofF q c = some x) : x.client = c := by
  obtain ⟨h0, h8, hg⟩ := ofF_some h
  have := (hq.at_ _ x hg).1; omega
theorem zeV.of_none {q : PQ} (hq : zeV q) {c : Int} (h : ∀ y ∈ zcw q, y.client ≠ c) : ofF q c = none := by
  cases ho : ofF q c with
  | none => rfl
  | some x => exact absurd (hq.client ho) (h x (of_wait ho))
theorem zov {α : Type} {l : List α} {p : α → Bool} (h : ∀ x ∈ l, p x = true) : l.filter p = l := List.filter_eq_self.2 h
theorem zeV.without {q : PQ} (hq : zeV q) {c : Int} (h0 : 0 ≤ c) (h8 : c < 8) : (zcw q).filter (fun y => y.client != c) = zcw (q.set c.toNat none) := by
  have hl := hq.len
  have hg := hq.get h0 h8
  rw [zhV hg, zmb none (by omega)]
  simp only [List.filter_append, Option.toList_none, List.nil_append]
  rw [zov (l := zcw (q.take c.toNat)) fun y hy => by have := hq.before hy; simp; omega, zov (l := zcw (q.drop (c.toNat + 1))) fun y hy => by have := hq.behind hy; simp; omega]
  congr 1
  cases ho : ofF q c with
  | none => rfl
  | some x => simp [hq.client ho]
theorem zeV.place {q : PQ} (hq : zeV q) {c : Int} (h0 : 0 ≤ c) (h8 : c < 8) {k : Nat} (hlo : ∀ y ∈ (zcw (q.set c.toNat none)).take k, y.client < c) (hk : k ≤ (zcw (q.set c.toNat none)).length)
    (hhi : ∀ y, (zcw (q.set c.toNat none))[k]? = some y → ¬ y.client < c) (x : ze) :
    (zcw (q.set c.toNat none)).take k ++ (x :: (zcw (q.set c.toNat none)).drop k) = zcw (q.set c.toNat (some x)) := by
  have hl := hq.len
  have e := zmb (q := q) none (show c.toNat < q.length by omega)
  have e2 := zmb (q := q) (some x) (show c.toNat < q.length by omega)
  simp only [Option.toList_none, List.nil_append, Option.toList_some] at e e2
  obtain ⟨A, hA⟩ : ∃ A, zcw (q.take c.toNat) = A := ⟨_, rfl⟩
  obtain ⟨B, hB⟩ : ∃ B, zcw (q.drop (c.toNat + 1)) = B := ⟨_, rfl⟩
  have hAlt : ∀ y ∈ A, y.client < c := fun y hy => by rw [← hA] at hy; have := hq.before hy; omega
  have hBgt : ∀ y ∈ B, c < y.client := fun y hy => by rw [← hB] at hy; have := hq.behind hy; omega
  rw [hA, hB] at e e2
  rw [e] at hlo hk hhi ⊢
  rw [e2]
  have hkA : k = A.length := by
    rcases Nat.lt_trichotomy k A.length with h | h | h
    · exact absurd (hAlt A[k] (List.getElem_mem h)) (hhi A[k] (by rw [List.getElem?_append_left h]; simp [h]))
    · exact h
    · exfalso
      rw [List.length_append] at hk
      have hb : B[0]? = some (B[0]'(by omega)) := List.getElem?_eq_getElem _
      have hm : B[0]'(by omega) ∈ (A ++ B).take k := by
        refine List.mem_of_getElem? (i := A.length) ?_
        rw [List.getElem?_take, if_pos h, List.getElem?_append_right (Nat.le_refl _), Nat.sub_self]
        exact hb
      have h1 := hlo _ hm
      have h2 := hBgt _ (List.getElem_mem (show 0 < B.length by omega))
      omega
  subst hkA
  simp

def prevC (w : List ze) : Nat → Int
  | 0 => -1
  | k + 1 => match w[k]? with | some x => x.client | none => -1
theorem zeV.push {q : PQ} (hq : zeV q) {x : ze} (hx : zu [x] = 0) (hlt : ∀ y ∈ zcw q, y.client < x.client) : canPut q x = true ∧ zcw (putQ q x) = zcw q ++ [x] := by
  obtain ⟨h0, h8, _⟩ := one_ok hx
  have hl := hq.len
  have hno : ofF q x.client = none := hq.of_none fun y hy => by have := hlt y hy; omega
  have hc : canPut q x = true := by simp [canPut, hx, hno, mayPut]
  refine ⟨hc, ?_⟩
  have hg := hq.get h0 h8
  rw [hno] at hg
  rw [putQ, if_pos hc, zmb _ (by omega), zhV hg]
  have hB : zcw (q.drop (x.client.toNat + 1)) = [] := by
    rw [List.eq_nil_iff_forall_not_mem]
    intro y hy
    have h1 := hq.behind hy
    have h2 := hlt y (by rw [zhV hg]; simp [hy])
    omega
  rw [hB]; simp
theorem zeV.prev {q : PQ} (hq : zeV q) {k : Nat} {x : ze} (hx : (zcw q)[k]? = some x) : prevC (zcw q) k < x.client := by
  have hxm := List.mem_of_getElem? hx
  obtain ⟨i, hi⟩ := zjl hxm
  have hxc := (hq.at_ i x hi).1
  cases k with
  | zero => simp only [prevC]; omega
  | succ k =>
    have hk := (List.getElem?_eq_some_iff.1 hx).1
    have hy : (zcw q)[k]? = some ((zcw q)[k]'(by omega)) := List.getElem?_eq_getElem _
    simp only [prevC, hy]
    -- the list is rising
    have hp : (zcw q).Pairwise fun a b => a.client < b.client := by
      have key : ∀ (l : PQ) (a : Nat), (∀ (i : Nat) x, l[i]? = some (some x) → x.client = ((a + i : Nat) : Int)) → (l.filterMap id).Pairwise fun a b => a.client < b.client := by
        intro l
        induction l with
        | nil => intro a _; simp
        | cons o l ih =>
          intro a h
          have hr := ih (a + 1) fun i x hi => by have := h (i + 1) x (by simpa using hi); rw [this]; congr 1; omega
          cases o with
          | none => simpa using hr
          | some x =>
            simp only [List.filterMap_cons, id_eq, List.pairwise_cons]
            refine ⟨fun y hy => ?_, hr⟩
            obtain ⟨j, hj⟩ := zjl (q := l) hy
            have h1 := h 0 x rfl
            have h2 := h (j + 1) y (by simpa using hj)
            omega
      exact key q 0 fun i x hi => by have := (hq.at_ i x hi).1; simpa using this
    have := List.pairwise_iff_getElem.1 hp k (k + 1) (by omega) hk (by omega)
    obtain ⟨_, rfl⟩ := List.getElem?_eq_some_iff.1 hx
    exact this

structure TStep where
  what : Int
  s : ze
  client : Int
  time : Int
  opn : List (List ze)

def reqD (x : ze) : List D := [.int .i64 x.client, .int .i64 x.time, .int .i64 x.op.kind, .str x.op.topic, .str x.op.group, .int .i64 x.op.offset, .slice (zcQ x.op.recs)]
abbrev reqsE (l : List ze) : List (List D) := l.map reqD
theorem signedD_sz {x : ze} {n : Nat} (h : zcv (zao x) ≤ n) (hn : n ≤ 2097152) : zgb x.op ≤ 20971520 := by
  have := opSz_bulk x.op
  simp only [zao, opD, zcv, zfA] at h this
  omega
theorem batch_sz {b : List ze} {n : Nat} (h : zcD (zaE b) ≤ n) (hn : n ≤ 2097152) : (∀ s ∈ b, zgb s.op ≤ 20971520) ∧ b.length ≤ 2097152 := by
  unfold zaE at h
  exact ⟨fun s hs => signedD_sz (Nat.le_trans (zgk (f := zao) hs) h) hn, Nat.le_trans (zgl (f := zao) (fun a => by simp only [zao, zcv, zfA]; omega) b) (by omega)⟩
end Go.AW
