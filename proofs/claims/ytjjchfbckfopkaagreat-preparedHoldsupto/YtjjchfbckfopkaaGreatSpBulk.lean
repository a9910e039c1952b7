/- What holds little has short lists. No program in sight. -/
import Derived.Test.YtjjchfbckfopkaaGreatSpNum
import Derived.Test.YtjjchfbckfopkaaGreatRq3
import Derived.Test.YtjjchfbckfopkaaGreatSpRd
set_option linter.all false
set_option linter.unusedSimpArgs false
namespace Go.AW

theorem zgz {α : Type} {f : α → List D} (h : ∀ a, 1 ≤ zcA (f a)) : ∀ (l : List α), l.length ≤ zcN (l.map f)
  | [] => Nat.zero_le _
  | a :: l => by have := h a; have := zgz h l; simp only [List.map_cons, List.length_cons, zcN]; omega
theorem zgy {α : Type} {f : α → List D} {a : α} : ∀ {l : List α}, a ∈ l → zcA (f a) ≤ zcN (l.map f)
  | b :: l, h => by
    simp only [List.map_cons, zcN]
    rcases List.mem_cons.1 h with rfl | h
    · omega
    · have := zgy (f := f) h; omega
theorem zom (rs : List (List UInt8)) : rs.length ≤ zcN (zcX rs) ∧ ∀ r ∈ rs, r.length ≤ zcN (zcX rs) := by
  refine ⟨zgz (f := fun r => [D.slice (bcs r)]) (fun r => by simp only [zcA, zfA]; omega) rs, fun r hr => ?_⟩
  have := zgy (f := fun r => [D.slice (bcs r)]) hr
  simp only [zcA, zfA, bulk_bcs] at this
  unfold zcX
  omega
def leB (n : Nat) (b : List zf) : Prop := b.length ≤ n ∧ ∀ x ∈ b, x.op.recs.length ≤ n ∧ ∀ r ∈ x.op.recs, r.length ≤ n
theorem leB_bulk {b : List zf} {n : Nat} (h : zcN (zaM b) ≤ n) : leB n b := by
  unfold zaM at h
  refine ⟨Nat.le_trans (zgz (f := zas) (fun a => by simp only [zas, zcA, zfA]; omega) b) h, fun x hx => ?_⟩
  have := zgy (f := zas) hx
  simp only [zas, zcA, zfA] at this
  have h2 := zom x.op.recs
  refine ⟨by omega, fun r hr => ?_⟩
  have := h2.2 r hr
  omega
def leP (n : Nat) (p : zw) : Prop := p.signs.length ≤ n ∧ leB n p.batch
theorem signs_bulk (l : List zP) : l.length ≤ zcN (zaB l) := zgz (f := zfn) (fun a => by simp only [zfn, zcA, zfA]; omega) l
theorem leP_bulk {p : zw} {n : Nat} (h : zcA (zdY p) ≤ n) : leP n p := by
  simp only [zdY, zcA, zfA] at h
  have := signs_bulk p.signs
  exact ⟨by omega, leB_bulk (by omega)⟩

theorem zij {q : PQ} {n : Nat} {o : Option zf} (h : q[n]? = some o) : zcF q = zcF (q.take n) ++ (o.toList ++ zcF (q.drop (n + 1))) := by
  obtain ⟨hn, rfl⟩ := List.getElem?_eq_some_iff.1 h
  have e : q = q.take n ++ q[n] :: q.drop (n + 1) := by rw [List.getElem_cons_drop]; exact (List.take_append_drop n q).symm
  conv => lhs; rw [e]
  simp only [zcF, List.filterMap_append, List.filterMap_cons, id_eq]
  cases q[n] <;> rfl
theorem zms {q : PQ} {n : Nat} (o : Option zf) (h : n < q.length) : zcF (q.set n o) = zcF (q.take n) ++ (o.toList ++ zcF (q.drop (n + 1))) := by
  have := zij (q := q.set n o) (n := n) (o := o) (by simp [h])
  rwa [List.take_set_of_le (Nat.le_refl _), List.drop_set_of_lt (by omega)] at this
theorem zfg.before {q : PQ} (hq : zfg q) {n : Nat} {y : zf} (h : y ∈ zcF (q.take n)) : y.client < n := by
  obtain ⟨i, hi⟩ := zjH h
  rw [List.getElem?_take] at hi
  split at hi
  · have := (hq.at_ i y hi).1; omega
  · cases hi
theorem zfg.behind {q : PQ} (hq : zfg q) {n : Nat} {y : zf} (h : y ∈ zcF (q.drop (n + 1))) : (n : Int) < y.client := by
  obtain ⟨i, hi⟩ := zjH h
  rw [List.getElem?_drop] at hi
  have := (hq.at_ _ y hi).1; omega
theorem of_wait {q : PQ} {c : Int} {x : zf} (h : ofF q c = some x) : x ∈ zcF q := by
  obtain ⟨_, _, h⟩ := ofF_some h
  simp only [zcF, List.mem_filterMap, id_eq, exists_eq_right]
  exact List.mem_of_getElem? h
theorem zfg.client {q : PQ} (hq : zfg q) {c : Int} {x : zf} (h : ofF q c = some x) : x.client = c := by
  obtain ⟨h0, h8, hg⟩ := ofF_some h
  have := (hq.at_ _ x hg).1; omega
theorem zfg.of_none {q : PQ} (hq : zfg q) {c : Int} (h : ∀ y ∈ zcF q, y.client ≠ c) : ofF q c = none := by
  cases ho : ofF q c with
  | none => rfl
  | some x => exact absurd (hq.client ho) (h x (of_wait ho))
theorem zoL {α : Type} {l : List α} {p : α → Bool} (h : ∀ x ∈ l, p x = true) : l.filter p = l := List.filter_eq_self.2 h
theorem zfg.without {q : PQ} (hq : zfg q) {c : Int} (h0 : 0 ≤ c) (h8 : c < 8) : (zcF q).filter (fun y => y.client != c) = zcF (q.set c.toNat none) := by
  have hl := hq.len
  have hg := hq.get h0 h8
  rw [zij hg, zms none (by omega)]
  simp only [List.filter_append, Option.toList_none, List.nil_append]
  rw [zoL (l := zcF (q.take c.toNat)) fun y hy => by have := hq.before hy; simp; omega, zoL (l := zcF (q.drop (c.toNat + 1))) fun y hy => by have := hq.behind hy; simp; omega]
  congr 1
  cases ho : ofF q c with
  | none => rfl
  | some x => simp [hq.client ho]
theorem zfg.place {q : PQ} (hq : zfg q) {c : Int} (h0 : 0 ≤ c) (h8 : c < 8) {k : Nat} (hlo : ∀ y ∈ (zcF (q.set c.toNat none)).take k, y.client < c) (hk : k ≤ (zcF (q.set c.toNat none)).length)
    (hhi : ∀ y, (zcF (q.set c.toNat none))[k]? = some y → ¬ y.client < c) (x : zf) :
    (zcF (q.set c.toNat none)).take k ++ (x :: (zcF (q.set c.toNat none)).drop k) = zcF (q.set c.toNat (some x)) := by
  have hl := hq.len
  have e := zms (q := q) none (show c.toNat < q.length by omega)
  have e2 := zms (q := q) (some x) (show c.toNat < q.length by omega)
  simp only [Option.toList_none, List.nil_append, Option.toList_some] at e e2
  obtain ⟨A, hA⟩ : ∃ A, zcF (q.take c.toNat) = A := ⟨_, rfl⟩
  obtain ⟨B, hB⟩ : ∃ B, zcF (q.drop (c.toNat + 1)) = B := ⟨_, rfl⟩
  have hAlt : ∀ y ∈ A, y.client < c := fun y hy => by rw [← hA] at hy; have := hq.before hy; omega
  have hBgt : ∀ y ∈ B, c < y.client := fun y hy => by rw [← hB] at hy; have := hq.behind hy; omega
  rw [hA, hB] at e e2
  rw [e] at hlo hk hhi ⊢
  rw [e2]
  have hkA : k = A.length := by
    rcases Nat.lt_trichotomy k A.length with h | h | h
    · exact absurd (hAlt A[k] (List.getElem_mem h)) (hhi A[k] (by rw [List.getElem?_append_left h]; simp [h]))
    · exact h
    · exfalso
      rw [List.length_append] at hk
      have hb : B[0]? = some (B[0]'(by omega)) := List.getElem?_eq_getElem _
      have hm : B[0]'(by omega) ∈ (A ++ B).take k := by
        refine List.mem_of_getElem? (i := A.length) ?_
        rw [List.getElem?_take, if_pos h, List.getElem?_append_right (Nat.le_refl _), Nat.sub_self]
        exact hb
      have h1 := hlo _ hm
      have h2 := hBgt _ (List.getElem_mem (show 0 < B.length by omega))
      omega
  subst hkA
  simp

def prevC (w : List zf) : Nat → Int
  | 0 => -1
  | k + 1 => match w[k]? with | some x => x.client | none => -1
theorem zfg.push {q : PQ} (hq : zfg q) {x : zf} (hx : zx [x] = 0) (hlt : ∀ y ∈ zcF q, y.client < x.client) : canPut q x = true ∧ zcF (putQ q x) = zcF q ++ [x] := by
  obtain ⟨h0, h8, _⟩ := one_ok hx
  have hl := hq.len
  have hno : ofF q x.client = none := hq.of_none fun y hy => by have := hlt y hy; omega
  have hc : canPut q x = true := by simp [canPut, hx, hno, mayPut]
  refine ⟨hc, ?_⟩
  have hg := hq.get h0 h8
  rw [hno] at hg
  rw [putQ, if_pos hc, zms _ (by omega), zij hg]
  have hB : zcF (q.drop (x.client.toNat + 1)) = [] := by
    rw [List.eq_nil_iff_forall_not_mem]
    intro y hy
    have h1 := hq.behind hy
    have h2 := hlt y (by rw [zij hg]; simp [hy])
    omega
  rw [hB]; simp
theorem zfg.prev {q : PQ} (hq : zfg q) {k : Nat} {x : zf} (hx : (zcF q)[k]? = some x) : prevC (zcF q) k < x.client := by
  have hxm := List.mem_of_getElem? hx
  obtain ⟨i, hi⟩ := zjH hxm
  have hxc := (hq.at_ i x hi).1
  cases k with
  | zero => simp only [prevC]; omega
  | succ k =>
    have hk := (List.getElem?_eq_some_iff.1 hx).1
    have hy : (zcF q)[k]? = some ((zcF q)[k]'(by omega)) := List.getElem?_eq_getElem _
    simp only [prevC, hy]
    -- the list is rising
    have hp : (zcF q).Pairwise fun a b => a.client < b.client := by
      have key : ∀ (l : PQ) (a : Nat), (∀ (i : Nat) x, l[i]? = some (some x) → x.client = ((a + i : Nat) : Int)) → (l.filterMap id).Pairwise fun a b => a.client < b.client := by
        intro l
        induction l with
        | nil => intro a _; simp
        | cons o l ih =>
          intro a h
          have hr := ih (a + 1) fun i x hi => by have := h (i + 1) x (by simpa using hi); rw [this]; congr 1; omega
          cases o with
          | none => simpa using hr
          | some x =>
            simp only [List.filterMap_cons, id_eq, List.pairwise_cons]
            refine ⟨fun y hy => ?_, hr⟩
            obtain ⟨j, hj⟩ := zjH (q := l) hy
            have h1 := h 0 x rfl
            have h2 := h (j + 1) y (by simpa using hj)
            omega
      exact key q 0 fun i x hi => by have := (hq.at_ i x hi).1; simpa using this
    have := List.pairwise_iff_getElem.1 hp k (k + 1) (by omega) hk (by omega)
    obtain ⟨_, rfl⟩ := List.getElem?_eq_some_iff.1 hx
    exact this

structure TStep where
  what : Int
  s : zf
  client : Int
  time : Int
  opn : List (List zf)

def reqD (x : zf) : List D := [.int .i64 x.client, .int .i64 x.time, .int .i64 x.op.kind, .str x.op.topic, .str x.op.group, .int .i64 x.op.offset, .slice (zcX x.op.recs)]
abbrev reqsE (l : List zf) : List (List D) := l.map reqD
theorem signedD_sz {x : zf} {n : Nat} (h : zcA (zas x) ≤ n) (hn : n ≤ 2097152) : zgo x.op ≤ 20971520 := by
  have := opSz_bulk x.op
  simp only [zas, opD, zcA, zfA] at h this
  omega
theorem batch_sz {b : List zf} {n : Nat} (h : zcN (zaM b) ≤ n) (hn : n ≤ 2097152) : (∀ s ∈ b, zgo s.op ≤ 20971520) ∧ b.length ≤ 2097152 := by
  unfold zaM at h
  exact ⟨fun s hs => signedD_sz (Nat.le_trans (zgy (f := zas) hs) h) hn, Nat.le_trans (zgz (f := zas) (fun a => by simp only [zas, zcA, zfA]; omega) b) (by omega)⟩
end Go.AW
