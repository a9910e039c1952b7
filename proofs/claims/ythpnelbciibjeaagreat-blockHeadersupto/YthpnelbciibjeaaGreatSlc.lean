/- The kit's contracts of a library function, laid at this seat. -/
import Derived.Test.YthpnelbciibjeaaGreatSh
import Derived.Shelf.SlMaps.Clone
import Derived.Ground.SlmcProg
import Derived.Test.YthpnelbciibjeaaGreatAwFun
import Derived.Test.YthpnelbciibjeaaGreatAwSndR
import Derived.Test.YthpnelbciibjeaaGreatKs2
import Derived.Test.YthpnelbciibjeaaGreatSpTake
import Derived.Test.YthpnelbciibjeaaGreatCl1
import Derived.Test.YthpnelbciibjeaaGreatMk3
import Derived.Test.YthpnelbciibjeaaGreatSpUtf
set_option linter.all false
set_option maxRecDepth 100000
namespace Go.Proofs.YthpnelbciibjeaaGreat
open Go.Shelf Go.Proofs
def cloneM_ren : Go.Shelf.Ren := ⟨fun | 5 => 70 | 7 => 87 | n => n, fun | 23 => 128 | 25 => 9 | 3 => 2 | 4 => 4 | 20 => 20 | n => n, fun | n => n⟩
theorem cloneM : Go.Proofs.SlLaysW.n5 Tryz.prog cloneM_ren := {
  mixed := by kernel_rfl
  f5 := ⟨Tryz.f70.name, by decide, Tryz.func70.trans (congrArg some (by kernel_rfl))⟩
  f7 := Tryz.func87.trans (congrArg some (by kernel_rfl))
  t4 := Tryz.underlying4
  a4 := Tryz.isAgg4
  z4 := Tryz.sizeOf4
  v4 := Tryz.zeroValue4
  t20 := Tryz.underlying20
  a20 := Tryz.isAgg20
  z20 := Tryz.sizeOf20
  v20 := Tryz.zeroValue20
  t23 := Tryz.underlying128
  a23 := Tryz.isAgg128
  z23 := Tryz.sizeOf128
  v23 := Tryz.zeroValue128 }
end Go.Proofs.YthpnelbciibjeaaGreat

/- A MAP IS CLONED: the kit's contract of maps.Clone, told in the own logic. -/
set_option linter.unusedSimpArgs false
set_option linter.unusedVariables false
namespace Go.AW

def CloneC (P : Program) (f : FuncId) : Prop := ∀ (b : Nat) (es : Array MapEntry) (clock : Nat) (w : World), w.heap[b]? = some (.map es clock) →
  Calls P f #[.map (some b)] w fun e w' => e = .returned (.map (some w.heap.size)) ∧ w' = w.alloc (.map es clock)
theorem zol {P : Program} {f : FuncId} (hok : zmb P f = true) (hc : CloneC P f) {σ : List zc} {id : Nat} {es : List (AV × AV)} (hσ : σ[id]? = some (.map es)) {K : AV → List zc → Prop}
    (hK : K (.map σ.length) (σ ++ [.map es])) : zo P f [.map id] σ K := by
  refine ⟨hok, fun L w vs S hv => ?_⟩
  obtain ⟨hv1, hv2⟩ := hv
  obtain ⟨v, rfl⟩ : ∃ v, vs = [v] := by
    match vs, hv1 with
    | [v], _ => exact ⟨v, rfl⟩
  have hv3 := hv2 0 _ _ rfl rfl
  obtain ⟨rfl, _⟩ := hv3.map_inv
  obtain ⟨ms, clock, h1, h2, h3, h4⟩ := map_block' S hσ
  refine (hc _ ms clock w h1).mono ?_
  rintro e w' ⟨rfl, rfl⟩
  have hf : ∀ b c, zbV { a := ⟨w.heap.size, 0, none⟩ } (.map es) b c → b = w.heap.size := fun b c h => h
  have st := zby L σ (.map ms clock) { a := ⟨w.heap.size, 0, none⟩ } (.map es) hf
  have S' := zcG S (.map ms clock) { a := ⟨w.heap.size, 0, none⟩ } (.map es) hf ⟨ms, clock, by
    show (w.heap.push _)[w.heap.size]? = _
    simp, by simpa using h2, fun j e m he hm => (h3 j e m he (by simpa using hm)).mono st, h4⟩
  refine ⟨_, _, .map σ.length, st, S', ?_, hK⟩
  have := RV.map (w := w.alloc (.map ms clock)) (L := zfk L σ.length { a := ⟨w.heap.size, 0, none⟩ }) (σ := σ ++ [.map es]) σ.length ⟨.map es, by simp, by simp [zc.kind]⟩
  rw [zD] at this
  exact this
end Go.AW

/- Contracts: the document's topics: bounds, records, what was committed; placed records that are the same. -/
set_option maxRecDepth 100000
set_option linter.unusedSimpArgs false
set_option linter.unusedVariables false
namespace Go.Proofs.YthpnelbciibjeaaGreat
open Go.AW

section
variable {σ : List zc} {id t g : Nat} {T : zaz} {K : AV → List zc → Prop}
end

end Go.Proofs.YthpnelbciibjeaaGreat

/- A record stands at its offset until it is trimmed. No program in sight. -/
set_option linter.unusedSimpArgs false
set_option linter.unusedVariables false
namespace Go.AW

structure AtE where
  n : List UInt8
  l : List (List UInt8)
  t : Nat
def findY (n : List UInt8) : List AtE → Nat → Option (Nat × AtE)
  | [], _ => none
  | e :: r, i => if n = e.n then some (i, e) else findY n r (i + 1)
theorem zoJ {n : List UInt8} : ∀ {l : List AtE} {i k : Nat} {e : AtE}, findY n l i = some (k, e) → ∃ j, k = i + j ∧ l[j]? = some e ∧ e.n = n
  | [], _, _, _, h => by simp [findY] at h
  | g :: r, i, k, v, h => by
    simp only [findY] at h
    split at h
    · rename_i e; cases h; exact ⟨0, rfl, rfl, e.symm⟩
    · obtain ⟨j, h1, h2, h3⟩ := zoJ h
      exact ⟨j + 1, by omega, by simpa using h2, h3⟩


theorem ziL {q : PQ} {n : Nat} {o : Option zk} (h : q[n]? = some o) : zcR q = zcR (q.take n) ++ (o.toList ++ zcR (q.drop (n + 1))) := by
  obtain ⟨hn, rfl⟩ := List.getElem?_eq_some_iff.1 h
  have e : q = q.take n ++ q[n] :: q.drop (n + 1) := by rw [List.getElem_cons_drop]; exact (List.take_append_drop n q).symm
  conv => lhs; rw [e]
  simp only [zcR, List.filterMap_append, List.filterMap_cons, id_eq]
  cases q[n] <;> rfl
theorem zmx {q : PQ} {n : Nat} (o : Option zk) (h : n < q.length) : zcR (q.set n o) = zcR (q.take n) ++ (o.toList ++ zcR (q.drop (n + 1))) := by
  have := ziL (q := q.set n o) (n := n) (o := o) (by simp [h])
  rwa [List.take_set_of_le (Nat.le_refl _), List.drop_set_of_lt (by omega)] at this
theorem zft.before {q : PQ} (hq : zft q) {n : Nat} {y : zk} (h : y ∈ zcR (q.take n)) : y.client < n := by
  obtain ⟨i, hi⟩ := zkd h
  rw [List.getElem?_take] at hi
  split at hi
  · have := (hq.at_ i y hi).1; omega
  · cases hi
theorem zft.behind {q : PQ} (hq : zft q) {n : Nat} {y : zk} (h : y ∈ zcR (q.drop (n + 1))) : (n : Int) < y.client := by
  obtain ⟨i, hi⟩ := zkd h
  rw [List.getElem?_drop] at hi
  have := (hq.at_ _ y hi).1; omega
theorem of_wait {q : PQ} {c : Int} {x : zk} (h : ofF q c = some x) : x ∈ zcR q := by
  obtain ⟨_, _, h⟩ := ofF_some h
  simp only [zcR, List.mem_filterMap, id_eq, exists_eq_right]
  exact List.mem_of_getElem? h
theorem zft.client {q : PQ} (hq : zft q) {c : Int} {x : zk} (h : ofF q c = some x) : x.client = c := by
  obtain ⟨h0, h8, hg⟩ := ofF_some h
  have := (hq.at_ _ x hg).1; omega
theorem zft.of_none {q : PQ} (hq : zft q) {c : Int} (h : ∀ y ∈ zcR q, y.client ≠ c) : ofF q c = none := by
  cases ho : ofF q c with
  | none => rfl
  | some x => exact absurd (hq.client ho) (h x (of_wait ho))
theorem zoL {α : Type} {l : List α} {p : α → Bool} (h : ∀ x ∈ l, p x = true) : l.filter p = l := List.filter_eq_self.2 h
theorem zft.without {q : PQ} (hq : zft q) {c : Int} (h0 : 0 ≤ c) (h8 : c < 8) : (zcR q).filter (fun y => y.client != c) = zcR (q.set c.toNat none) := by
  have hl := hq.len
  have hg := hq.get h0 h8
  rw [ziL hg, zmx none (by omega)]
  simp only [List.filter_append, Option.toList_none, List.nil_append]
  rw [zoL (l := zcR (q.take c.toNat)) fun y hy => by have := hq.before hy; simp; omega, zoL (l := zcR (q.drop (c.toNat + 1))) fun y hy => by have := hq.behind hy; simp; omega]
  congr 1
  cases ho : ofF q c with
  | none => rfl
  | some x => simp [hq.client ho]
theorem zft.place {q : PQ} (hq : zft q) {c : Int} (h0 : 0 ≤ c) (h8 : c < 8) {k : Nat} (hlo : ∀ y ∈ (zcR (q.set c.toNat none)).take k, y.client < c) (hk : k ≤ (zcR (q.set c.toNat none)).length)
    (hhi : ∀ y, (zcR (q.set c.toNat none))[k]? = some y → ¬ y.client < c) (x : zk) :
    (zcR (q.set c.toNat none)).take k ++ (x :: (zcR (q.set c.toNat none)).drop k) = zcR (q.set c.toNat (some x)) := by
  have hl := hq.len
  have e := zmx (q := q) none (show c.toNat < q.length by omega)
  have e2 := zmx (q := q) (some x) (show c.toNat < q.length by omega)
  simp only [Option.toList_none, List.nil_append, Option.toList_some] at e e2
  obtain ⟨A, hA⟩ : ∃ A, zcR (q.take c.toNat) = A := ⟨_, rfl⟩
  obtain ⟨B, hB⟩ : ∃ B, zcR (q.drop (c.toNat + 1)) = B := ⟨_, rfl⟩
  have hAlt : ∀ y ∈ A, y.client < c := fun y hy => by rw [← hA] at hy; have := hq.before hy; omega
  have hBgt : ∀ y ∈ B, c < y.client := fun y hy => by rw [← hB] at hy; have := hq.behind hy; omega
  rw [hA, hB] at e e2
  rw [e] at hlo hk hhi ⊢
  rw [e2]
  have hkA : k = A.length := by
    rcases Nat.lt_trichotomy k A.length with h | h | h
    · exact absurd (hAlt A[k] (List.getElem_mem h)) (hhi A[k] (by rw [List.getElem?_append_left h]; simp [h]))
    · exact h
    · exfalso
      rw [List.length_append] at hk
      have hb : B[0]? = some (B[0]'(by omega)) := List.getElem?_eq_getElem _
      have hm : B[0]'(by omega) ∈ (A ++ B).take k := by
        refine List.mem_of_getElem? (i := A.length) ?_
        rw [List.getElem?_take, if_pos h, List.getElem?_append_right (Nat.le_refl _), Nat.sub_self]
        exact hb
      have h1 := hlo _ hm
      have h2 := hBgt _ (List.getElem_mem (show 0 < B.length by omega))
      omega
  subst hkA
  simp

def prevC (w : List zk) : Nat → Int
  | 0 => -1
  | k + 1 => match w[k]? with | some x => x.client | none => -1
theorem zft.push {q : PQ} (hq : zft q) {x : zk} (hx : zI [x] = 0) (hlt : ∀ y ∈ zcR q, y.client < x.client) : canPut q x = true ∧ zcR (putQ q x) = zcR q ++ [x] := by
  obtain ⟨h0, h8, _⟩ := one_ok hx
  have hl := hq.len
  have hno : ofF q x.client = none := hq.of_none fun y hy => by have := hlt y hy; omega
  have hc : canPut q x = true := by simp [canPut, hx, hno, mayPut]
  refine ⟨hc, ?_⟩
  have hg := hq.get h0 h8
  rw [hno] at hg
  rw [putQ, if_pos hc, zmx _ (by omega), ziL hg]
  have hB : zcR (q.drop (x.client.toNat + 1)) = [] := by
    rw [List.eq_nil_iff_forall_not_mem]
    intro y hy
    have h1 := hq.behind hy
    have h2 := hlt y (by rw [ziL hg]; simp [hy])
    omega
  rw [hB]; simp
theorem zft.prev {q : PQ} (hq : zft q) {k : Nat} {x : zk} (hx : (zcR q)[k]? = some x) : prevC (zcR q) k < x.client := by
  have hxm := List.mem_of_getElem? hx
  obtain ⟨i, hi⟩ := zkd hxm
  have hxc := (hq.at_ i x hi).1
  cases k with
  | zero => simp only [prevC]; omega
  | succ k =>
    have hk := (List.getElem?_eq_some_iff.1 hx).1
    have hy : (zcR q)[k]? = some ((zcR q)[k]'(by omega)) := List.getElem?_eq_getElem _
    simp only [prevC, hy]
    -- the list is rising
    have hp : (zcR q).Pairwise fun a b => a.client < b.client := by
      have key : ∀ (l : PQ) (a : Nat), (∀ (i : Nat) x, l[i]? = some (some x) → x.client = ((a + i : Nat) : Int)) → (l.filterMap id).Pairwise fun a b => a.client < b.client := by
        intro l
        induction l with
        | nil => intro a _; simp
        | cons o l ih =>
          intro a h
          have hr := ih (a + 1) fun i x hi => by have := h (i + 1) x (by simpa using hi); rw [this]; congr 1; omega
          cases o with
          | none => simpa using hr
          | some x =>
            simp only [List.filterMap_cons, id_eq, List.pairwise_cons]
            refine ⟨fun y hy => ?_, hr⟩
            obtain ⟨j, hj⟩ := zkd (q := l) hy
            have h1 := h 0 x rfl
            have h2 := h (j + 1) y (by simpa using hj)
            omega
      exact key q 0 fun i x hi => by have := (hq.at_ i x hi).1; simpa using this
    have := List.pairwise_iff_getElem.1 hp k (k + 1) (by omega) hk (by omega)
    obtain ⟨_, rfl⟩ := List.getElem?_eq_some_iff.1 hx
    exact this

structure TStep where
  what : Int
  s : zk
  client : Int
  time : Int
  opn : List (List zk)

end Go.AW
