/- What holds little has short lists. No program in sight. -/
import Derived.Test.YtfjommppajkpoaaGreatCl1
import Derived.Test.YtfjommppajkpoaaGreatSpMake
import Derived.Test.YtfjommppajkpoaaGreatSpUtf
set_option linter.all false
namespace Go.AW
theorem ziO {α : Type} {f : α → List D} (h : ∀ a, 1 ≤ zhx (f a)) : ∀ (l : List α),l.length ≤ ziP (l.map f)
 | [] => Nat.zero_le _
 | a :: l => by have := h a; have := ziO h l; simp only [List.map_cons,List.length_cons,ziP]; omega
theorem signs_bulk (l : List zI) : l.length ≤ ziP (zas l) := ziO (f := zfI) (fun a => by simp only [zfI,zhx,znU]; omega) l
theorem zlr {q : PQ} {n : Nat} {o : Option zr} (h : q[n]? = some o) : zdx q = zdx (q.take n) ++ (o.toList ++ zdx (q.drop (n + 1))) := by
 obtain ⟨hn,rfl⟩ := List.getElem?_eq_some_iff.1 h
 have e : q = q.take n ++ q[n] :: q.drop (n + 1) := by rw [List.getElem_cons_drop]; exact (List.take_append_drop n q).symm
 conv => lhs; rw [e]
 simp only [zdx,List.filterMap_append,List.filterMap_cons,id_eq]
 cases q[n] <;> rfl
theorem zqp {q : PQ} {n : Nat} (o : Option zr) (h : n < q.length) : zdx (q.set n o) = zdx (q.take n) ++ (o.toList ++ zdx (q.drop (n + 1))) := by
 have := zlr (q := q.set n o) (n := n) (o := o) (by simp [h])
 rwa [List.take_set_of_le (Nat.le_refl _),List.drop_set_of_lt (by omega)] at this
theorem zgU.before {q : PQ} (hq : zgU q) {n : Nat} {y : zr} (h : y ∈ zdx (q.take n)) : y.client < n := by
 obtain ⟨i,hi⟩ := znd h
 rw [List.getElem?_take] at hi
 split at hi
 ·have := (hq.at_ i y hi).1; omega
 ·cases hi
theorem zgU.behind {q : PQ} (hq : zgU q) {n : Nat} {y : zr} (h : y ∈ zdx (q.drop (n + 1))) : (n : Int) < y.client := by
 obtain ⟨i,hi⟩ := znd h
 rw [List.getElem?_drop] at hi
 have := (hq.at_ _ y hi).1; omega
theorem of_wait {q : PQ} {c : Int} {x : zr} (h : ofF q c = some x) : x ∈ zdx q := by
 obtain ⟨_,_,h⟩ := ofF_some h
 simp only [zdx,List.mem_filterMap,id_eq,exists_eq_right]
 exact List.mem_of_getElem? h
theorem zgU.client {q : PQ} (hq : zgU q) {c : Int} {x : zr} (h : ofF q c = some x) : x.client = c := by
 obtain ⟨h0,h8,hg⟩ := ofF_some h
 have := (hq.at_ _ x hg).1; omega
theorem zgU.of_none {q : PQ} (hq : zgU q) {c : Int} (h : ∀ y ∈ zdx q,y.client ≠ c) : ofF q c = none := by
 cases ho : ofF q c with
 | none => rfl
 | some x => exact absurd (hq.client ho) (h x (of_wait ho))
theorem ztz {α : Type} {l : List α} {p : α → Bool} (h : ∀ x ∈ l,p x = true) : l.filter p = l := List.filter_eq_self.2 h
theorem zgU.without {q : PQ} (hq : zgU q) {c : Int} (h0 : 0 ≤ c) (h8 : c < 8) : (zdx q).filter (fun y => y.client != c) = zdx (q.set c.toNat none) := by
 have hl := hq.len
 have hg := hq.get h0 h8
 rw [zlr hg,zqp none (by omega)]
 simp only [List.filter_append,Option.toList_none,List.nil_append]
 rw [ztz (l := zdx (q.take c.toNat)) fun y hy => by have := hq.before hy; simp; omega,ztz (l := zdx (q.drop (c.toNat + 1))) fun y hy => by have := hq.behind hy; simp; omega]
 congr 1
 cases ho : ofF q c with
 | none => rfl
 | some x => simp [hq.client ho]
theorem zgU.place {q : PQ} (hq : zgU q) {c : Int} (h0 : 0 ≤ c) (h8 : c < 8) {k : Nat} (hlo : ∀ y ∈ (zdx (q.set c.toNat none)).take k,y.client < c) (hk : k ≤ (zdx (q.set c.toNat none)).length)
  (hhi : ∀ y,(zdx (q.set c.toNat none))[k]? = some y → ¬ y.client < c) (x : zr) :
  (zdx (q.set c.toNat none)).take k ++ (x :: (zdx (q.set c.toNat none)).drop k) = zdx (q.set c.toNat (some x)) := by
 have hl := hq.len
 have e := zqp (q := q) none (show c.toNat < q.length by omega)
 have e2 := zqp (q := q) (some x) (show c.toNat < q.length by omega)
 simp only [Option.toList_none,List.nil_append,Option.toList_some] at e e2
 obtain ⟨A,hA⟩ : ∃ A,zdx (q.take c.toNat) = A := ⟨_,rfl⟩
 obtain ⟨B,hB⟩ : ∃ B,zdx (q.drop (c.toNat + 1)) = B := ⟨_,rfl⟩
 have hAlt : ∀ y ∈ A,y.client < c := fun y hy => by rw [← hA] at hy; have := hq.before hy; omega
 have hBgt : ∀ y ∈ B,c < y.client := fun y hy => by rw [← hB] at hy; have := hq.behind hy; omega
 rw [hA,hB] at e e2
 rw [e] at hlo hk hhi ⊢
 rw [e2]
 have hkA : k = A.length := by
  rcases Nat.lt_trichotomy k A.length with h | h | h
  ·exact absurd (hAlt A[k] (List.getElem_mem h)) (hhi A[k] (by rw [List.getElem?_append_left h]; simp [h]))
  ·exact h
  ·exfalso
   rw [List.length_append] at hk
   have hb : B[0]? = some (B[0]'(by omega)) := List.getElem?_eq_getElem _
   have hm : B[0]'(by omega) ∈ (A ++ B).take k := by
    refine List.mem_of_getElem? (i := A.length) ?_
    rw [List.getElem?_take,if_pos h,List.getElem?_append_right (Nat.le_refl _),Nat.sub_self]
    exact hb
   have h1 := hlo _ hm
   have h2 := hBgt _ (List.getElem_mem (show 0 < B.length by omega))
   omega
 subst hkA
 simp
def prevC (w : List zr) : Nat → Int
 | 0 => -1
 | k + 1 => match w[k]? with | some x => x.client | none => -1
theorem zgU.push {q : PQ} (hq : zgU q) {x : zr} (hx : zad [x] = 0) (hlt : ∀ y ∈ zdx q,y.client < x.client) : canPut q x = true ∧ zdx (putQ q x) = zdx q ++ [x] := by
 obtain ⟨h0,h8,_⟩ := one_ok hx
 have hl := hq.len
 have hno : ofF q x.client = none := hq.of_none fun y hy => by have := hlt y hy; omega
 have hc : canPut q x = true := by simp [canPut,hx,hno,mayPut]
 refine ⟨hc, ?_⟩
 have hg := hq.get h0 h8
 rw [hno] at hg
 rw [putQ,if_pos hc,zqp _ (by omega),zlr hg]
 have hB : zdx (q.drop (x.client.toNat + 1)) = [] := by
  rw [List.eq_nil_iff_forall_not_mem]
  intro y hy
  have h1 := hq.behind hy
  have h2 := hlt y (by rw [zlr hg]; simp [hy])
  omega
 rw [hB]; simp
theorem zgU.prev {q : PQ} (hq : zgU q) {k : Nat} {x : zr} (hx : (zdx q)[k]? = some x) : prevC (zdx q) k < x.client := by
 have hxm := List.mem_of_getElem? hx
 obtain ⟨i,hi⟩ := znd hxm
 have hxc := (hq.at_ i x hi).1
 cases k with
 | zero => simp only [prevC]; omega
 | succ k =>
  have hk := (List.getElem?_eq_some_iff.1 hx).1
  have hy : (zdx q)[k]? = some ((zdx q)[k]'(by omega)) := List.getElem?_eq_getElem _
  simp only [prevC,hy]
  -- the list is rising
  have hp : (zdx q).Pairwise fun a b => a.client < b.client := by
   have key : ∀ (l : PQ) (a : Nat),(∀ (i : Nat) x,l[i]? = some (some x) → x.client = ((a + i : Nat) : Int)) → (l.filterMap id).Pairwise fun a b => a.client < b.client := by
    intro l
    induction l with
    | nil => intro a _; simp
    | cons o l ih =>
     intro a h
     have hr := ih (a + 1) fun i x hi => by have := h (i + 1) x (by simpa using hi); rw [this]; congr 1; omega
     cases o with
     | none => simpa using hr
     | some x =>
      simp only [List.filterMap_cons,id_eq,List.pairwise_cons]
      refine ⟨fun y hy => ?_,hr⟩
      obtain ⟨j,hj⟩ := znd (q := l) hy
      have h1 := h 0 x rfl
      have h2 := h (j + 1) y (by simpa using hj)
      omega
   exact key q 0 fun i x hi => by have := (hq.at_ i x hi).1; simpa using this
  have := List.pairwise_iff_getElem.1 hp k (k + 1) (by omega) hk (by omega)
  obtain ⟨_,rfl⟩ := List.getElem?_eq_some_iff.1 hx
  exact this
structure TStep where
 what : Int
 s : zr
 client : Int
 time : Int
 opn : List (List zr)
def reqD (x : zr) : List D := [.int .i64 x.client, .int .i64 x.time, .int .i64 x.op.kind, .str x.op.topic, .str x.op.group, .int .i64 x.op.offset, .slice (zcj x.op.recs)]
abbrev reqsE (l : List zr) : List (List D) := l.map reqD
end Go.AW

/- Batches are sealed one after the other; what tables and ledgers hold. -/
set_option maxRecDepth 100000
namespace Go.Proofs.YtfjommppajkpoaaGreat
open Go.AW
def seR (s : List (List UInt8) × List zI × List zr) (r : zr) : List (List UInt8) × List zI × List zr :=
 (sealL s.1 r,sealG s.1 s.2.1 r,if zoz s.1 r = 0 then s.2.2 ++ [zsA s.1 r] else s.2.2)
structure SeI (n m : Nat) (s : List (List UInt8) × List zI × List zr) : Prop where
 tab : zjN s.1
 led : s.2.1.length ≤ n
 sz : ∀ x ∈ s.2.2,zmd x.op ≤ 20971520
 len : s.2.2.length ≤ m
theorem seI {n m : Nat} {s : List (List UInt8) × List zI × List zr} {r : zr} (h : SeI n m s) (hr : zmd r.op ≤ 20971520) : SeI (n + 1) (m + 1) (seR s r) := by
 obtain ⟨L,G,b⟩ := s
 obtain ⟨h1,h2,h3,h4⟩ := h
 simp only at h1 h2 h3 h4
 refine ⟨?_, ?_, ?_, ?_⟩
 ·simp only [seR,sealL]
  split
  ·exact h1
  ·rename_i hc
   have := zqu (x := r) (by omega) (by simpa using hc)
   exact h1.sum (by omega)
 ·simp only [seR,sealG,zgI,zsz]
  split
  ·omega
  ·split
   ·split
    ·omega
    ·simp; omega
   ·omega
 ·simp only [seR]
  split
  ·rename_i he
   intro x hx
   rcases List.mem_append.1 hx with hx | hx
   ·exact h3 x hx
   ·simp only [List.mem_singleton] at hx
    subst hx
    rw [zsA,if_pos he]
    exact hr
  ·exact h3
 ·simp only [seR]
  split
  ·simp; omega
  ·omega
theorem foldSe {n m : Nat} {s : List (List UInt8) × List zI × List zr} (h : SeI n m s) {l : List zr} (hl : ∀ x ∈ l,zmd x.op ≤ 20971520) : SeI (n + l.length) (m + l.length) (l.foldl seR s) := by
 induction l generalizing n m s with
 | nil => exact h
 | cons x l ih =>
  have := ih (seI h (hl x (by simp))) fun y hy => hl y (by simp [hy])
  simp only [List.foldl_cons,List.length_cons]
  rwa [show n + (l.length + 1) = n + 1 + l.length by omega,show m + (l.length + 1) = m + 1 + l.length by omega]
theorem zeh {α β : Type} {f : β → α → β} {s : β} {l : List α} {k : Nat} {x : α} (h : l[k]? = some x) : (l.take (k + 1)).foldl f s = f ((l.take k).foldl f s) x := by
 rw [List.take_add_one,h,List.foldl_append]; rfl
theorem tab_dig {L : List (List UInt8)} (h : zjN L) {l : List zr} (hx : ∀ s ∈ l,zmd s.op ≤ 20971520) : zjN (ztD L l) := by
 unfold ztD
 split
 ·exact h
 ·rename_i hc
  have := zmj hx
  rw [zew,if_pos (by simpa using hc)] at this
  exact h.sum (by omega)
theorem zuq {l : List (List UInt8)} {k : Nat} {x : List UInt8} (hn : l.Nodup) (hl0 : l.length ≤ 1048576) (hx : l[k]? = some x) : zfe (l.take k) x = l.take (k + 1) := by
 have hk := (List.getElem?_eq_some_iff.1 hx).1
 have hnot : x ∉ l.take k := fun hm => by
  obtain ⟨i,hi,he⟩ := List.mem_take_iff_getElem.1 hm
  have := (List.getElem_inj hn).1 (he.trans (List.getElem?_eq_some_iff.1 hx).2.symm)
  omega
 have hno := ztm hnot
 have h1 : (l.take k).length = k := by rw [List.length_take]; omega
 rw [zfe,hno]
 simp only [h1]
 rw [if_neg (by omega),List.take_add_one,hx]; rfl
structure LedI (G : List zI) : Prop where
 nd : G.Nodup
 ok : ∀ g ∈ G,zeJ g.key g.dig = 0
theorem LedI.sign {G : List zI} (h : LedI G) (k d : Int) : LedI (zgI G k d) := by
 unfold zgI
 split
 ·rename_i hs
  unfold zsz
  split
  ·exact h
  ·rename_i hn
   refine ⟨?_,fun g hg => ?_⟩
   ·rw [List.nodup_append]
    refine ⟨h.nd,by simp,fun a ha b hb e => ?_⟩
    simp only [List.mem_singleton] at hb
    subst e hb
    exact hn ha
   ·rcases List.mem_append.1 hg with hg | hg
    ·exact h.ok g hg
    ·simp only [List.mem_singleton] at hg
     subst hg; exact hs
 ·exact h
theorem sign_take {l : List zI} {k : Nat} {x : zI} (h : LedI l) (hx : l[k]? = some x) : zgI (l.take k) x.key x.dig = l.take (k + 1) := by
 have hk := (List.getElem?_eq_some_iff.1 hx).1
 have hnot : x ∉ l.take k := fun hm => by
  obtain ⟨i,hi,he⟩ := List.mem_take_iff_getElem.1 hm
  have := (List.getElem_inj h.nd).1 (he.trans (List.getElem?_eq_some_iff.1 hx).2.symm)
  omega
 rw [zgI,if_pos (h.ok x (List.mem_of_getElem? hx)),zsz,if_neg hnot,List.take_add_one,hx]; rfl
end Go.Proofs.YtfjommppajkpoaaGreat

/- Sets of brokers as numbers. No program in sight. -/
namespace Go.AW
def inF (s : Nat) (b : Int) : Bool := decide (0 ≤ b ∧ b < 13 ∧ s / 2 ^ b.toNat % 2 = 1)
def ofN (l : List Int) : Nat → Nat
 | 0 => 0
 | k + 1 => ofN l k + if (k : Int) ∈ l then 2 ^ k else 0
theorem ofN_lt (l : List Int) : ∀ k,ofN l k < 2 ^ k
 | 0 => by simp [ofN]
 | k + 1 => by
  have := ofN_lt l k
  simp only [ofN,Nat.pow_succ]
  split <;> omega
def memN (s : Nat) (k : Nat) : List Int := ((List.range k).map Int.ofNat).filter (inF s)
def memF (s : Nat) : List Int := memN s 13
theorem memN_next (s k : Nat) : memN s (k + 1) = memN s k ++ if inF s (k : Int) = true then [(k : Int)] else [] := by
 simp only [memN,List.range_succ,List.map_append,List.filter_append,List.map_cons,List.map_nil]
 congr 1
 show List.filter (inF s) [(k : Int)] = _
 rw [List.filter_cons]
 split <;> rfl
theorem znv (s k : Nat) : (memN s k).length ≤ k := by
 have := List.length_filter_le (inF s) ((List.range k).map Int.ofNat)
 simpa [memN] using this
def zqF (n : Nat) : List Int := (List.range n).map Int.ofNat
theorem zsT (n : Nat) : zqF (n + 1) = zqF n ++ [(n : Int)] := by
 simp [zqF,List.range_succ]
def zrS (a b : Nat) (k : Nat) : List Int := (zqF k).filter fun i => inF a i && inF b i
def bothF (a b : Nat) : Nat := ofN (zrS a b 13) 13
def allF (n : Nat) : Nat := ofN (zqF n) 13
theorem bothL_next (a b k : Nat) : zrS a b (k + 1) = zrS a b k ++ if (inF a (k : Int) && inF b (k : Int)) = true then [(k : Int)] else [] := by
 simp only [zrS,zsT,List.filter_append]
 congr 1
 rw [List.filter_cons]
 split <;> rfl
theorem bothL_len (a b k : Nat) : (zrS a b k).length ≤ k := by
 have := List.length_filter_le (fun i => inF a i && inF b i) (zqF k)
 simpa [zrS,zqF] using this
theorem ofN_small (l : List Int) : ofN l 13 < 8192 := ofN_lt l 13
theorem ztR (a b : Nat) : bothF a b < 65536 := by have := ofN_small (zrS a b 13); unfold bothF; omega
theorem all_small (n : Nat) : allF n < 65536 := by have := ofN_small (zqF n); unfold allF; omega
end Go.AW
