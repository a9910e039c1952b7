/- What holds little has short lists. No program in sight. -/
import Derived.Test.YtncpaekiidpchaaGreatCl1
import Derived.Test.YtncpaekiidpchaaGreatSpMake
import Derived.Test.YtncpaekiidpchaaGreatSpUtf
set_option linter.all false
namespace Go.AW
theorem zeL {α : Type} {f : α → List D} (h : ∀ a, 1 ≤ zdf (f a)) : ∀ (l : List α),l.length ≤ zdO (l.map f)
 | [] => Nat.zero_le _
 | a :: l => by have := h a; have := zeL h l; simp only [List.map_cons,List.length_cons,zdO]; omega
theorem ziS {α : Type} {f : α → List D} {a : α} : ∀ {l : List α},a ∈ l → zdf (f a) ≤ zdO (l.map f)
 | b :: l,h => by
  simp only [List.map_cons,zdO]
  rcases List.mem_cons.1 h with rfl | h
  ·omega
  ·have := ziS (f := f) h; omega
theorem signs_bulk (l : List zae) : l.length ≤ zdO (zaz l) := zeL (f := zgE) (fun a => by simp only [zgE,zdf,zfE]; omega) l
end Go.AW

/- Requests that wait, in a list by clients: the document's pool. No program in sight. -/
namespace Go.AW
theorem zlq {q : PQ} {n : Nat} {o : Option zA} (h : q[n]? = some o) : zdH q = zdH (q.take n) ++ (o.toList ++ zdH (q.drop (n + 1))) := by
 obtain ⟨hn,rfl⟩ := List.getElem?_eq_some_iff.1 h
 have e : q = q.take n ++ q[n] :: q.drop (n + 1) := by rw [List.getElem_cons_drop]; exact (List.take_append_drop n q).symm
 conv => lhs; rw [e]
 simp only [zdH,List.filterMap_append,List.filterMap_cons,id_eq]
 cases q[n] <;> rfl
theorem zqi {q : PQ} {n : Nat} (o : Option zA) (h : n < q.length) : zdH (q.set n o) = zdH (q.take n) ++ (o.toList ++ zdH (q.drop (n + 1))) := by
 have := zlq (q := q.set n o) (n := n) (o := o) (by simp [h])
 rwa [List.take_set_of_le (Nat.le_refl _),List.drop_set_of_lt (by omega)] at this
theorem zgM.before {q : PQ} (hq : zgM q) {n : Nat} {y : zA} (h : y ∈ zdH (q.take n)) : y.client < n := by
 obtain ⟨i,hi⟩ := zmY h
 rw [List.getElem?_take] at hi
 split at hi
 ·have := (hq.at_ i y hi).1; omega
 ·cases hi
theorem zgM.behind {q : PQ} (hq : zgM q) {n : Nat} {y : zA} (h : y ∈ zdH (q.drop (n + 1))) : (n : Int) < y.client := by
 obtain ⟨i,hi⟩ := zmY h
 rw [List.getElem?_drop] at hi
 have := (hq.at_ _ y hi).1; omega
theorem of_wait {q : PQ} {c : Int} {x : zA} (h : ofF q c = some x) : x ∈ zdH q := by
 obtain ⟨_,_,h⟩ := ofF_some h
 simp only [zdH,List.mem_filterMap,id_eq,exists_eq_right]
 exact List.mem_of_getElem? h
theorem zgM.client {q : PQ} (hq : zgM q) {c : Int} {x : zA} (h : ofF q c = some x) : x.client = c := by
 obtain ⟨h0,h8,hg⟩ := ofF_some h
 have := (hq.at_ _ x hg).1; omega
theorem zgM.of_none {q : PQ} (hq : zgM q) {c : Int} (h : ∀ y ∈ zdH q,y.client ≠ c) : ofF q c = none := by
 cases ho : ofF q c with
 | none => rfl
 | some x => exact absurd (hq.client ho) (h x (of_wait ho))
theorem zsU {α : Type} {l : List α} {p : α → Bool} (h : ∀ x ∈ l,p x = true) : l.filter p = l := List.filter_eq_self.2 h
theorem zgM.without {q : PQ} (hq : zgM q) {c : Int} (h0 : 0 ≤ c) (h8 : c < 8) : (zdH q).filter (fun y => y.client != c) = zdH (q.set c.toNat none) := by
 have hl := hq.len
 have hg := hq.get h0 h8
 rw [zlq hg,zqi none (by omega)]
 simp only [List.filter_append,Option.toList_none,List.nil_append]
 rw [zsU (l := zdH (q.take c.toNat)) fun y hy => by have := hq.before hy; simp; omega,zsU (l := zdH (q.drop (c.toNat + 1))) fun y hy => by have := hq.behind hy; simp; omega]
 congr 1
 cases ho : ofF q c with
 | none => rfl
 | some x => simp [hq.client ho]
theorem zgM.place {q : PQ} (hq : zgM q) {c : Int} (h0 : 0 ≤ c) (h8 : c < 8) {k : Nat} (hlo : ∀ y ∈ (zdH (q.set c.toNat none)).take k,y.client < c) (hk : k ≤ (zdH (q.set c.toNat none)).length)
  (hhi : ∀ y,(zdH (q.set c.toNat none))[k]? = some y → ¬ y.client < c) (x : zA) :
  (zdH (q.set c.toNat none)).take k ++ (x :: (zdH (q.set c.toNat none)).drop k) = zdH (q.set c.toNat (some x)) := by
 have hl := hq.len
 have e := zqi (q := q) none (show c.toNat < q.length by omega)
 have e2 := zqi (q := q) (some x) (show c.toNat < q.length by omega)
 simp only [Option.toList_none,List.nil_append,Option.toList_some] at e e2
 obtain ⟨A,hA⟩ : ∃ A,zdH (q.take c.toNat) = A := ⟨_,rfl⟩
 obtain ⟨B,hB⟩ : ∃ B,zdH (q.drop (c.toNat + 1)) = B := ⟨_,rfl⟩
 have hAlt : ∀ y ∈ A,y.client < c := fun y hy => by rw [← hA] at hy; have := hq.before hy; omega
 have hBgt : ∀ y ∈ B,c < y.client := fun y hy => by rw [← hB] at hy; have := hq.behind hy; omega
 rw [hA,hB] at e e2
 rw [e] at hlo hk hhi ⊢
 rw [e2]
 have hkA : k = A.length := by
  rcases Nat.lt_trichotomy k A.length with h | h | h
  ·exact absurd (hAlt A[k] (List.getElem_mem h)) (hhi A[k] (by rw [List.getElem?_append_left h]; simp [h]))
  ·exact h
  ·exfalso
   rw [List.length_append] at hk
   have hb : B[0]? = some (B[0]'(by omega)) := List.getElem?_eq_getElem _
   have hm : B[0]'(by omega) ∈ (A ++ B).take k := by
    refine List.mem_of_getElem? (i := A.length) ?_
    rw [List.getElem?_take,if_pos h,List.getElem?_append_right (Nat.le_refl _),Nat.sub_self]
    exact hb
   have h1 := hlo _ hm
   have h2 := hBgt _ (List.getElem_mem (show 0 < B.length by omega))
   omega
 subst hkA
 simp
def prevC (w : List zA) : Nat → Int
 | 0 => -1
 | k + 1 => match w[k]? with | some x => x.client | none => -1
theorem zgM.push {q : PQ} (hq : zgM q) {x : zA} (hx : zar [x] = 0) (hlt : ∀ y ∈ zdH q,y.client < x.client) : canPut q x = true ∧ zdH (putQ q x) = zdH q ++ [x] := by
 obtain ⟨h0,h8,_⟩ := one_ok hx
 have hl := hq.len
 have hno : ofF q x.client = none := hq.of_none fun y hy => by have := hlt y hy; omega
 have hc : canPut q x = true := by simp [canPut,hx,hno,mayPut]
 refine ⟨hc, ?_⟩
 have hg := hq.get h0 h8
 rw [hno] at hg
 rw [putQ,if_pos hc,zqi _ (by omega),zlq hg]
 have hB : zdH (q.drop (x.client.toNat + 1)) = [] := by
  rw [List.eq_nil_iff_forall_not_mem]
  intro y hy
  have h1 := hq.behind hy
  have h2 := hlt y (by rw [zlq hg]; simp [hy])
  omega
 rw [hB]; simp
theorem zgM.prev {q : PQ} (hq : zgM q) {k : Nat} {x : zA} (hx : (zdH q)[k]? = some x) : prevC (zdH q) k < x.client := by
 have hxm := List.mem_of_getElem? hx
 obtain ⟨i,hi⟩ := zmY hxm
 have hxc := (hq.at_ i x hi).1
 cases k with
 | zero => simp only [prevC]; omega
 | succ k =>
  have hk := (List.getElem?_eq_some_iff.1 hx).1
  have hy : (zdH q)[k]? = some ((zdH q)[k]'(by omega)) := List.getElem?_eq_getElem _
  simp only [prevC,hy]
  -- the list is rising
  have hp : (zdH q).Pairwise fun a b => a.client < b.client := by
   have key : ∀ (l : PQ) (a : Nat),(∀ (i : Nat) x,l[i]? = some (some x) → x.client = ((a + i : Nat) : Int)) → (l.filterMap id).Pairwise fun a b => a.client < b.client := by
    intro l
    induction l with
    | nil => intro a _; simp
    | cons o l ih =>
     intro a h
     have hr := ih (a + 1) fun i x hi => by have := h (i + 1) x (by simpa using hi); rw [this]; congr 1; omega
     cases o with
     | none => simpa using hr
     | some x =>
      simp only [List.filterMap_cons,id_eq,List.pairwise_cons]
      refine ⟨fun y hy => ?_,hr⟩
      obtain ⟨j,hj⟩ := zmY (q := l) hy
      have h1 := h 0 x rfl
      have h2 := h (j + 1) y (by simpa using hj)
      omega
   exact key q 0 fun i x hi => by have := (hq.at_ i x hi).1; simpa using this
  have := List.pairwise_iff_getElem.1 hp k (k + 1) (by omega) hk (by omega)
  obtain ⟨_,rfl⟩ := List.getElem?_eq_some_iff.1 hx
  exact this
end Go.AW

/- A script of what is done to a pool; what holds little has short names, too. No program in sight. -/
namespace Go.AW
def okL (l : List (List zA)) : Prop := l.length ≤ 1048576 ∧ ∀ b ∈ l,okB b ∧ b.length ≤ 1048576
theorem okL.len {l : List (List zA)} (h : okL l) : l.length ≤ 1073741824 ∧ ∀ b ∈ l,b.length ≤ 1073741824 := ⟨by have := h.1; omega,fun b hb => (h.2 b hb).1.1⟩
structure TStep where
 what : Int
 s : zA
 client : Int
 time : Int
 opn : List (List zA)
end Go.AW

/- Requests as data, and how much room they take. No program in sight. -/
namespace Go.AW
def reqD (x : zA) : List D := [.int .i64 x.client, .int .i64 x.time, .int .i64 x.op.kind, .str x.op.topic, .str x.op.group, .int .i64 x.op.offset, .slice (zbR x.op.recs)]
def tyReq : List Ty := [.int .i64, .int .i64, .int .i64, .str, .str, .int .i64, .slice [.slice [.int .u8]]]
abbrev zsd (l : List zA) : List (List D) := l.map reqD
theorem dec_req {ds : List D} (h : zdm tyReq ds) : ∃ s : zA,ds = reqD s ∧ zum s := by
 obtain ⟨d1,ds,rfl,h1,h⟩ := zac h
 obtain ⟨d2,ds,rfl,h2,h⟩ := zac h
 obtain ⟨d3,ds,rfl,h3,h⟩ := zac h
 obtain ⟨d4,ds,rfl,h4,h⟩ := zac h
 obtain ⟨d5,ds,rfl,h5,h⟩ := zac h
 obtain ⟨d6,ds,rfl,h6,h⟩ := zac h
 obtain ⟨d7,ds,rfl,h7,h⟩ := zac h
 obtain rfl := zfK h
 obtain ⟨a1,rfl,r1⟩ := zcc h1
 obtain ⟨a2,rfl,r2⟩ := zcc h2
 obtain ⟨a3,rfl,r3⟩ := zcc h3
 obtain ⟨a4,rfl⟩ := zpc h4
 obtain ⟨a5,rfl⟩ := zpc h5
 obtain ⟨a6,rfl,r6⟩ := zcc h6
 obtain ⟨a7,rfl⟩ := dec_recs h7
 exact ⟨⟨a1,a2,⟨a3,a4,a5,a6,a7⟩, 0, 0⟩,rfl,r1,r2,⟨r3,r6⟩,by simp [zmK],by simp [zmK]⟩
theorem reqD_sz {x : zA} {n : Nat} (h : zdf (reqD x) ≤ n) (hn : n ≤ 2097152) : zkq x.op ≤ 20971520 := by
 have := opSz_bulk x.op
 simp only [reqD,opD,zdf,zfE] at h this
 omega
theorem reqs_sz {b : List zA} {n : Nat} (h : zdO (zsd b) ≤ n) (hn : n ≤ 2097152) : (∀ s ∈ b,zkq s.op ≤ 20971520) ∧ b.length ≤ 2097152 := by
 unfold zsd at h
 exact ⟨fun s hs => reqD_sz (Nat.le_trans (ziS (f := reqD) hs) h) hn,Nat.le_trans (zeL (f := reqD) (fun a => by simp only [reqD,zdf,zfE]; omega) b) (by omega)⟩
theorem dec_reqs {d : D} (h : zhx (.slice tyReq) d) : ∃ b,d = .slice (zsd b) ∧ ∀ x ∈ b,zum x := zlF h fun e he => dec_req he
theorem dec_batchR {d : D} (h : zhx (.slice zuh) d) : ∃ b,d = .slice (zfV b) ∧ ∀ x ∈ b,zum x := zlF h fun e he => dec_signed he
end Go.AW

/- Batches are sealed one after the other; what tables and ledgers hold. -/
set_option maxRecDepth 100000
namespace Go.Proofs.YtncpaekiidpchaaGreat
open Go.AW
def seR (s : List (List UInt8) × List zae × List zA) (r : zA) : List (List UInt8) × List zae × List zA :=
 (sealL s.1 r,sealG s.1 s.2.1 r,if zou s.1 r = 0 then s.2.2 ++ [zsc s.1 r] else s.2.2)
structure SeI (n m : Nat) (s : List (List UInt8) × List zae × List zA) : Prop where
 tab : zjY s.1
 led : s.2.1.length ≤ n
 sz : ∀ x ∈ s.2.2,zkq x.op ≤ 20971520
 len : s.2.2.length ≤ m
theorem seI {n m : Nat} {s : List (List UInt8) × List zae × List zA} {r : zA} (h : SeI n m s) (hr : zkq r.op ≤ 20971520) : SeI (n + 1) (m + 1) (seR s r) := by
 obtain ⟨L,G,b⟩ := s
 obtain ⟨h1,h2,h3,h4⟩ := h
 simp only at h1 h2 h3 h4
 refine ⟨?_, ?_, ?_, ?_⟩
 ·simp only [seR,sealL]
  split
  ·exact h1
  ·rename_i hc
   have := zql (x := r) (by omega) (by simpa using hc)
   exact h1.sum (by omega)
 ·simp only [seR,sealG,zgD,zsb]
  split
  ·omega
  ·split
   ·split
    ·omega
    ·simp; omega
   ·omega
 ·simp only [seR]
  split
  ·rename_i he
   intro x hx
   rcases List.mem_append.1 hx with hx | hx
   ·exact h3 x hx
   ·simp only [List.mem_singleton] at hx
    subst hx
    rw [zsc,if_pos he]
    exact hr
  ·exact h3
 ·simp only [seR]
  split
  ·simp; omega
  ·omega
theorem foldSe {n m : Nat} {s : List (List UInt8) × List zae × List zA} (h : SeI n m s) {l : List zA} (hl : ∀ x ∈ l,zkq x.op ≤ 20971520) : SeI (n + l.length) (m + l.length) (l.foldl seR s) := by
 induction l generalizing n m s with
 | nil => exact h
 | cons x l ih =>
  have := ih (seI h (hl x (by simp))) fun y hy => hl y (by simp [hy])
  simp only [List.foldl_cons,List.length_cons]
  rwa [show n + (l.length + 1) = n + 1 + l.length by omega,show m + (l.length + 1) = m + 1 + l.length by omega]
theorem zep {α β : Type} {f : β → α → β} {s : β} {l : List α} {k : Nat} {x : α} (h : l[k]? = some x) : (l.take (k + 1)).foldl f s = f ((l.take k).foldl f s) x := by
 rw [List.take_add_one,h,List.foldl_append]; rfl
theorem tab_dig {L : List (List UInt8)} (h : zjY L) {l : List zA} (hx : ∀ s ∈ l,zkq s.op ≤ 20971520) : zjY (ztu L l) := by
 unfold ztu
 split
 ·exact h
 ·rename_i hc
  have := zml hx
  rw [zeD,if_pos (by simpa using hc)] at this
  exact h.sum (by omega)
theorem zuk {l : List (List UInt8)} {k : Nat} {x : List UInt8} (hn : l.Nodup) (hl0 : l.length ≤ 1048576) (hx : l[k]? = some x) : zfk (l.take k) x = l.take (k + 1) := by
 have hk := (List.getElem?_eq_some_iff.1 hx).1
 have hnot : x ∉ l.take k := fun hm => by
  obtain ⟨i,hi,he⟩ := List.mem_take_iff_getElem.1 hm
  have := (List.getElem_inj hn).1 (he.trans (List.getElem?_eq_some_iff.1 hx).2.symm)
  omega
 have hno := zsG hnot
 have h1 : (l.take k).length = k := by rw [List.length_take]; omega
 rw [zfk,hno]
 simp only [h1]
 rw [if_neg (by omega),List.take_add_one,hx]; rfl
structure LedI (G : List zae) : Prop where
 nd : G.Nodup
 ok : ∀ g ∈ G,zeR g.key g.dig = 0
theorem LedI.sign {G : List zae} (h : LedI G) (k d : Int) : LedI (zgD G k d) := by
 unfold zgD
 split
 ·rename_i hs
  unfold zsb
  split
  ·exact h
  ·rename_i hn
   refine ⟨?_,fun g hg => ?_⟩
   ·rw [List.nodup_append]
    refine ⟨h.nd,by simp,fun a ha b hb e => ?_⟩
    simp only [List.mem_singleton] at hb
    subst e hb
    exact hn ha
   ·rcases List.mem_append.1 hg with hg | hg
    ·exact h.ok g hg
    ·simp only [List.mem_singleton] at hg
     subst hg; exact hs
 ·exact h
theorem sign_take {l : List zae} {k : Nat} {x : zae} (h : LedI l) (hx : l[k]? = some x) : zgD (l.take k) x.key x.dig = l.take (k + 1) := by
 have hk := (List.getElem?_eq_some_iff.1 hx).1
 have hnot : x ∉ l.take k := fun hm => by
  obtain ⟨i,hi,he⟩ := List.mem_take_iff_getElem.1 hm
  have := (List.getElem_inj h.nd).1 (he.trans (List.getElem?_eq_some_iff.1 hx).2.symm)
  omega
 rw [zgD,if_pos (h.ok x (List.mem_of_getElem? hx)),zsb,if_neg hnot,List.take_add_one,hx]; rfl
end Go.Proofs.YtncpaekiidpchaaGreat

/- Sets of brokers as numbers. No program in sight. -/
namespace Go.AW
def inF (s : Nat) (b : Int) : Bool := decide (0 ≤ b ∧ b < 13 ∧ s / 2 ^ b.toNat % 2 = 1)
def ofN (l : List Int) : Nat → Nat
 | 0 => 0
 | k + 1 => ofN l k + if (k : Int) ∈ l then 2 ^ k else 0
theorem ofN_lt (l : List Int) : ∀ k,ofN l k < 2 ^ k
 | 0 => by simp [ofN]
 | k + 1 => by
  have := ofN_lt l k
  simp only [ofN,Nat.pow_succ]
  split <;> omega
def memN (s : Nat) (k : Nat) : List Int := ((List.range k).map Int.ofNat).filter (inF s)
def memF (s : Nat) : List Int := memN s 13
theorem memN_next (s k : Nat) : memN s (k + 1) = memN s k ++ if inF s (k : Int) = true then [(k : Int)] else [] := by
 simp only [memN,List.range_succ,List.map_append,List.filter_append,List.map_cons,List.map_nil]
 congr 1
 show List.filter (inF s) [(k : Int)] = _
 rw [List.filter_cons]
 split <;> rfl
theorem zlD (s k : Nat) : (memN s k).length ≤ k := by
 have := List.length_filter_le (inF s) ((List.range k).map Int.ofNat)
 simpa [memN] using this
def zqx (n : Nat) : List Int := (List.range n).map Int.ofNat
theorem zss (n : Nat) : zqx (n + 1) = zqx n ++ [(n : Int)] := by
 simp [zqx,List.range_succ]
def zrC (a b : Nat) (k : Nat) : List Int := (zqx k).filter fun i => inF a i && inF b i
def bothF (a b : Nat) : Nat := ofN (zrC a b 13) 13
def allF (n : Nat) : Nat := ofN (zqx n) 13
theorem bothL_next (a b k : Nat) : zrC a b (k + 1) = zrC a b k ++ if (inF a (k : Int) && inF b (k : Int)) = true then [(k : Int)] else [] := by
 simp only [zrC,zss,List.filter_append]
 congr 1
 rw [List.filter_cons]
 split <;> rfl
theorem bothL_len (a b k : Nat) : (zrC a b k).length ≤ k := by
 have := List.length_filter_le (fun i => inF a i && inF b i) (zqx k)
 simpa [zrC,zqx] using this
theorem ofN_small (l : List Int) : ofN l 13 < 8192 := ofN_lt l 13
theorem ztG (a b : Nat) : bothF a b < 65536 := by have := ofN_small (zrC a b 13); unfold bothF; omega
theorem all_small (n : Nat) : allF n < 65536 := by have := ofN_small (zqx n); unfold allF; omega
end Go.AW
