/- What holds little has short lists. No program in sight. -/
import Derived.Test.YtfgbofkdhfjegaaGreatCl1
import Derived.Test.YtfgbofkdhfjegaaGreatCk1
import Derived.Test.YtfgbofkdhfjegaaGreatSpUtf
import Derived.Test.YtfgbofkdhfjegaaGreatRq5
import Derived.Test.YtfgbofkdhfjegaaGreatQu1
import Derived.Test.YtfgbofkdhfjegaaGreatMk2
set_option linter.all false
namespace Go.AW
theorem zdY {α : Type} {f : α → List D} (h : ∀ a, 1 ≤ zcZ (f a)) : ∀ (l : List α),l.length ≤ zdA (l.map f)
 | [] => Nat.zero_le _
 | a :: l => by have := h a; have := zdY h l; simp only [List.map_cons,List.length_cons,zdA]; omega
theorem zfU {α : Type} {f : α → List D} {a : α} : ∀ {l : List α},a ∈ l → zcZ (f a) ≤ zdA (l.map f)
 | b :: l,h => by
  simp only [List.map_cons,zdA]
  rcases List.mem_cons.1 h with rfl | h
  ·omega
  ·have := zfU (f := f) h; omega
theorem zue (rs : List (List UInt8)) : rs.length ≤ zdA (zbZ rs) ∧ ∀ r ∈ rs,r.length ≤ zdA (zbZ rs) := by
 refine ⟨zdY (f := fun r => [D.slice (bcs r)]) (fun r => by simp only [zcZ,zgt]; omega) rs,fun r hr => ?_⟩
 have := zfU (f := fun r => [D.slice (bcs r)]) hr
 simp only [zcZ,zgt,zwC] at this
 unfold zbZ
 omega
def leB (n : Nat) (b : List zq) : Prop := b.length ≤ n ∧ ∀ x ∈ b,x.op.recs.length ≤ n ∧ ∀ r ∈ x.op.recs,r.length ≤ n
theorem leB_bulk {b : List zq} {n : Nat} (h : zdA (zdi b) ≤ n) : leB n b := by
 unfold zdi at h
 refine ⟨Nat.le_trans (zdY (f := zcl) (fun a => by simp only [zcl,zcZ,zgt]; omega) b) h,fun x hx => ?_⟩
 have := zfU (f := zcl) hx
 simp only [zcl,zcZ,zgt] at this
 have h2 := zue x.op.recs
 refine ⟨by omega,fun r hr => ?_⟩
 have := h2.2 r hr
 omega
theorem signs_bulk (l : List zI) : l.length ≤ zdA (zbd l) := zdY (f := zil) (fun a => by simp only [zil,zcZ,zgt]; omega) l
theorem zmP {q : PQ} {n : Nat} {o : Option zq} (h : q[n]? = some o) : zei q = zei (q.take n) ++ (o.toList ++ zei (q.drop (n + 1))) := by
 obtain ⟨hn,rfl⟩ := List.getElem?_eq_some_iff.1 h
 have e : q = q.take n ++ q[n] :: q.drop (n + 1) := by rw [List.getElem_cons_drop]; exact (List.take_append_drop n q).symm
 conv => lhs; rw [e]
 simp only [zei,List.filterMap_append,List.filterMap_cons,id_eq]
 cases q[n] <;> rfl
theorem zrG {q : PQ} {n : Nat} (o : Option zq) (h : n < q.length) : zei (q.set n o) = zei (q.take n) ++ (o.toList ++ zei (q.drop (n + 1))) := by
 have := zmP (q := q.set n o) (n := n) (o := o) (by simp [h])
 rwa [List.take_set_of_le (Nat.le_refl _),List.drop_set_of_lt (by omega)] at this
theorem zic.before {q : PQ} (hq : zic q) {n : Nat} {y : zq} (h : y ∈ zei (q.take n)) : y.client < n := by
 obtain ⟨i,hi⟩ := zoK h
 rw [List.getElem?_take] at hi
 split at hi
 ·have := (hq.at_ i y hi).1; omega
 ·cases hi
theorem zic.behind {q : PQ} (hq : zic q) {n : Nat} {y : zq} (h : y ∈ zei (q.drop (n + 1))) : (n : Int) < y.client := by
 obtain ⟨i,hi⟩ := zoK h
 rw [List.getElem?_drop] at hi
 have := (hq.at_ _ y hi).1; omega
theorem of_wait {q : PQ} {c : Int} {x : zq} (h : ofF q c = some x) : x ∈ zei q := by
 obtain ⟨_,_,h⟩ := ofF_some h
 simp only [zei,List.mem_filterMap,id_eq,exists_eq_right]
 exact List.mem_of_getElem? h
theorem zic.client {q : PQ} (hq : zic q) {c : Int} {x : zq} (h : ofF q c = some x) : x.client = c := by
 obtain ⟨h0,h8,hg⟩ := ofF_some h
 have := (hq.at_ _ x hg).1; omega
theorem zic.of_none {q : PQ} (hq : zic q) {c : Int} (h : ∀ y ∈ zei q,y.client ≠ c) : ofF q c = none := by
 cases ho : ofF q c with
 | none => rfl
 | some x => exact absurd (hq.client ho) (h x (of_wait ho))
theorem zuP {α : Type} {l : List α} {p : α → Bool} (h : ∀ x ∈ l,p x = true) : l.filter p = l := List.filter_eq_self.2 h
theorem zic.without {q : PQ} (hq : zic q) {c : Int} (h0 : 0 ≤ c) (h8 : c < 8) : (zei q).filter (fun y => y.client != c) = zei (q.set c.toNat none) := by
 have hl := hq.len
 have hg := hq.get h0 h8
 rw [zmP hg,zrG none (by omega)]
 simp only [List.filter_append,Option.toList_none,List.nil_append]
 rw [zuP (l := zei (q.take c.toNat)) fun y hy => by have := hq.before hy; simp; omega,zuP (l := zei (q.drop (c.toNat + 1))) fun y hy => by have := hq.behind hy; simp; omega]
 congr 1
 cases ho : ofF q c with
 | none => rfl
 | some x => simp [hq.client ho]
theorem zic.place {q : PQ} (hq : zic q) {c : Int} (h0 : 0 ≤ c) (h8 : c < 8) {k : Nat} (hlo : ∀ y ∈ (zei (q.set c.toNat none)).take k,y.client < c) (hk : k ≤ (zei (q.set c.toNat none)).length)
  (hhi : ∀ y,(zei (q.set c.toNat none))[k]? = some y → ¬ y.client < c) (x : zq) :
  (zei (q.set c.toNat none)).take k ++ (x :: (zei (q.set c.toNat none)).drop k) = zei (q.set c.toNat (some x)) := by
 have hl := hq.len
 have e := zrG (q := q) none (show c.toNat < q.length by omega)
 have e2 := zrG (q := q) (some x) (show c.toNat < q.length by omega)
 simp only [Option.toList_none,List.nil_append,Option.toList_some] at e e2
 obtain ⟨A,hA⟩ : ∃ A,zei (q.take c.toNat) = A := ⟨_,rfl⟩
 obtain ⟨B,hB⟩ : ∃ B,zei (q.drop (c.toNat + 1)) = B := ⟨_,rfl⟩
 have hAlt : ∀ y ∈ A,y.client < c := fun y hy => by rw [← hA] at hy; have := hq.before hy; omega
 have hBgt : ∀ y ∈ B,c < y.client := fun y hy => by rw [← hB] at hy; have := hq.behind hy; omega
 rw [hA,hB] at e e2
 rw [e] at hlo hk hhi ⊢
 rw [e2]
 have hkA : k = A.length := by
  rcases Nat.lt_trichotomy k A.length with h | h | h
  ·exact absurd (hAlt A[k] (List.getElem_mem h)) (hhi A[k] (by rw [List.getElem?_append_left h]; simp [h]))
  ·exact h
  ·exfalso
   rw [List.length_append] at hk
   have hb : B[0]? = some (B[0]'(by omega)) := List.getElem?_eq_getElem _
   have hm : B[0]'(by omega) ∈ (A ++ B).take k := by
    refine List.mem_of_getElem? (i := A.length) ?_
    rw [List.getElem?_take,if_pos h,List.getElem?_append_right (Nat.le_refl _),Nat.sub_self]
    exact hb
   have h1 := hlo _ hm
   have h2 := hBgt _ (List.getElem_mem (show 0 < B.length by omega))
   omega
 subst hkA
 simp
def prevC (w : List zq) : Nat → Int
 | 0 => -1
 | k + 1 => match w[k]? with | some x => x.client | none => -1
theorem zic.push {q : PQ} (hq : zic q) {x : zq} (hx : zV [x] = 0) (hlt : ∀ y ∈ zei q,y.client < x.client) : canPut q x = true ∧ zei (putQ q x) = zei q ++ [x] := by
 obtain ⟨h0,h8,_⟩ := one_ok hx
 have hl := hq.len
 have hno : ofF q x.client = none := hq.of_none fun y hy => by have := hlt y hy; omega
 have hc : canPut q x = true := by simp [canPut,hx,hno,mayPut]
 refine ⟨hc, ?_⟩
 have hg := hq.get h0 h8
 rw [hno] at hg
 rw [putQ,if_pos hc,zrG _ (by omega),zmP hg]
 have hB : zei (q.drop (x.client.toNat + 1)) = [] := by
  rw [List.eq_nil_iff_forall_not_mem]
  intro y hy
  have h1 := hq.behind hy
  have h2 := hlt y (by rw [zmP hg]; simp [hy])
  omega
 rw [hB]; simp
theorem zic.prev {q : PQ} (hq : zic q) {k : Nat} {x : zq} (hx : (zei q)[k]? = some x) : prevC (zei q) k < x.client := by
 have hxm := List.mem_of_getElem? hx
 obtain ⟨i,hi⟩ := zoK hxm
 have hxc := (hq.at_ i x hi).1
 cases k with
 | zero => simp only [prevC]; omega
 | succ k =>
  have hk := (List.getElem?_eq_some_iff.1 hx).1
  have hy : (zei q)[k]? = some ((zei q)[k]'(by omega)) := List.getElem?_eq_getElem _
  simp only [prevC,hy]
  -- the list is rising
  have hp : (zei q).Pairwise fun a b => a.client < b.client := by
   have key : ∀ (l : PQ) (a : Nat),(∀ (i : Nat) x,l[i]? = some (some x) → x.client = ((a + i : Nat) : Int)) → (l.filterMap id).Pairwise fun a b => a.client < b.client := by
    intro l
    induction l with
    | nil => intro a _; simp
    | cons o l ih =>
     intro a h
     have hr := ih (a + 1) fun i x hi => by have := h (i + 1) x (by simpa using hi); rw [this]; congr 1; omega
     cases o with
     | none => simpa using hr
     | some x =>
      simp only [List.filterMap_cons,id_eq,List.pairwise_cons]
      refine ⟨fun y hy => ?_,hr⟩
      obtain ⟨j,hj⟩ := zoK (q := l) hy
      have h1 := h 0 x rfl
      have h2 := h (j + 1) y (by simpa using hj)
      omega
   exact key q 0 fun i x hi => by have := (hq.at_ i x hi).1; simpa using this
  have := List.pairwise_iff_getElem.1 hp k (k + 1) (by omega) hk (by omega)
  obtain ⟨_,rfl⟩ := List.getElem?_eq_some_iff.1 hx
  exact this
theorem okB_bulk {b : List zq} {n : Nat} (h : zdA (zdi b) ≤ n) (hn : n ≤ 1048576) : okB b := by
 obtain ⟨h1,h2⟩ := leB_bulk h
 refine ⟨by omega,fun x hx => ?_⟩
 obtain ⟨h3,h4⟩ := h2 x hx
 unfold zdi at h
 have := zfU (f := zcl) hx
 simp only [zcl,zcZ,zgt] at this
 exact ⟨by omega,by omega,by omega,fun r hr => by have := h4 r hr; omega⟩
structure TStep where
 what : Int
 s : zq
 client : Int
 time : Int
 opn : List (List zq)
end Go.AW

/- Batches are sealed one after the other; what tables and ledgers hold. -/
set_option maxRecDepth 100000
namespace Go.Proofs.YtfgbofkdhfjegaaGreat
open Go.AW
def seR (s : List (List UInt8) × List zI × List zq) (r : zq) : List (List UInt8) × List zI × List zq :=
 (zpW s.1 r,zsg s.1 s.2.1 r,if ztN s.1 r = 0 then s.2.2 ++ [zlW s.1 r] else s.2.2)
structure SeI (n m : Nat) (s : List (List UInt8) × List zI × List zq) : Prop where
 tab : zlT s.1
 led : s.2.1.length ≤ n
 sz : ∀ x ∈ s.2.2,zkF x.op ≤ 20971520
 len : s.2.2.length ≤ m
theorem seI {n m : Nat} {s : List (List UInt8) × List zI × List zq} {r : zq} (h : SeI n m s) (hr : zkF r.op ≤ 20971520) : SeI (n + 1) (m + 1) (seR s r) := by
 obtain ⟨L,G,b⟩ := s
 obtain ⟨h1,h2,h3,h4⟩ := h
 simp only at h1 h2 h3 h4
 refine ⟨?_, ?_, ?_, ?_⟩
 ·simp only [seR,zpW]
  split
  ·exact h1
  ·rename_i hc
   have := zrJ (x := r) (by omega) (by simpa using hc)
   exact h1.sum (by omega)
 ·simp only [seR,zsg,zfW,zlJ]
  split
  ·omega
  ·split
   ·split
    ·omega
    ·simp; omega
   ·omega
 ·simp only [seR]
  split
  ·rename_i he
   intro x hx
   rcases List.mem_append.1 hx with hx | hx
   ·exact h3 x hx
   ·simp only [List.mem_singleton] at hx
    subst hx
    rw [zlW,if_pos he]
    exact hr
  ·exact h3
 ·simp only [seR]
  split
  ·simp; omega
  ·omega
theorem zsH {α β : Type} {f : β → α → β} {s : β} {l : List α} {k : Nat} {x : α} (h : l[k]? = some x) : (l.take (k + 1)).foldl f s = f ((l.take k).foldl f s) x := by
 rw [List.take_add_one,h,List.foldl_append]; rfl
theorem tab_dig {L : List (List UInt8)} (h : zlT L) {l : List zq} (hx : ∀ s ∈ l,zkF s.op ≤ 20971520) : zlT (zlk L l) := by
 unfold zlk
 split
 ·exact h
 ·rename_i hc
  have := znG hx
  rw [zfA,if_pos (by simpa using hc)] at this
  exact h.sum (by omega)
theorem zvB {l : List (List UInt8)} {k : Nat} {x : List UInt8} (hn : l.Nodup) (hl0 : l.length ≤ 1048576) (hx : l[k]? = some x) : zeI (l.take k) x = l.take (k + 1) := by
 have hk := (List.getElem?_eq_some_iff.1 hx).1
 have hnot : x ∉ l.take k := fun hm => by
  obtain ⟨i,hi,he⟩ := List.mem_take_iff_getElem.1 hm
  have := (List.getElem_inj hn).1 (he.trans (List.getElem?_eq_some_iff.1 hx).2.symm)
  omega
 have hno := zuA hnot
 have h1 : (l.take k).length = k := by rw [List.length_take]; omega
 rw [zeI,hno]
 simp only [h1]
 rw [if_neg (by omega),List.take_add_one,hx]; rfl
structure LedI (G : List zI) : Prop where
 nd : G.Nodup
 ok : ∀ g ∈ G,zeh g.key g.dig = 0
theorem LedI.sign {G : List zI} (h : LedI G) (k d : Int) : LedI (zfW G k d) := by
 unfold zfW
 split
 ·rename_i hs
  unfold zlJ
  split
  ·exact h
  ·rename_i hn
   refine ⟨?_,fun g hg => ?_⟩
   ·rw [List.nodup_append]
    refine ⟨h.nd,by simp,fun a ha b hb e => ?_⟩
    simp only [List.mem_singleton] at hb
    subst e hb
    exact hn ha
   ·rcases List.mem_append.1 hg with hg | hg
    ·exact h.ok g hg
    ·simp only [List.mem_singleton] at hg
     subst hg; exact hs
 ·exact h
theorem sign_take {l : List zI} {k : Nat} {x : zI} (h : LedI l) (hx : l[k]? = some x) : zfW (l.take k) x.key x.dig = l.take (k + 1) := by
 have hk := (List.getElem?_eq_some_iff.1 hx).1
 have hnot : x ∉ l.take k := fun hm => by
  obtain ⟨i,hi,he⟩ := List.mem_take_iff_getElem.1 hm
  have := (List.getElem_inj h.nd).1 (he.trans (List.getElem?_eq_some_iff.1 hx).2.symm)
  omega
 rw [zfW,if_pos (h.ok x (List.mem_of_getElem? hx)),zlJ,if_neg hnot,List.take_add_one,hx]; rfl
end Go.Proofs.YtfgbofkdhfjegaaGreat

/- Sets of brokers as numbers. No program in sight. -/
namespace Go.AW
def inF (s : Nat) (b : Int) : Bool := decide (0 ≤ b ∧ b < 13 ∧ s / 2 ^ b.toNat % 2 = 1)
def ofN (l : List Int) : Nat → Nat
 | 0 => 0
 | k + 1 => ofN l k + if (k : Int) ∈ l then 2 ^ k else 0
theorem ofN_lt (l : List Int) : ∀ k,ofN l k < 2 ^ k
 | 0 => by simp [ofN]
 | k + 1 => by
  have := ofN_lt l k
  simp only [ofN,Nat.pow_succ]
  split <;> omega
theorem inF_range {s : Nat} {b : Int} (h : inF s b = true) : 0 ≤ b ∧ b < 13 := by
 simp [inF] at h; omega
def memN (s : Nat) (k : Nat) : List Int := ((List.range k).map Int.ofNat).filter (inF s)
def memF (s : Nat) : List Int := memN s 13
theorem memN_next (s k : Nat) : memN s (k + 1) = memN s k ++ if inF s (k : Int) = true then [(k : Int)] else [] := by
 simp only [memN,List.range_succ,List.map_append,List.filter_append,List.map_cons,List.map_nil]
 congr 1
 show List.filter (inF s) [(k : Int)] = _
 rw [List.filter_cons]
 split <;> rfl
theorem zvO (s k : Nat) : (memN s k).length ≤ k := by
 have := List.length_filter_le (inF s) ((List.range k).map Int.ofNat)
 simpa [memN] using this
def zrU (n : Nat) : List Int := (List.range n).map Int.ofNat
theorem zui (n : Nat) : zrU (n + 1) = zrU n ++ [(n : Int)] := by
 simp [zrU,List.range_succ]
def ztj (a b : Nat) (k : Nat) : List Int := (zrU k).filter fun i => inF a i && inF b i
def bothF (a b : Nat) : Nat := ofN (ztj a b 13) 13
def allF (n : Nat) : Nat := ofN (zrU n) 13
theorem bothL_next (a b k : Nat) : ztj a b (k + 1) = ztj a b k ++ if (inF a (k : Int) && inF b (k : Int)) = true then [(k : Int)] else [] := by
 simp only [ztj,zui,List.filter_append]
 congr 1
 rw [List.filter_cons]
 split <;> rfl
theorem bothL_len (a b k : Nat) : (ztj a b k).length ≤ k := by
 have := List.length_filter_le (fun i => inF a i && inF b i) (zrU k)
 simpa [ztj,zrU] using this
theorem ofN_small (l : List Int) : ofN l 13 < 8192 := ofN_lt l 13
theorem both_small (a b : Nat) : bothF a b < 65536 := by have := ofN_small (ztj a b 13); unfold bothF; omega
theorem all_small (n : Nat) : allF n < 65536 := by have := ofN_small (zrU n); unfold allF; omega
end Go.AW

/- Contracts: sets of brokers, the document's, to the last bit. -/
set_option maxRecDepth 100000
namespace Go.Proofs.YtfgbofkdhfjegaaGreat
open Go.AW
theorem wk13 (k : Nat) (h : k ≤ 1073741824) : IntKind.i64.wrap ((k : Int) + 1) = ((k + 1 : Nat) : Int) := by rw [zac (by omega) (by omega)]; rfl
theorem zuJ {A P Q : Prop} (a : A) (h : Q) (e : A → Hd Q → P := by intro a h; (repeat' first | simp -dsimp only [↓zfT, ↓zaI, ↓zbP, ↓zfV, ↓zfN, ↓zfL, ↓zfO, ↓zfM, ↓zbU, ↓zbQ, ↓zbV, ↓zbR, ↓zfP, ↓zbN, ↓zbW, ↓zbS, ↓zbX, ↓zbT, ↓zfK, ↓zfQ, ↓zbM, ↓zbY, ↓zfF, ↓zfE, ↓zfH,iN,bT,bF,eN, ↓zcJ, ↓unC, ↓zaa, ↓zK, ↓zL, ↓zO, ↓zaf, ↓zaz, ↓zcK, ↓zar, ↓zbk, ↓zR, ↓zo, ↓zj, ↓zbz, ↓zg, ↓zam, ↓zH, ↓zaV, ↓zbc, ↓ze, ↓zB, ↓zu, ↓zC, ↓zap, ↓zdk, ↓zdO, ↓zav, ↓zaF, ↓zaZ, ↓zbj, ↓zbt, ↓zA, ↓zas, ↓zM, ↓zF, ↓zae,zdP,zbI,zbC,unA,zdL,bnd,zeq,zag,zQ,zek,dm,dm1,zD,zak,zeP,zeO,zP,Q0,Q1,Q2,Q3,Q4,Q5,zW,zt,zy,zN,zJ,Q6,Q7,Q8,Q9,Q10,Q11,Q12,Q13,Q14,Nat.reduceAdd,Q15,Int.reduceToNat,Q16,Q17,Q18,Q19,Q20,reduceIte,Q21,Q22,zG,rep,zab,zfq,toD,zaq,Q23,Q24,Q25,Q26,Q27,Q28,Nat.reduceLeDiff,Q29,Nat.reduceSub,Q30,Q31,Q32,sc,Q33,Q34,Q35,Q36,Q37,Q26,Q38,Q39,zjD,zjA,zjx,zjE,zdf,zjB,zjy,zjC,zjz,zde,zdg,zjG,zjH,Bool.not_true,Bool.not_false,List.length_map,a] | with_reducible refine zjK ?_ | fail); exact h.go) : P := e a ⟨h⟩
theorem c_rIn {σ : List zh} {s : Nat} {b : Int} (hs : s < 65536) {K : KT} (hK : K (.d (.bool (inF s b))) σ) : zp Tryz.prog zmd [.d (.int .u16 s), .d (.int .i64 b)] σ K := by
 refine zfY e_r12_Has fun hl => ?_
 have fin : ∀ z : Bool,inF s b = z → K (.d (.bool z)) σ := fun z hz => by rw [← hz]; exact hK
 clear hK
 simp only [S_r12_Has,iN,bT,bF,eN]
 refine zr 13 (fun k vs q => q = σ ∧ vs = [.d (.int .u16 (s / 2 ^ k : Nat)), .d (.int .i64 k)] ∧ ¬ (0 ≤ b ∧ b < k ∧ s / 2 ^ b.toNat % 2 = 1)) ⟨rfl,by simp,by omega⟩ ?_
 rintro k vs q hk ⟨rfl,rfl,hno⟩
 have hle : s / 2 ^ k ≤ s := Nat.div_le_self _ _
 have hz1 : s / 2 ^ (k + 1) = s / 2 ^ k / 2 := by rw [Nat.pow_succ, ← Nat.div_div_eq_div_mul]
 have hbit : b = (k : Int) → s / 2 ^ b.toNat = s / 2 ^ k := fun h => by rw [h]; rfl
 obtain ⟨z,hz⟩ : ∃ z,s / 2 ^ k = z := ⟨_,rfl⟩
 rw [hz] at hle hz1 hbit ⊢
 by_cases hlt : k < 13
 ·have hd : decide ((k : Int) < 13) = true := by simp; omega
  have hw := wk13 k (by omega)
  have hrem : (z : Int).tmod 2 = ((z % 2 : Nat) : Int) := by rw [Int.tmod_eq_emod_of_nonneg (by omega)]; rfl
  have hquo : IntKind.u16.wrap ((z : Int).tdiv 2) = ((z / 2 : Nat) : Int) := by
   rw [Int.tdiv_eq_ediv_of_nonneg (by omega),show (z : Int) / 2 = ((z / 2 : Nat) : Int) from rfl]
   simp [IntKind.wrap,IntKind.bits,IntKind.signed]
   omega
  cases h1 : ((k : Int) == b)
  ·refine zuJ (zlM hd (zlM h1 (zlM hrem (zlM hquo hw)))) ?_
   refine zaG.next hlt ⟨rfl,by rw [hz1], ?_⟩
   have : ¬ (k : Int) = b := by simpa using h1
   rintro ⟨g1,g2,g3⟩
   exact hno ⟨g1,by omega,g3⟩
  ·have hb : (k : Int) = b := by simpa using h1
   have hbt : b.toNat = k := by omega
   cases h2 : (((z % 2 : Nat) : Int) == 1)
   ·have h2' : ¬ z % 2 = 1 := by simp at h2; omega
    refine zuJ (zlM hd (zlM h1 (zlM h2 (zlM hrem (zlM hquo hw))))) ?_
    refine zaG.next hlt ⟨rfl,by rw [hz1], ?_⟩
    rintro ⟨g1,g2,g3⟩
    rw [hbit hb.symm] at g3
    exact h2' g3
   ·have h2' : z % 2 = 1 := by simp at h2; omega
    refine zuJ (zlM hd (zlM h1 (zlM h2 (zlM hrem (zlM hquo hw))))) ?_
    refine zT hl ?_
    exact fin _ (decide_eq_true ⟨by omega,by omega,by rw [hbit hb.symm]; exact h2'⟩)
 ·have hd : decide ((k : Int) < 13) = false := by simp; omega
  refine zuJ hd ?_
  refine zT hl ?_
  exact fin _ (decide_eq_false fun h => hno ⟨h.1,by omega,h.2.2⟩)
theorem c_rList {σ : List zh} {s : Nat} (hs : s < 65536) {K : KT} (hK : K (.d (.slice (zdK (memF s)))) σ) : zp Tryz.prog zpZ [.d (.int .u16 s)] σ K := by
 refine zeW e_r12_List fun hl => ?_
 simp only [zvj,iN,bT,bF,eN]
 refine zcu 13 (fun k vs q => vs = [.own σ.length (zdK (memN s k)), .d (.int .i64 k)] ∧ q = σ ++ [.tok 1 (memN s k).length]) (.tok 0 [] 1 rfl (by simp) (.refl _ _)) ⟨rfl,rfl⟩ ?_
 rintro k vs q hk ⟨rfl,rfl⟩
 have hln := zvO s k
 have hlm : (zdK (memN s k)).length = (memN s k).length := List.length_map ..
 by_cases hlt : k < 13
 ·have hd : decide ((k : Int) < 13) = true := by simp; omega
  have hw := wk13 k (by omega)
  refine zuJ hd ?_
  refine c_rIn hs ?_
  have hnx := memN_next s k
  cases h1 : inF s (k : Int)
  ·rw [h1] at hnx
   simp only [Bool.false_eq_true,if_false,List.append_nil] at hnx
   refine zuJ hw ?_
   exact zaG.next hlt ⟨by rw [hnx],by rw [hnx]⟩
  ·rw [h1,if_pos rfl] at hnx
   refine zuJ (zlM hw hlm) ?_
   exact zaG.next hlt ⟨by rw [hnx]; simp,by rw [hnx]; simp⟩
 ·have hd : decide ((k : Int) < 13) = false := by simp; omega
  have hk13 : k = 13 := by omega
  subst hk13
  refine zuJ hd ?_
  refine zT hl ?_
  exact hK
theorem wrap16u {x : Int} (h0 : 0 ≤ x) (h1 : x < 65536) : IntKind.u16.wrap x = x := by
 simp [IntKind.wrap,IntKind.bits,IntKind.signed]; omega
theorem c_rSetOf {σ : List zh} {l : List Int} (hl0 : l.length ≤ 1073741824) {K : KT} (hK : K (.d (.int .u16 (ofN l 13))) σ) : zp Tryz.prog zrL [.d (.slice (zdK l))] σ K := by
 refine zeW e_r12_Of fun hl => ?_
 have hlm : (zdK l).length = l.length := List.length_map ..
 simp only [S_r12_Of,iN,bT,bF,eN]
 refine zr 13 (fun k vs q => vs = [.d (.int .u16 (ofN l k)), .d (.int .u16 ((2 ^ k : Nat) : Int)), .d (.int .i64 k)] ∧ q = σ) ⟨rfl,rfl⟩ ?_
 rintro k vs q hk ⟨rfl,rfl⟩
 have hlt2 := ofN_lt l k
 have hp : 2 ^ k ≤ 2 ^ 13 := Nat.pow_le_pow_right (by omega) hk
 have hnx : ofN l (k + 1) = ofN l k + if (k : Int) ∈ l then 2 ^ k else 0 := rfl
 have hpn : 2 ^ (k + 1) = 2 ^ k * 2 := Nat.pow_succ ..
 obtain ⟨P,hP⟩ : ∃ P, 2 ^ k = P := ⟨_,rfl⟩
 obtain ⟨Q,hQ⟩ : ∃ Q,ofN l k = Q := ⟨_,rfl⟩
 rw [hP] at hlt2 hp hnx hpn ⊢
 rw [hQ] at hlt2 hnx ⊢
 by_cases hlt : k < 13
 ·have hd : decide ((k : Int) < 13) = true := by simp; omega
  have hw := wk13 k (by omega)
  have hm : IntKind.u16.wrap ((P : Int) * 2) = ((P * 2 : Nat) : Int) := by rw [wrap16u (by omega) (by omega)]; omega
  have ha : IntKind.u16.wrap ((Q : Int) + P) = ((Q + P : Nat) : Int) := by rw [wrap16u (by omega) (by omega)]; omega
  refine zuJ hd ?_
  refine zr l.length (fun j vs q2 => vs = [.d (.int .u16 Q), .d (.int .i64 j)] ∧ q2 = q ∧ (k : Int) ∉ l.take j) ⟨rfl,rfl,by simp⟩ ?_
  rintro j vs q hj ⟨rfl,rfl,hno⟩
  by_cases hjl : j < l.length
  ·have hd2 : decide ((j : Int) < (l.length : Int)) = true := by simp; omega
   have hx : l[j]? = some l[j] := by simp [hjl]
   have hgx := zS (f := fun t : Int => [D.int .i64 t]) hx
   obtain ⟨x,hxe⟩ : ∃ x,l[j] = x := ⟨_,rfl⟩
   rw [hxe] at hx hgx
   cases h1 : (x == (k : Int))
   ·have hne : (k : Int) ≠ x := by simp at h1; omega
    refine zuJ (zlM hd2 (zlM hlm (zlM hgx (zlM h1 (wk13 j (by omega)))))) ?_
    refine zaG.next hjl ⟨rfl,rfl, ?_⟩
    rw [List.take_add_one,hx]
    simp [hno,hne]
   ·have he : x = (k : Int) := by simpa using h1
    have hm2 : (k : Int) ∈ l := he ▸ List.mem_of_getElem? hx
    rw [if_pos hm2] at hnx
    refine zuJ (zlM hd2 (zlM hlm (zlM hgx (zlM h1 (zlM hw (zlM hm ha)))))) ?_
    exact zaG.next hlt ⟨by rw [hnx,hpn],rfl⟩
  ·have hd2 : decide ((j : Int) < (l.length : Int)) = false := by simp; omega
   rw [List.take_of_length_le (by omega)] at hno
   rw [if_neg hno] at hnx
   rw [Nat.add_zero] at hnx
   refine zuJ (zlM hd2 (zlM hlm (zlM hw hm))) ?_
   exact zaG.next hlt ⟨by rw [hnx,hpn]; rfl,rfl⟩
 ·have hd : decide ((k : Int) < 13) = false := by simp; omega
  have hk13 : k = 13 := by omega
  subst hk13
  rw [← hQ]
  refine zuJ hd ?_
  refine zT hl ?_
  exact hK
theorem times13 (f : Int) : 0 ≤ zgB 3 f ∧ zgB 3 f ≤ 13 := by
 unfold zgB; split <;> omega
theorem gq42 {P Q : Prop} (h : Q) (e : Hd Q → P := by intro h; (repeat' first | simp -dsimp only [↓zfT, ↓zaI, ↓zbP, ↓zfV, ↓zfN, ↓zfL, ↓zfO, ↓zfM, ↓zbU, ↓zbQ, ↓zbV, ↓zbR, ↓zfP, ↓zbN, ↓zbW, ↓zbS, ↓zbX, ↓zbT, ↓zfK, ↓zfQ, ↓zbM, ↓zbY, ↓zfF, ↓zfE, ↓zfH,iN,bT,bF,eN, ↓zcJ, ↓unC, ↓zaa, ↓zK, ↓zL, ↓zO, ↓zaf, ↓zaz, ↓zcK, ↓zar, ↓zbk, ↓zR, ↓zo, ↓zj, ↓zbz, ↓zg, ↓zam, ↓zH, ↓zaV, ↓zbc, ↓ze, ↓zB, ↓zu, ↓zC, ↓zap, ↓zdk, ↓zdO, ↓zav, ↓zaF, ↓zaZ, ↓zbj, ↓zbt, ↓zA, ↓zas, ↓zM, ↓zF, ↓zae,zdP,zbI,zbC,unA,zdL,bnd,zeq,zag,zQ,zek,dm,dm1,zD,zak,zeP,zeO,zP,Q0,Q1,Q2,Q3,Q4,Q5,zW,zt,zy,zN,zJ,Q6,Q7,Q8,Q9,Q10,Q11,Q12,Q13,Q14,Nat.reduceAdd,Q15,Int.reduceToNat,Q16,Q17,Q18,Q19,Q20,reduceIte,Q21,Q22,zG,rep,zab,zfq,toD,zaq,Q23,Q24,Q25,Q26,Q27,Q28,Nat.reduceLeDiff,Q29,Nat.reduceSub,Q30,Q31,Q32,sc,Q33,Q34,Q35,Q36,Q37,Q26,Q38,Q39,zjD,zjA,zjx,zjE,zdf,zjB,zjy,zjC,zjz,zde,zdg,zjG,zjH,Bool.not_true,Bool.not_false,List.length_map] | with_reducible refine zjK ?_ | fail); exact h.go) : P := e ⟨h⟩
theorem c_rAll {σ : List zh} {f : Int} {K : KT} (hK : K (.d (.int .u16 (allF (zgB 3 f).toNat))) σ) : zp Tryz.prog zsp [.d (.int .i64 f)] σ K := by
 refine zeW e_r12_All fun hl => ?_
 have ht := times13 f
 obtain ⟨N,hN⟩ : ∃ N : Nat,(zgB 3 f).toNat = N := ⟨_,rfl⟩
 have hN2 : zgB 3 f = (N : Int) := by omega
 rw [hN] at hK
 simp only [S_r12_All,iN,bT,bF,eN]
 refine zcu N (fun k vs q => vs = [.own σ.length (zdK (zrU k)), .d (.int .i64 k)] ∧ q = σ ++ [.tok 1 k]) (.tok 0 [] 1 rfl (by simp) (.refl _ _)) ⟨rfl,rfl⟩ ?_
 rintro k vs q hk ⟨rfl,rfl⟩
 have hlm : (zdK (zrU k)).length = k := by simp [zrU]
 refine gq42 ?_
 refine c_rBrokers ?_
 rw [hN2]
 by_cases hlt : k < N
 ·have hd : decide ((k : Int) < (N : Int)) = true := by simp; omega
  refine zuJ (zlM hd (zlM (wk13 k (by omega)) hlm)) ?_
  exact zaG.next hlt ⟨by rw [zui]; simp,rfl⟩
 ·have hd : decide ((k : Int) < (N : Int)) = false := by simp; omega
  have hk2 : k = N := by omega
  subst hk2
  refine zuJ hd ?_
  refine c_rSetOf (by rw [List.length_map] at hlm; omega) ?_
  refine gq42 ?_
  refine zT hl ?_
  exact hK
theorem c_rBoth {σ : List zh} {a b : Nat} (ha : a < 65536) (hb : b < 65536) {K : KT} (hK : K (.d (.int .u16 (bothF a b))) σ) : zp Tryz.prog zqa [.d (.int .u16 a), .d (.int .u16 b)] σ K := by
 refine zfY e_r12_Both fun hl => ?_
 simp only [zvk,iN,bT,bF,eN]
 refine zcu 13 (fun k vs q => vs = [.own σ.length (zdK (ztj a b k)), .d (.int .i64 k)] ∧ q = σ ++ [.tok 1 (ztj a b k).length]) (.tok 0 [] 1 rfl (by simp) (.refl _ _)) ⟨rfl,rfl⟩ ?_
 rintro k vs q hk ⟨rfl,rfl⟩
 have hln := bothL_len a b k
 have hlm : (zdK (ztj a b k)).length = (ztj a b k).length := List.length_map ..
 by_cases hlt : k < 13
 ·have hd : decide ((k : Int) < 13) = true := by simp; omega
  have hw := wk13 k (by omega)
  refine zuJ hd ?_
  refine c_rIn ha ?_
  have hnx := bothL_next a b k
  cases h1 : inF a (k : Int)
  ·rw [h1] at hnx
   simp only [Bool.false_and,Bool.false_eq_true,if_false,List.append_nil] at hnx
   refine zuJ hw ?_
   exact zaG.next hlt ⟨by rw [hnx],by rw [hnx]⟩
  ·rw [h1,Bool.true_and] at hnx
   refine gq42 ?_
   refine c_rIn hb ?_
   cases h2 : inF b (k : Int)
   ·rw [h2] at hnx
    simp only [Bool.false_eq_true,if_false,List.append_nil] at hnx
    refine zuJ hw ?_
    exact zaG.next hlt ⟨by rw [hnx],by rw [hnx]⟩
   ·rw [h2,if_pos rfl] at hnx
    refine zuJ (zlM hw hlm) ?_
    exact zaG.next hlt ⟨by rw [hnx]; simp,by rw [hnx]; simp⟩
 ·have hd : decide ((k : Int) < 13) = false := by simp; omega
  have hk13 : k = 13 := by omega
  subst hk13
  refine zuJ hd ?_
  refine c_rSetOf (by omega) ?_
  refine gq42 ?_
  refine zT hl ?_
  exact hK
end Go.Proofs.YtfgbofkdhfjegaaGreat
