/- What holds little has short lists. No program in sight. -/
import Derived.Test.YtfgbofkdhfjegaaGreatCl1
import Derived.Test.YtfgbofkdhfjegaaGreatCk1
import Derived.Test.YtfgbofkdhfjegaaGreatSpUtf
import Derived.Test.YtfgbofkdhfjegaaGreatRq5
import Derived.Test.YtfgbofkdhfjegaaGreatQu1
import Derived.Test.YtfgbofkdhfjegaaGreatMk2
set_option linter.all false
namespace Go.AW
theorem zdt {α : Type} {f : α → List D} (h : ∀ a, 1 ≤ zcE (f a)) : ∀ (l : List α),l.length ≤ zdl (l.map f)
 | [] => Nat.zero_le _
 | a :: l => by have := h a; have := zdt h l; simp only [List.map_cons,List.length_cons,zdl]; omega
theorem zfH {α : Type} {f : α → List D} {a : α} : ∀ {l : List α},a ∈ l → zcE (f a) ≤ zdl (l.map f)
 | b :: l,h => by
  simp only [List.map_cons,zdl]
  rcases List.mem_cons.1 h with rfl | h
  ·omega
  ·have := zfH (f := f) h; omega
theorem znu (rs : List (List UInt8)) : rs.length ≤ zdl (zbV rs) ∧ ∀ r ∈ rs,r.length ≤ zdl (zbV rs) := by
 refine ⟨zdt (f := fun r => [D.slice (bcs r)]) (fun r => by simp only [zcE,zeM]; omega) rs,fun r hr => ?_⟩
 have := zfH (f := fun r => [D.slice (bcs r)]) hr
 simp only [zcE,zeM,zwt] at this
 unfold zbV
 omega
def leB (n : Nat) (b : List zp) : Prop := b.length ≤ n ∧ ∀ x ∈ b,x.op.recs.length ≤ n ∧ ∀ r ∈ x.op.recs,r.length ≤ n
theorem leB_bulk {b : List zp} {n : Nat} (h : zdl (zdf b) ≤ n) : leB n b := by
 unfold zdf at h
 refine ⟨Nat.le_trans (zdt (f := zch) (fun a => by simp only [zch,zcE,zeM]; omega) b) h,fun x hx => ?_⟩
 have := zfH (f := zch) hx
 simp only [zch,zcE,zeM] at this
 have h2 := znu x.op.recs
 refine ⟨by omega,fun r hr => ?_⟩
 have := h2.2 r hr
 omega
theorem signs_bulk (l : List zJ) : l.length ≤ zdl (zaY l) := zdt (f := zhU) (fun a => by simp only [zhU,zcE,zeM]; omega) l
theorem zmB {q : PQ} {n : Nat} {o : Option zp} (h : q[n]? = some o) : zei q = zei (q.take n) ++ (o.toList ++ zei (q.drop (n + 1))) := by
 obtain ⟨hn,rfl⟩ := List.getElem?_eq_some_iff.1 h
 have e : q = q.take n ++ q[n] :: q.drop (n + 1) := by rw [List.getElem_cons_drop]; exact (List.take_append_drop n q).symm
 conv => lhs; rw [e]
 simp only [zei,List.filterMap_append,List.filterMap_cons,id_eq]
 cases q[n] <;> rfl
theorem zrz {q : PQ} {n : Nat} (o : Option zp) (h : n < q.length) : zei (q.set n o) = zei (q.take n) ++ (o.toList ++ zei (q.drop (n + 1))) := by
 have := zmB (q := q.set n o) (n := n) (o := o) (by simp [h])
 rwa [List.take_set_of_le (Nat.le_refl _),List.drop_set_of_lt (by omega)] at this
theorem zhM.before {q : PQ} (hq : zhM q) {n : Nat} {y : zp} (h : y ∈ zei (q.take n)) : y.client < n := by
 obtain ⟨i,hi⟩ := zoz h
 rw [List.getElem?_take] at hi
 split at hi
 ·have := (hq.at_ i y hi).1; omega
 ·cases hi
theorem zhM.behind {q : PQ} (hq : zhM q) {n : Nat} {y : zp} (h : y ∈ zei (q.drop (n + 1))) : (n : Int) < y.client := by
 obtain ⟨i,hi⟩ := zoz h
 rw [List.getElem?_drop] at hi
 have := (hq.at_ _ y hi).1; omega
theorem of_wait {q : PQ} {c : Int} {x : zp} (h : ofF q c = some x) : x ∈ zei q := by
 obtain ⟨_,_,h⟩ := ofF_some h
 simp only [zei,List.mem_filterMap,id_eq,exists_eq_right]
 exact List.mem_of_getElem? h
theorem zhM.client {q : PQ} (hq : zhM q) {c : Int} {x : zp} (h : ofF q c = some x) : x.client = c := by
 obtain ⟨h0,h8,hg⟩ := ofF_some h
 have := (hq.at_ _ x hg).1; omega
theorem zhM.of_none {q : PQ} (hq : zhM q) {c : Int} (h : ∀ y ∈ zei q,y.client ≠ c) : ofF q c = none := by
 cases ho : ofF q c with
 | none => rfl
 | some x => exact absurd (hq.client ho) (h x (of_wait ho))
theorem zuI {α : Type} {l : List α} {p : α → Bool} (h : ∀ x ∈ l,p x = true) : l.filter p = l := List.filter_eq_self.2 h
theorem zhM.without {q : PQ} (hq : zhM q) {c : Int} (h0 : 0 ≤ c) (h8 : c < 8) : (zei q).filter (fun y => y.client != c) = zei (q.set c.toNat none) := by
 have hl := hq.len
 have hg := hq.get h0 h8
 rw [zmB hg,zrz none (by omega)]
 simp only [List.filter_append,Option.toList_none,List.nil_append]
 rw [zuI (l := zei (q.take c.toNat)) fun y hy => by have := hq.before hy; simp; omega,zuI (l := zei (q.drop (c.toNat + 1))) fun y hy => by have := hq.behind hy; simp; omega]
 congr 1
 cases ho : ofF q c with
 | none => rfl
 | some x => simp [hq.client ho]
theorem zhM.place {q : PQ} (hq : zhM q) {c : Int} (h0 : 0 ≤ c) (h8 : c < 8) {k : Nat} (hlo : ∀ y ∈ (zei (q.set c.toNat none)).take k,y.client < c) (hk : k ≤ (zei (q.set c.toNat none)).length)
  (hhi : ∀ y,(zei (q.set c.toNat none))[k]? = some y → ¬ y.client < c) (x : zp) :
  (zei (q.set c.toNat none)).take k ++ (x :: (zei (q.set c.toNat none)).drop k) = zei (q.set c.toNat (some x)) := by
 have hl := hq.len
 have e := zrz (q := q) none (show c.toNat < q.length by omega)
 have e2 := zrz (q := q) (some x) (show c.toNat < q.length by omega)
 simp only [Option.toList_none,List.nil_append,Option.toList_some] at e e2
 obtain ⟨A,hA⟩ : ∃ A,zei (q.take c.toNat) = A := ⟨_,rfl⟩
 obtain ⟨B,hB⟩ : ∃ B,zei (q.drop (c.toNat + 1)) = B := ⟨_,rfl⟩
 have hAlt : ∀ y ∈ A,y.client < c := fun y hy => by rw [← hA] at hy; have := hq.before hy; omega
 have hBgt : ∀ y ∈ B,c < y.client := fun y hy => by rw [← hB] at hy; have := hq.behind hy; omega
 rw [hA,hB] at e e2
 rw [e] at hlo hk hhi ⊢
 rw [e2]
 have hkA : k = A.length := by
  rcases Nat.lt_trichotomy k A.length with h | h | h
  ·exact absurd (hAlt A[k] (List.getElem_mem h)) (hhi A[k] (by rw [List.getElem?_append_left h]; simp [h]))
  ·exact h
  ·exfalso
   rw [List.length_append] at hk
   have hb : B[0]? = some (B[0]'(by omega)) := List.getElem?_eq_getElem _
   have hm : B[0]'(by omega) ∈ (A ++ B).take k := by
    refine List.mem_of_getElem? (i := A.length) ?_
    rw [List.getElem?_take,if_pos h,List.getElem?_append_right (Nat.le_refl _),Nat.sub_self]
    exact hb
   have h1 := hlo _ hm
   have h2 := hBgt _ (List.getElem_mem (show 0 < B.length by omega))
   omega
 subst hkA
 simp
def prevC (w : List zp) : Nat → Int
 | 0 => -1
 | k + 1 => match w[k]? with | some x => x.client | none => -1
theorem zhM.push {q : PQ} (hq : zhM q) {x : zp} (hx : zY [x] = 0) (hlt : ∀ y ∈ zei q,y.client < x.client) : canPut q x = true ∧ zei (putQ q x) = zei q ++ [x] := by
 obtain ⟨h0,h8,_⟩ := one_ok hx
 have hl := hq.len
 have hno : ofF q x.client = none := hq.of_none fun y hy => by have := hlt y hy; omega
 have hc : canPut q x = true := by simp [canPut,hx,hno,mayPut]
 refine ⟨hc, ?_⟩
 have hg := hq.get h0 h8
 rw [hno] at hg
 rw [putQ,if_pos hc,zrz _ (by omega),zmB hg]
 have hB : zei (q.drop (x.client.toNat + 1)) = [] := by
  rw [List.eq_nil_iff_forall_not_mem]
  intro y hy
  have h1 := hq.behind hy
  have h2 := hlt y (by rw [zmB hg]; simp [hy])
  omega
 rw [hB]; simp
theorem zhM.prev {q : PQ} (hq : zhM q) {k : Nat} {x : zp} (hx : (zei q)[k]? = some x) : prevC (zei q) k < x.client := by
 have hxm := List.mem_of_getElem? hx
 obtain ⟨i,hi⟩ := zoz hxm
 have hxc := (hq.at_ i x hi).1
 cases k with
 | zero => simp only [prevC]; omega
 | succ k =>
  have hk := (List.getElem?_eq_some_iff.1 hx).1
  have hy : (zei q)[k]? = some ((zei q)[k]'(by omega)) := List.getElem?_eq_getElem _
  simp only [prevC,hy]
  -- the list is rising
  have hp : (zei q).Pairwise fun a b => a.client < b.client := by
   have key : ∀ (l : PQ) (a : Nat),(∀ (i : Nat) x,l[i]? = some (some x) → x.client = ((a + i : Nat) : Int)) → (l.filterMap id).Pairwise fun a b => a.client < b.client := by
    intro l
    induction l with
    | nil => intro a _; simp
    | cons o l ih =>
     intro a h
     have hr := ih (a + 1) fun i x hi => by have := h (i + 1) x (by simpa using hi); rw [this]; congr 1; omega
     cases o with
     | none => simpa using hr
     | some x =>
      simp only [List.filterMap_cons,id_eq,List.pairwise_cons]
      refine ⟨fun y hy => ?_,hr⟩
      obtain ⟨j,hj⟩ := zoz (q := l) hy
      have h1 := h 0 x rfl
      have h2 := h (j + 1) y (by simpa using hj)
      omega
   exact key q 0 fun i x hi => by have := (hq.at_ i x hi).1; simpa using this
  have := List.pairwise_iff_getElem.1 hp k (k + 1) (by omega) hk (by omega)
  obtain ⟨_,rfl⟩ := List.getElem?_eq_some_iff.1 hx
  exact this
theorem okB_bulk {b : List zp} {n : Nat} (h : zdl (zdf b) ≤ n) (hn : n ≤ 1048576) : okB b := by
 obtain ⟨h1,h2⟩ := leB_bulk h
 refine ⟨by omega,fun x hx => ?_⟩
 obtain ⟨h3,h4⟩ := h2 x hx
 unfold zdf at h
 have := zfH (f := zch) hx
 simp only [zch,zcE,zeM] at this
 exact ⟨by omega,by omega,by omega,fun r hr => by have := h4 r hr; omega⟩
structure TStep where
 what : Int
 s : zp
 client : Int
 time : Int
 opn : List (List zp)
end Go.AW

/- Batches are sealed one after the other; what tables and ledgers hold. -/
set_option maxRecDepth 100000
namespace Go.Proofs.YtfgbofkdhfjegaaGreat
open Go.AW
def seR (s : List (List UInt8) × List zJ × List zp) (r : zp) : List (List UInt8) × List zJ × List zp :=
 (zpP s.1 r,zrX s.1 s.2.1 r,if ztJ s.1 r = 0 then s.2.2 ++ [zlK s.1 r] else s.2.2)
structure SeI (n m : Nat) (s : List (List UInt8) × List zJ × List zp) : Prop where
 tab : zlH s.1
 led : s.2.1.length ≤ n
 sz : ∀ x ∈ s.2.2,zkr x.op ≤ 20971520
 len : s.2.2.length ≤ m
theorem seI {n m : Nat} {s : List (List UInt8) × List zJ × List zp} {r : zp} (h : SeI n m s) (hr : zkr r.op ≤ 20971520) : SeI (n + 1) (m + 1) (seR s r) := by
 obtain ⟨L,G,b⟩ := s
 obtain ⟨h1,h2,h3,h4⟩ := h
 simp only at h1 h2 h3 h4
 refine ⟨?_, ?_, ?_, ?_⟩
 ·simp only [seR,zpP]
  split
  ·exact h1
  ·rename_i hc
   have := zrC (x := r) (by omega) (by simpa using hc)
   exact h1.sum (by omega)
 ·simp only [seR,zrX,zfI,zly]
  split
  ·omega
  ·split
   ·split
    ·omega
    ·simp; omega
   ·omega
 ·simp only [seR]
  split
  ·rename_i he
   intro x hx
   rcases List.mem_append.1 hx with hx | hx
   ·exact h3 x hx
   ·simp only [List.mem_singleton] at hx
    subst hx
    rw [zlK,if_pos he]
    exact hr
  ·exact h3
 ·simp only [seR]
  split
  ·simp; omega
  ·omega
theorem zsz {α β : Type} {f : β → α → β} {s : β} {l : List α} {k : Nat} {x : α} (h : l[k]? = some x) : (l.take (k + 1)).foldl f s = f ((l.take k).foldl f s) x := by
 rw [List.take_add_one,h,List.foldl_append]; rfl
theorem tab_dig {L : List (List UInt8)} (h : zlH L) {l : List zp} (hx : ∀ s ∈ l,zkr s.op ≤ 20971520) : zlH (zkW L l) := by
 unfold zkW
 split
 ·exact h
 ·rename_i hc
  have := znv hx
  rw [zfC,if_pos (by simpa using hc)] at this
  exact h.sum (by omega)
theorem zvu {l : List (List UInt8)} {k : Nat} {x : List UInt8} (hn : l.Nodup) (hl0 : l.length ≤ 1048576) (hx : l[k]? = some x) : zeG (l.take k) x = l.take (k + 1) := by
 have hk := (List.getElem?_eq_some_iff.1 hx).1
 have hnot : x ∉ l.take k := fun hm => by
  obtain ⟨i,hi,he⟩ := List.mem_take_iff_getElem.1 hm
  have := (List.getElem_inj hn).1 (he.trans (List.getElem?_eq_some_iff.1 hx).2.symm)
  omega
 have hno := zut hnot
 have h1 : (l.take k).length = k := by rw [List.length_take]; omega
 rw [zeG,hno]
 simp only [h1]
 rw [if_neg (by omega),List.take_add_one,hx]; rfl
structure LedI (G : List zJ) : Prop where
 nd : G.Nodup
 ok : ∀ g ∈ G,zeh g.key g.dig = 0
theorem LedI.sign {G : List zJ} (h : LedI G) (k d : Int) : LedI (zfI G k d) := by
 unfold zfI
 split
 ·rename_i hs
  unfold zly
  split
  ·exact h
  ·rename_i hn
   refine ⟨?_,fun g hg => ?_⟩
   ·rw [List.nodup_append]
    refine ⟨h.nd,by simp,fun a ha b hb e => ?_⟩
    simp only [List.mem_singleton] at hb
    subst e hb
    exact hn ha
   ·rcases List.mem_append.1 hg with hg | hg
    ·exact h.ok g hg
    ·simp only [List.mem_singleton] at hg
     subst hg; exact hs
 ·exact h
theorem sign_take {l : List zJ} {k : Nat} {x : zJ} (h : LedI l) (hx : l[k]? = some x) : zfI (l.take k) x.key x.dig = l.take (k + 1) := by
 have hk := (List.getElem?_eq_some_iff.1 hx).1
 have hnot : x ∉ l.take k := fun hm => by
  obtain ⟨i,hi,he⟩ := List.mem_take_iff_getElem.1 hm
  have := (List.getElem_inj h.nd).1 (he.trans (List.getElem?_eq_some_iff.1 hx).2.symm)
  omega
 rw [zfI,if_pos (h.ok x (List.mem_of_getElem? hx)),zly,if_neg hnot,List.take_add_one,hx]; rfl
end Go.Proofs.YtfgbofkdhfjegaaGreat

/- Sets of brokers as numbers. No program in sight. -/
namespace Go.AW
def inF (s : Nat) (b : Int) : Bool := decide (0 ≤ b ∧ b < 13 ∧ s / 2 ^ b.toNat % 2 = 1)
def ofN (l : List Int) : Nat → Nat
 | 0 => 0
 | k + 1 => ofN l k + if (k : Int) ∈ l then 2 ^ k else 0
theorem ofN_lt (l : List Int) : ∀ k,ofN l k < 2 ^ k
 | 0 => by simp [ofN]
 | k + 1 => by
  have := ofN_lt l k
  simp only [ofN,Nat.pow_succ]
  split <;> omega
theorem inF_range {s : Nat} {b : Int} (h : inF s b = true) : 0 ≤ b ∧ b < 13 := by
 simp [inF] at h; omega
def memN (s : Nat) (k : Nat) : List Int := ((List.range k).map Int.ofNat).filter (inF s)
def memF (s : Nat) : List Int := memN s 13
theorem memN_next (s k : Nat) : memN s (k + 1) = memN s k ++ if inF s (k : Int) = true then [(k : Int)] else [] := by
 simp only [memN,List.range_succ,List.map_append,List.filter_append,List.map_cons,List.map_nil]
 congr 1
 show List.filter (inF s) [(k : Int)] = _
 rw [List.filter_cons]
 split <;> rfl
theorem zvH (s k : Nat) : (memN s k).length ≤ k := by
 have := List.length_filter_le (inF s) ((List.range k).map Int.ofNat)
 simpa [memN] using this
def zrM (n : Nat) : List Int := (List.range n).map Int.ofNat
theorem zub (n : Nat) : zrM (n + 1) = zrM n ++ [(n : Int)] := by
 simp [zrM,List.range_succ]
def zte (a b : Nat) (k : Nat) : List Int := (zrM k).filter fun i => inF a i && inF b i
def bothF (a b : Nat) : Nat := ofN (zte a b 13) 13
def allF (n : Nat) : Nat := ofN (zrM n) 13
theorem bothL_next (a b k : Nat) : zte a b (k + 1) = zte a b k ++ if (inF a (k : Int) && inF b (k : Int)) = true then [(k : Int)] else [] := by
 simp only [zte,zub,List.filter_append]
 congr 1
 rw [List.filter_cons]
 split <;> rfl
theorem bothL_len (a b k : Nat) : (zte a b k).length ≤ k := by
 have := List.length_filter_le (fun i => inF a i && inF b i) (zrM k)
 simpa [zte,zrM] using this
theorem ofN_small (l : List Int) : ofN l 13 < 8192 := ofN_lt l 13
theorem both_small (a b : Nat) : bothF a b < 65536 := by have := ofN_small (zte a b 13); unfold bothF; omega
theorem all_small (n : Nat) : allF n < 65536 := by have := ofN_small (zrM n); unfold allF; omega
end Go.AW

/- Contracts: sets of brokers, the document's, to the last bit. -/
set_option maxRecDepth 100000
namespace Go.Proofs.YtfgbofkdhfjegaaGreat
open Go.AW
theorem wk13 (k : Nat) (h : k ≤ 1073741824) : IntKind.i64.wrap ((k : Int) + 1) = ((k + 1 : Nat) : Int) := by rw [zU (by omega) (by omega)]; rfl
theorem zuC {A P Q : Prop} (a : A) (h : Q) (e : A → Hd Q → P := by intro a h; (repeat' first | simp -dsimp only [↓zeY, ↓zaC, ↓zbz, ↓zeZ, ↓zeU, ↓zeS, ↓zeV, ↓zeT, ↓zbE, ↓zbA, ↓zbF, ↓zbB, ↓zeW, ↓zby, ↓zbG, ↓zbC, ↓zbH, ↓zbD, ↓zeR, ↓zeX, ↓zbx, ↓zbJ, ↓zeP, ↓zeO, ↓zeQ,iN,bT,bF,eN, ↓zcF, ↓unC, ↓zW, ↓zK, ↓zL, ↓zN, ↓zad, ↓zax, ↓zcB, ↓zal, ↓zbj, ↓zQ, ↓zo, ↓zj, ↓zbr, ↓zg, ↓zai, ↓zH, ↓zaM, ↓zaV, ↓ze, ↓zD, ↓zw, ↓zB, ↓zao, ↓zdb, ↓zdx, ↓zaq, ↓zay, ↓zaU, ↓zbd, ↓zbl, ↓zu, ↓zan, ↓zM, ↓zE, ↓zaa,zdz,zbq,zbn,unA,zdy,bnd,zec,zaf,zS,zdY,dm,dm1,zC,zah,zen,zem,zP,Q0,Q1,Q2,Q3,Q4,Q5,zT,zx,zy,zO,zI,Q6,Q7,Q8,Q9,Q10,Q11,Q12,Q13,Q14,Nat.reduceAdd,Q15,Int.reduceToNat,Q16,Q17,Q18,Q19,Q20,reduceIte,Q21,Q22,zG,rep,zZ,zeF,toD,zaj,Q23,Q24,Q25,Q26,Q27,Q28,Nat.reduceLeDiff,Q29,Nat.reduceSub,Q30,Q31,Q32,sc,Q33,Q34,Q35,Q36,Q37,Q26,Q38,Q39,zii,zif,zic,zij,zcN,zig,zid,zih,zie,zcM,zcO,zim,zin,Bool.not_true,Bool.not_false,List.length_map,a] | with_reducible refine zix ?_ | fail); exact h.go) : P := e a ⟨h⟩
theorem c_rIn {σ : List zh} {s : Nat} {b : Int} (hs : s < 65536) {K : KT} (hK : K (.d (.bool (inF s b))) σ) : zr Tryz.prog zlR [.d (.int .u16 s), .d (.int .i64 b)] σ K := by
 refine zfJ e_r12_Has fun hl => ?_
 have fin : ∀ z : Bool,inF s b = z → K (.d (.bool z)) σ := fun z hz => by rw [← hz]; exact hK
 clear hK
 simp only [S_r12_Has,iN,bT,bF,eN]
 refine zt 13 (fun k vs q => q = σ ∧ vs = [.d (.int .u16 (s / 2 ^ k : Nat)), .d (.int .i64 k)] ∧ ¬ (0 ≤ b ∧ b < k ∧ s / 2 ^ b.toNat % 2 = 1)) ⟨rfl,by simp,by omega⟩ ?_
 rintro k vs q hk ⟨rfl,rfl,hno⟩
 have hle : s / 2 ^ k ≤ s := Nat.div_le_self _ _
 have hz1 : s / 2 ^ (k + 1) = s / 2 ^ k / 2 := by rw [Nat.pow_succ, ← Nat.div_div_eq_div_mul]
 have hbit : b = (k : Int) → s / 2 ^ b.toNat = s / 2 ^ k := fun h => by rw [h]; rfl
 obtain ⟨z,hz⟩ : ∃ z,s / 2 ^ k = z := ⟨_,rfl⟩
 rw [hz] at hle hz1 hbit ⊢
 by_cases hlt : k < 13
 ·have hd : decide ((k : Int) < 13) = true := by simp; omega
  have hw := wk13 k (by omega)
  have hrem : (z : Int).tmod 2 = ((z % 2 : Nat) : Int) := by rw [Int.tmod_eq_emod_of_nonneg (by omega)]; rfl
  have hquo : IntKind.u16.wrap ((z : Int).tdiv 2) = ((z / 2 : Nat) : Int) := by
   rw [Int.tdiv_eq_ediv_of_nonneg (by omega),show (z : Int) / 2 = ((z / 2 : Nat) : Int) from rfl]
   simp [IntKind.wrap,IntKind.bits,IntKind.signed]
   omega
  cases h1 : ((k : Int) == b)
  ·refine zuC (zlB hd (zlB h1 (zlB hrem (zlB hquo hw)))) ?_
   refine zaF.next hlt ⟨rfl,by rw [hz1], ?_⟩
   have : ¬ (k : Int) = b := by simpa using h1
   rintro ⟨g1,g2,g3⟩
   exact hno ⟨g1,by omega,g3⟩
  ·have hb : (k : Int) = b := by simpa using h1
   have hbt : b.toNat = k := by omega
   cases h2 : (((z % 2 : Nat) : Int) == 1)
   ·have h2' : ¬ z % 2 = 1 := by simp at h2; omega
    refine zuC (zlB hd (zlB h1 (zlB h2 (zlB hrem (zlB hquo hw))))) ?_
    refine zaF.next hlt ⟨rfl,by rw [hz1], ?_⟩
    rintro ⟨g1,g2,g3⟩
    rw [hbit hb.symm] at g3
    exact h2' g3
   ·have h2' : z % 2 = 1 := by simp at h2; omega
    refine zuC (zlB hd (zlB h1 (zlB h2 (zlB hrem (zlB hquo hw))))) ?_
    refine zV hl ?_
    exact fin _ (decide_eq_true ⟨by omega,by omega,by rw [hbit hb.symm]; exact h2'⟩)
 ·have hd : decide ((k : Int) < 13) = false := by simp; omega
  refine zuC hd ?_
  refine zV hl ?_
  exact fin _ (decide_eq_false fun h => hno ⟨h.1,by omega,h.2.2⟩)
theorem c_rList {σ : List zh} {s : Nat} (hs : s < 65536) {K : KT} (hK : K (.d (.slice (zdB (memF s)))) σ) : zr Tryz.prog zpU [.d (.int .u16 s)] σ K := by
 refine zgk e_r12_List fun hl => ?_
 simp only [zvc,iN,bT,bF,eN]
 refine zcq 13 (fun k vs q => vs = [.own σ.length (zdB (memN s k)), .d (.int .i64 k)] ∧ q = σ ++ [.tok 1 (memN s k).length]) (.tok 0 [] 1 rfl (by simp) (.refl _ _)) ⟨rfl,rfl⟩ ?_
 rintro k vs q hk ⟨rfl,rfl⟩
 have hln := zvH s k
 have hlm : (zdB (memN s k)).length = (memN s k).length := List.length_map ..
 by_cases hlt : k < 13
 ·have hd : decide ((k : Int) < 13) = true := by simp; omega
  have hw := wk13 k (by omega)
  refine zuC hd ?_
  refine c_rIn hs ?_
  have hnx := memN_next s k
  cases h1 : inF s (k : Int)
  ·rw [h1] at hnx
   simp only [Bool.false_eq_true,if_false,List.append_nil] at hnx
   refine zuC hw ?_
   exact zaF.next hlt ⟨by rw [hnx],by rw [hnx]⟩
  ·rw [h1,if_pos rfl] at hnx
   refine zuC (zlB hw hlm) ?_
   exact zaF.next hlt ⟨by rw [hnx]; simp,by rw [hnx]; simp⟩
 ·have hd : decide ((k : Int) < 13) = false := by simp; omega
  have hk13 : k = 13 := by omega
  subst hk13
  refine zuC hd ?_
  refine zV hl ?_
  exact hK
theorem wrap16u {x : Int} (h0 : 0 ≤ x) (h1 : x < 65536) : IntKind.u16.wrap x = x := by
 simp [IntKind.wrap,IntKind.bits,IntKind.signed]; omega
theorem c_rSetOf {σ : List zh} {l : List Int} (hl0 : l.length ≤ 1073741824) {K : KT} (hK : K (.d (.int .u16 (ofN l 13))) σ) : zr Tryz.prog zrE [.d (.slice (zdB l))] σ K := by
 refine zgk e_r12_Of fun hl => ?_
 have hlm : (zdB l).length = l.length := List.length_map ..
 simp only [S_r12_Of,iN,bT,bF,eN]
 refine zt 13 (fun k vs q => vs = [.d (.int .u16 (ofN l k)), .d (.int .u16 ((2 ^ k : Nat) : Int)), .d (.int .i64 k)] ∧ q = σ) ⟨rfl,rfl⟩ ?_
 rintro k vs q hk ⟨rfl,rfl⟩
 have hlt2 := ofN_lt l k
 have hp : 2 ^ k ≤ 2 ^ 13 := Nat.pow_le_pow_right (by omega) hk
 have hnx : ofN l (k + 1) = ofN l k + if (k : Int) ∈ l then 2 ^ k else 0 := rfl
 have hpn : 2 ^ (k + 1) = 2 ^ k * 2 := Nat.pow_succ ..
 obtain ⟨P,hP⟩ : ∃ P, 2 ^ k = P := ⟨_,rfl⟩
 obtain ⟨Q,hQ⟩ : ∃ Q,ofN l k = Q := ⟨_,rfl⟩
 rw [hP] at hlt2 hp hnx hpn ⊢
 rw [hQ] at hlt2 hnx ⊢
 by_cases hlt : k < 13
 ·have hd : decide ((k : Int) < 13) = true := by simp; omega
  have hw := wk13 k (by omega)
  have hm : IntKind.u16.wrap ((P : Int) * 2) = ((P * 2 : Nat) : Int) := by rw [wrap16u (by omega) (by omega)]; omega
  have ha : IntKind.u16.wrap ((Q : Int) + P) = ((Q + P : Nat) : Int) := by rw [wrap16u (by omega) (by omega)]; omega
  refine zuC hd ?_
  refine zt l.length (fun j vs q2 => vs = [.d (.int .u16 Q), .d (.int .i64 j)] ∧ q2 = q ∧ (k : Int) ∉ l.take j) ⟨rfl,rfl,by simp⟩ ?_
  rintro j vs q hj ⟨rfl,rfl,hno⟩
  by_cases hjl : j < l.length
  ·have hd2 : decide ((j : Int) < (l.length : Int)) = true := by simp; omega
   have hx : l[j]? = some l[j] := by simp [hjl]
   have hgx := zR (f := fun t : Int => [D.int .i64 t]) hx
   obtain ⟨x,hxe⟩ : ∃ x,l[j] = x := ⟨_,rfl⟩
   rw [hxe] at hx hgx
   cases h1 : (x == (k : Int))
   ·have hne : (k : Int) ≠ x := by simp at h1; omega
    refine zuC (zlB hd2 (zlB hlm (zlB hgx (zlB h1 (wk13 j (by omega)))))) ?_
    refine zaF.next hjl ⟨rfl,rfl, ?_⟩
    rw [List.take_add_one,hx]
    simp [hno,hne]
   ·have he : x = (k : Int) := by simpa using h1
    have hm2 : (k : Int) ∈ l := he ▸ List.mem_of_getElem? hx
    rw [if_pos hm2] at hnx
    refine zuC (zlB hd2 (zlB hlm (zlB hgx (zlB h1 (zlB hw (zlB hm ha)))))) ?_
    exact zaF.next hlt ⟨by rw [hnx,hpn],rfl⟩
  ·have hd2 : decide ((j : Int) < (l.length : Int)) = false := by simp; omega
   rw [List.take_of_length_le (by omega)] at hno
   rw [if_neg hno] at hnx
   rw [Nat.add_zero] at hnx
   refine zuC (zlB hd2 (zlB hlm (zlB hw hm))) ?_
   exact zaF.next hlt ⟨by rw [hnx,hpn]; rfl,rfl⟩
 ·have hd : decide ((k : Int) < 13) = false := by simp; omega
  have hk13 : k = 13 := by omega
  subst hk13
  rw [← hQ]
  refine zuC hd ?_
  refine zV hl ?_
  exact hK
theorem times13 (f : Int) : 0 ≤ zdQ 3 f ∧ zdQ 3 f ≤ 13 := by
 unfold zdQ; split <;> omega
theorem gq42 {P Q : Prop} (h : Q) (e : Hd Q → P := by intro h; (repeat' first | simp -dsimp only [↓zeY, ↓zaC, ↓zbz, ↓zeZ, ↓zeU, ↓zeS, ↓zeV, ↓zeT, ↓zbE, ↓zbA, ↓zbF, ↓zbB, ↓zeW, ↓zby, ↓zbG, ↓zbC, ↓zbH, ↓zbD, ↓zeR, ↓zeX, ↓zbx, ↓zbJ, ↓zeP, ↓zeO, ↓zeQ,iN,bT,bF,eN, ↓zcF, ↓unC, ↓zW, ↓zK, ↓zL, ↓zN, ↓zad, ↓zax, ↓zcB, ↓zal, ↓zbj, ↓zQ, ↓zo, ↓zj, ↓zbr, ↓zg, ↓zai, ↓zH, ↓zaM, ↓zaV, ↓ze, ↓zD, ↓zw, ↓zB, ↓zao, ↓zdb, ↓zdx, ↓zaq, ↓zay, ↓zaU, ↓zbd, ↓zbl, ↓zu, ↓zan, ↓zM, ↓zE, ↓zaa,zdz,zbq,zbn,unA,zdy,bnd,zec,zaf,zS,zdY,dm,dm1,zC,zah,zen,zem,zP,Q0,Q1,Q2,Q3,Q4,Q5,zT,zx,zy,zO,zI,Q6,Q7,Q8,Q9,Q10,Q11,Q12,Q13,Q14,Nat.reduceAdd,Q15,Int.reduceToNat,Q16,Q17,Q18,Q19,Q20,reduceIte,Q21,Q22,zG,rep,zZ,zeF,toD,zaj,Q23,Q24,Q25,Q26,Q27,Q28,Nat.reduceLeDiff,Q29,Nat.reduceSub,Q30,Q31,Q32,sc,Q33,Q34,Q35,Q36,Q37,Q26,Q38,Q39,zii,zif,zic,zij,zcN,zig,zid,zih,zie,zcM,zcO,zim,zin,Bool.not_true,Bool.not_false,List.length_map] | with_reducible refine zix ?_ | fail); exact h.go) : P := e ⟨h⟩
theorem c_rAll {σ : List zh} {f : Int} {K : KT} (hK : K (.d (.int .u16 (allF (zdQ 3 f).toNat))) σ) : zr Tryz.prog zsg [.d (.int .i64 f)] σ K := by
 refine zgk e_r12_All fun hl => ?_
 have ht := times13 f
 obtain ⟨N,hN⟩ : ∃ N : Nat,(zdQ 3 f).toNat = N := ⟨_,rfl⟩
 have hN2 : zdQ 3 f = (N : Int) := by omega
 rw [hN] at hK
 simp only [S_r12_All,iN,bT,bF,eN]
 refine zcq N (fun k vs q => vs = [.own σ.length (zdB (zrM k)), .d (.int .i64 k)] ∧ q = σ ++ [.tok 1 k]) (.tok 0 [] 1 rfl (by simp) (.refl _ _)) ⟨rfl,rfl⟩ ?_
 rintro k vs q hk ⟨rfl,rfl⟩
 have hlm : (zdB (zrM k)).length = k := by simp [zrM]
 refine gq42 ?_
 refine c_rBrokers ?_
 rw [hN2]
 by_cases hlt : k < N
 ·have hd : decide ((k : Int) < (N : Int)) = true := by simp; omega
  refine zuC (zlB hd (zlB (wk13 k (by omega)) hlm)) ?_
  exact zaF.next hlt ⟨by rw [zub]; simp,rfl⟩
 ·have hd : decide ((k : Int) < (N : Int)) = false := by simp; omega
  have hk2 : k = N := by omega
  subst hk2
  refine zuC hd ?_
  refine c_rSetOf (by rw [List.length_map] at hlm; omega) ?_
  refine gq42 ?_
  refine zV hl ?_
  exact hK
theorem c_rBoth {σ : List zh} {a b : Nat} (ha : a < 65536) (hb : b < 65536) {K : KT} (hK : K (.d (.int .u16 (bothF a b))) σ) : zr Tryz.prog zpV [.d (.int .u16 a), .d (.int .u16 b)] σ K := by
 refine zfJ e_r12_Both fun hl => ?_
 simp only [zvd,iN,bT,bF,eN]
 refine zcq 13 (fun k vs q => vs = [.own σ.length (zdB (zte a b k)), .d (.int .i64 k)] ∧ q = σ ++ [.tok 1 (zte a b k).length]) (.tok 0 [] 1 rfl (by simp) (.refl _ _)) ⟨rfl,rfl⟩ ?_
 rintro k vs q hk ⟨rfl,rfl⟩
 have hln := bothL_len a b k
 have hlm : (zdB (zte a b k)).length = (zte a b k).length := List.length_map ..
 by_cases hlt : k < 13
 ·have hd : decide ((k : Int) < 13) = true := by simp; omega
  have hw := wk13 k (by omega)
  refine zuC hd ?_
  refine c_rIn ha ?_
  have hnx := bothL_next a b k
  cases h1 : inF a (k : Int)
  ·rw [h1] at hnx
   simp only [Bool.false_and,Bool.false_eq_true,if_false,List.append_nil] at hnx
   refine zuC hw ?_
   exact zaF.next hlt ⟨by rw [hnx],by rw [hnx]⟩
  ·rw [h1,Bool.true_and] at hnx
   refine gq42 ?_
   refine c_rIn hb ?_
   cases h2 : inF b (k : Int)
   ·rw [h2] at hnx
    simp only [Bool.false_eq_true,if_false,List.append_nil] at hnx
    refine zuC hw ?_
    exact zaF.next hlt ⟨by rw [hnx],by rw [hnx]⟩
   ·rw [h2,if_pos rfl] at hnx
    refine zuC (zlB hw hlm) ?_
    exact zaF.next hlt ⟨by rw [hnx]; simp,by rw [hnx]; simp⟩
 ·have hd : decide ((k : Int) < 13) = false := by simp; omega
  have hk13 : k = 13 := by omega
  subst hk13
  refine zuC hd ?_
  refine c_rSetOf (by omega) ?_
  refine gq42 ?_
  refine zV hl ?_
  exact hK
end Go.Proofs.YtfgbofkdhfjegaaGreat
