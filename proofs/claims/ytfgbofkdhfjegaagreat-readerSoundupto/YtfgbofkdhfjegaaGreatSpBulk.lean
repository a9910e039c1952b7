/- What holds little has short lists. No program in sight. -/
import Derived.Test.YtfgbofkdhfjegaaGreatCl1
import Derived.Test.YtfgbofkdhfjegaaGreatCk1
import Derived.Test.YtfgbofkdhfjegaaGreatSpUtf
import Derived.Test.YtfgbofkdhfjegaaGreatRq5
set_option linter.all false
namespace Go.AW
theorem zdv {α:Type} {f : α->List D} (h:∀ a, 1<=zcJ (f a)):∀ (l:List α),l.length<=zdl (l.map f)
 | []=>Nat.zero_le _
 | a::l=>by have:=h a;have:=zdv h l;simp only [List.map_cons,List.length_cons,zdl];omega
theorem zfM {α:Type} {f : α->List D} {a : α}:∀ {l:List α},a∈l->zcJ (f a)<=zdl (l.map f)
 | b::l,h=>by
  simp only [List.map_cons,zdl]
  rcases List.mem_cons.1 h with rfl|h
  ·omega
  ·have:=zfM (f:=f) h;omega
theorem zny (rs:List (List UInt8)):rs.length<=zdl (zbT rs)/\∀ r∈rs,r.length<=zdl (zbT rs):=by
 refine ⟨zdv (f:=fun r => [D.slice (bcs r)]) (fun r=>by simp only [zcJ,zeO];omega) rs,fun r hr => ?_⟩
 have:=zfM (f:=fun r => [D.slice (bcs r)]) hr
 simp only [zcJ,zeO,zwG] at this
 unfold zbT
 omega
def leB (n:Nat) (b:List zo):Prop:=b.length<=n/\∀ x∈b,x.op.recs.length<=n/\∀ r∈x.op.recs,r.length<=n
theorem leB_bulk {b:List zo} {n:Nat} (h:zdl (zdm b)<=n):leB n b:=by
 unfold zdm at h
 refine ⟨Nat.le_trans (zdv (f:=zch) (fun a=>by simp only [zch,zcJ,zeO];omega) b) h,fun x hx => ?_⟩
 have:=zfM (f:=zch) hx
 simp only [zch,zcJ,zeO] at this
 have h2:=zny x.op.recs
 refine ⟨by omega,fun r hr => ?_⟩
 have:=h2.2 r hr
 omega
theorem signs_bulk (l:List zI):l.length<=zdl (zaW l):=zdv (f:=zhI) (fun a=>by simp only [zhI,zcJ,zeO];omega) l
theorem zmD {q:PQ} {n:Nat} {o:Option zo} (h:q[n]? = some o):zek q=zek (q.take n)++(o.toList++zek (q.drop (n+1))):=by
 obtain ⟨hn,rfl⟩:=List.getElem?_eq_some_iff.1 h
 have e:q=q.take n++q[n]::q.drop (n+1):=by rw [List.getElem_cons_drop];exact (List.take_append_drop n q).symm
 conv=>lhs;rw [e]
 simp only [zek,List.filterMap_append,List.filterMap_cons,id_eq]
 cases q[n]<;>rfl
theorem zrF {q:PQ} {n:Nat} (o:Option zo) (h:n<q.length):zek (q.set n o)=zek (q.take n)++(o.toList++zek (q.drop (n+1))):=by
 have:=zmD (q:=q.set n o) (n:=n) (o:=o) (by simp [h])
 rwa [List.take_set_of_le (Nat.le_refl _),List.drop_set_of_lt (by omega)] at this
theorem zhT.before {q:PQ} (hq:zhT q) {n:Nat} {y:zo} (h:y∈zek (q.take n)):y.client<n:=by
 obtain ⟨i,hi⟩:=zoE h
 rw [List.getElem?_take] at hi
 split at hi
 ·have:=(hq.at_ i y hi).1;omega
 ·cases hi
theorem zhT.behind {q:PQ} (hq:zhT q) {n:Nat} {y:zo} (h:y∈zek (q.drop (n+1))):(n:Int)<y.client:=by
 obtain ⟨i,hi⟩:=zoE h
 rw [List.getElem?_drop] at hi
 have:=(hq.at_ _ y hi).1;omega
theorem of_wait {q:PQ} {c:Int} {x:zo} (h:ofF q c=some x):x∈zek q:=by
 obtain ⟨_,_,h⟩:=ofF_some h
 simp only [zek,List.mem_filterMap,id_eq,exists_eq_right]
 exact List.mem_of_getElem? h
theorem zhT.client {q:PQ} (hq:zhT q) {c:Int} {x:zo} (h:ofF q c=some x):x.client=c:=by
 obtain ⟨h0,h8,hg⟩:=ofF_some h
 have:=(hq.at_ _ x hg).1;omega
theorem zhT.of_none {q:PQ} (hq:zhT q) {c:Int} (h:∀ y∈zek q,y.client≠c):ofF q c=none:=by
 cases ho:ofF q c with
 | none=>rfl
 | some x=>exact absurd (hq.client ho) (h x (of_wait ho))
theorem zuS {α:Type} {l:List α} {p : α->Bool} (h:∀ x∈l,p x=true):l.filter p=l:=List.filter_eq_self.2 h
theorem zhT.without {q:PQ} (hq:zhT q) {c:Int} (h0:0<=c) (h8:c<8):(zek q).filter (fun y=>y.client != c)=zek (q.set c.toNat none):=by
 have hl:=hq.len
 have hg:=hq.get h0 h8
 rw [zmD hg,zrF none (by omega)]
 simp only [List.filter_append,Option.toList_none,List.nil_append]
 rw [zuS (l:=zek (q.take c.toNat)) fun y hy=>by have:=hq.before hy;simp;omega,zuS (l:=zek (q.drop (c.toNat+1))) fun y hy=>by have:=hq.behind hy;simp;omega]
 congr 1
 cases ho:ofF q c with
 | none=>rfl
 | some x=>simp [hq.client ho]
theorem zhT.place {q:PQ} (hq:zhT q) {c:Int} (h0:0<=c) (h8:c<8) {k:Nat} (hlo:∀ y∈(zek (q.set c.toNat none)).take k,y.client<c) (hk:k<=(zek (q.set c.toNat none)).length)
  (hhi:∀ y,(zek (q.set c.toNat none))[k]? = some y->¬ y.client<c) (x:zo) :
  (zek (q.set c.toNat none)).take k++(x::(zek (q.set c.toNat none)).drop k)=zek (q.set c.toNat (some x)):=by
 have hl:=hq.len
 have e:=zrF (q:=q) none (show c.toNat<q.length by omega)
 have e2:=zrF (q:=q) (some x) (show c.toNat<q.length by omega)
 simp only [Option.toList_none,List.nil_append,Option.toList_some] at e e2
 obtain ⟨A,hA⟩:∃ A,zek (q.take c.toNat)=A:=⟨_,rfl⟩
 obtain ⟨B,hB⟩:∃ B,zek (q.drop (c.toNat+1))=B:=⟨_,rfl⟩
 have hAlt:∀ y∈A,y.client<c:=fun y hy=>by rw [← hA] at hy;have:=hq.before hy;omega
 have hBgt:∀ y∈B,c<y.client:=fun y hy=>by rw [← hB] at hy;have:=hq.behind hy;omega
 rw [hA,hB] at e e2
 rw [e] at hlo hk hhi ⊢
 rw [e2]
 have hkA:k=A.length:=by
  rcases Nat.lt_trichotomy k A.length with h|h|h
  ·exact absurd (hAlt A[k] (List.getElem_mem h)) (hhi A[k] (by rw [List.getElem?_append_left h];simp [h]))
  ·exact h
  ·exfalso
   rw [List.length_append] at hk
   have hb:B[0]? = some (B[0]'(by omega)):=List.getElem?_eq_getElem _
   have hm:B[0]'(by omega)∈(A++B).take k:=by
    refine List.mem_of_getElem? (i:=A.length) ?_
    rw [List.getElem?_take,if_pos h,List.getElem?_append_right (Nat.le_refl _),Nat.sub_self]
    exact hb
   have h1:=hlo _ hm
   have h2:=hBgt _ (List.getElem_mem (show 0<B.length by omega))
   omega
 subst hkA
 simp
def prevC (w:List zo):Nat->Int
 | 0 => -1
 | k+1=>match w[k]? with|some x=>x.client|none => -1
theorem zhT.push {q:PQ} (hq:zhT q) {x:zo} (hx:zX [x]=0) (hlt:∀ y∈zek q,y.client<x.client):canPut q x=true/\zek (putQ q x)=zek q++[x]:=by
 obtain ⟨h0,h8,_⟩:=one_ok hx
 have hl:=hq.len
 have hno:ofF q x.client=none:=hq.of_none fun y hy=>by have:=hlt y hy;omega
 have hc:canPut q x=true:=by simp [canPut,hx,hno,mayPut]
 refine ⟨hc,?_⟩
 have hg:=hq.get h0 h8
 rw [hno] at hg
 rw [putQ,if_pos hc,zrF _ (by omega),zmD hg]
 have hB:zek (q.drop (x.client.toNat+1)) = []:=by
  rw [List.eq_nil_iff_forall_not_mem]
  intro y hy
  have h1:=hq.behind hy
  have h2:=hlt y (by rw [zmD hg];simp [hy])
  omega
 rw [hB];simp
theorem zhT.prev {q:PQ} (hq:zhT q) {k:Nat} {x:zo} (hx:(zek q)[k]? = some x):prevC (zek q) k<x.client:=by
 have hxm:=List.mem_of_getElem? hx
 obtain ⟨i,hi⟩:=zoE hxm
 have hxc:=(hq.at_ i x hi).1
 cases k with
 | zero=>simp only [prevC];omega
 | succ k=>
  have hk:=(List.getElem?_eq_some_iff.1 hx).1
  have hy:(zek q)[k]? = some ((zek q)[k]'(by omega)):=List.getElem?_eq_getElem _
  simp only [prevC,hy]
  -- the list is rising
  have hp:(zek q).Pairwise fun a b=>a.client<b.client:=by
   have key:∀ (l:PQ) (a:Nat),(∀ (i:Nat) x,l[i]? = some (some x)->x.client=((a+i:Nat):Int))->(l.filterMap id).Pairwise fun a b=>a.client<b.client:=by
    intro l
    induction l with
    | nil=>intro a _;simp
    | cons o l ih=>
     intro a h
     have hr:=ih (a+1) fun i x hi=>by have:=h (i+1) x (by simpa using hi);rw [this];congr 1;omega
     cases o with
     | none=>simpa using hr
     | some x=>
      simp only [List.filterMap_cons,id_eq,List.pairwise_cons]
      refine ⟨fun y hy => ?_,hr⟩
      obtain ⟨j,hj⟩:=zoE (q:=l) hy
      have h1:=h 0 x rfl
      have h2:=h (j+1) y (by simpa using hj)
      omega
   exact key q 0 fun i x hi=>by have:=(hq.at_ i x hi).1;simpa using this
  have:=List.pairwise_iff_getElem.1 hp k (k+1) (by omega) hk (by omega)
  obtain ⟨_,rfl⟩:=List.getElem?_eq_some_iff.1 hx
  exact this
theorem okB_bulk {b:List zo} {n:Nat} (h:zdl (zdm b)<=n) (hn:n<=1048576):okB b:=by
 obtain ⟨h1,h2⟩:=leB_bulk h
 refine ⟨by omega,fun x hx => ?_⟩
 obtain ⟨h3,h4⟩:=h2 x hx
 unfold zdm at h
 have:=zfM (f:=zch) hx
 simp only [zch,zcJ,zeO] at this
 exact ⟨by omega,by omega,by omega,fun r hr=>by have:=h4 r hr;omega⟩
structure TStep where
 what:Int
 s:zo
 client:Int
 time:Int
 opn:List (List zo)
end Go.AW

/- Batches are sealed one after the other; what tables and ledgers hold. -/
set_option maxRecDepth 100000
namespace Go.Proofs.YtfgbofkdhfjegaaGreat
open Go.AW
def seR (s:List (List UInt8) × List zI × List zo) (r:zo):List (List UInt8) × List zI × List zo:=
 (zpV s.1 r,zsd s.1 s.2.1 r,if ztV s.1 r=0 then s.2.2++[zkE s.1 r] else s.2.2)
structure SeI (n m:Nat) (s:List (List UInt8) × List zI × List zo):Prop where
 tab:zlJ s.1
 led:s.2.1.length<=n
 sz:∀ x∈s.2.2,zjG x.op<=20971520
 len:s.2.2.length<=m
theorem seI {n m:Nat} {s:List (List UInt8) × List zI × List zo} {r:zo} (h:SeI n m s) (hr:zjG r.op<=20971520):SeI (n+1) (m+1) (seR s r):=by
 obtain ⟨L,G,b⟩:=s
 obtain ⟨h1,h2,h3,h4⟩:=h
 simp only at h1 h2 h3 h4
 refine ⟨?_,?_,?_,?_⟩
 ·simp only [seR,zpV]
  split
  ·exact h1
  ·rename_i hc
   have:=zrI (x:=r) (by omega) (by simpa using hc)
   exact h1.sum (by omega)
 ·simp only [seR,zsd,zfz,zlA]
  split
  ·omega
  ·split
   ·split
    ·omega
    ·simp;omega
   ·omega
 ·simp only [seR]
  split
  ·rename_i he
   intro x hx
   rcases List.mem_append.1 hx with hx|hx
   ·exact h3 x hx
   ·simp only [List.mem_singleton] at hx
    subst hx
    rw [zkE,if_pos he]
    exact hr
  ·exact h3
 ·simp only [seR]
  split
  ·simp;omega
  ·omega
theorem zsG {α β:Type} {f : β → α → β} {s : β} {l:List α} {k:Nat} {x : α} (h:l[k]? = some x):(l.take (k+1)).foldl f s=f ((l.take k).foldl f s) x:=by
 rw [List.take_add_one,h,List.foldl_append];rfl
theorem tab_dig {L:List (List UInt8)} (h:zlJ L) {l:List zo} (hx:∀ s∈l,zjG s.op<=20971520):zlJ (zla L l):=by
 unfold zla
 split
 ·exact h
 ·rename_i hc
  have:=znz hx
  rw [zfI,if_pos (by simpa using hc)] at this
  exact h.sum (by omega)
theorem zvH {l:List (List UInt8)} {k:Nat} {x:List UInt8} (hn:l.Nodup) (hl0:l.length<=1048576) (hx:l[k]? = some x):zeJ (l.take k) x=l.take (k+1):=by
 have hk:=(List.getElem?_eq_some_iff.1 hx).1
 have hnot:x ∉ l.take k:=fun hm=>by
  obtain ⟨i,hi,he⟩:=List.mem_take_iff_getElem.1 hm
  have:=(List.getElem_inj hn).1 (he.trans (List.getElem?_eq_some_iff.1 hx).2.symm)
  omega
 have hno:=zuE hnot
 have h1:(l.take k).length=k:=by rw [List.length_take];omega
 rw [zeJ,hno]
 simp only [h1]
 rw [if_neg (by omega),List.take_add_one,hx];rfl
structure LedI (G:List zI):Prop where
 nd:G.Nodup
 ok:∀ g∈G,zei g.key g.dig=0
theorem LedI.sign {G:List zI} (h:LedI G) (k d:Int):LedI (zfz G k d):=by
 unfold zfz
 split
 ·rename_i hs
  unfold zlA
  split
  ·exact h
  ·rename_i hn
   refine ⟨?_,fun g hg => ?_⟩
   ·rw [List.nodup_append]
    refine ⟨h.nd,by simp,fun a ha b hb e => ?_⟩
    simp only [List.mem_singleton] at hb
    subst e hb
    exact hn ha
   ·rcases List.mem_append.1 hg with hg|hg
    ·exact h.ok g hg
    ·simp only [List.mem_singleton] at hg
     subst hg;exact hs
 ·exact h
theorem sign_take {l:List zI} {k:Nat} {x:zI} (h:LedI l) (hx:l[k]? = some x):zfz (l.take k) x.key x.dig=l.take (k+1):=by
 have hk:=(List.getElem?_eq_some_iff.1 hx).1
 have hnot:x ∉ l.take k:=fun hm=>by
  obtain ⟨i,hi,he⟩:=List.mem_take_iff_getElem.1 hm
  have:=(List.getElem_inj h.nd).1 (he.trans (List.getElem?_eq_some_iff.1 hx).2.symm)
  omega
 rw [zfz,if_pos (h.ok x (List.mem_of_getElem? hx)),zlA,if_neg hnot,List.take_add_one,hx];rfl
end Go.Proofs.YtfgbofkdhfjegaaGreat

/- Sets of brokers as numbers. No program in sight. -/
namespace Go.AW
def inF (s:Nat) (b:Int):Bool:=decide (0<=b/\b<13/\s / 2 ^ b.toNat % 2=1)
def ofN (l:List Int):Nat->Nat
 | 0 => 0
 | k+1=>ofN l k+if (k:Int)∈l then 2 ^ k else 0
theorem ofN_lt (l:List Int):∀ k,ofN l k<2 ^ k
 | 0=>by simp [ofN]
 | k+1=>by
  have:=ofN_lt l k
  simp only [ofN,Nat.pow_succ]
  split<;>omega
theorem ofN_bit (l:List Int) (b:Nat):∀ k,(ofN l k).testBit b=decide (b<k/\(b:Int)∈l)
 | 0=>by simp [ofN]
 | k+1=>by
  have ih:=ofN_bit l b k
  have hlt:=ofN_lt l k
  simp only [ofN]
  by_cases hk:(k:Int)∈l
  ·rw [if_pos hk,Nat.add_comm]
   rcases Nat.lt_trichotomy b k with h|h|h
   ·rw [Nat.testBit_two_pow_add_gt h,ih]
    by_cases hb:(b:Int)∈l
    ·rw [decide_eq_true ⟨h,hb⟩,decide_eq_true ⟨by omega,hb⟩]
    ·rw [decide_eq_false (by simp [hb]),decide_eq_false (by simp [hb])]
   ·subst h
    rw [Nat.testBit_two_pow_add_eq,ih,decide_eq_false (by omega),decide_eq_true ⟨by omega,hk⟩];rfl
   ·rw [decide_eq_false (by omega),Nat.testBit_lt_two_pow]
    have:2 ^ (k+1)<=2 ^ b:=Nat.pow_le_pow_right (by omega) (by omega)
    rw [Nat.pow_succ] at this
    omega
  ·rw [if_neg hk,Nat.add_zero,ih]
   by_cases hb:(b:Int)∈l
   ·have hne:b≠k:=fun e=>hk (e▸hb)
    by_cases h:b<k
    ·rw [decide_eq_true ⟨h,hb⟩,decide_eq_true ⟨by omega,hb⟩]
    ·rw [decide_eq_false (by omega),decide_eq_false (by omega)]
   ·rw [decide_eq_false (by simp [hb]),decide_eq_false (by simp [hb])]
theorem inF_bit (s:Nat) (b:Nat) (h:b<13):inF s (b:Int)=s.testBit b:=by
 rw [Nat.testBit_eq_decide_div_mod_eq,inF]
 by_cases e:s / 2 ^ b % 2=1
 ·rw [decide_eq_true e,decide_eq_true ⟨by omega,by omega,e⟩]
 ·rw [decide_eq_false e,decide_eq_false (fun h=>e h.2.2)]
theorem zsA {s:Nat} {b:Int} (h:inF s b=true):0<=b/\b<13:=by
 simp [inF] at h;omega
theorem inF_of (l:List Int) (b:Int):inF (ofN l 13) b=decide (0<=b/\b<13/\b∈l):=by
 by_cases h:0<=b/\b<13
 ·obtain ⟨n,rfl⟩:∃ n:Nat,b=n:=⟨b.toNat,by omega⟩
  rw [inF_bit _ _ (by omega),ofN_bit]
  by_cases hm:(n:Int)∈l
  ·rw [decide_eq_true ⟨by omega,hm⟩,decide_eq_true ⟨by omega,by omega,hm⟩]
  ·rw [decide_eq_false (by simp [hm]),decide_eq_false (by simp [hm])]
 ·rw [decide_eq_false (by omega)]
  cases e:inF (ofN l 13) b with
  | false=>rfl
  | true=>exact absurd (zsA e) h
def memN (s:Nat) (k:Nat):List Int:=((List.range k).map Int.ofNat).filter (inF s)
def memF (s:Nat):List Int:=memN s 13
theorem memN_next (s k:Nat):memN s (k+1)=memN s k++if inF s (k:Int)=true then [(k:Int)] else []:=by
 simp only [memN,List.range_succ,List.map_append,List.filter_append,List.map_cons,List.map_nil]
 congr 1
 show List.filter (inF s) [(k:Int)]=_
 rw [List.filter_cons]
 split<;>rfl
theorem zvT (s k:Nat):(memN s k).length<=k:=by
 have:=List.length_filter_le (inF s) ((List.range k).map Int.ofNat)
 simpa [memN] using this
def zgj (n:Nat):List Int:=(List.range n).map Int.ofNat
theorem zpO (n:Nat):zgj (n+1)=zgj n++[(n:Int)]:=by
 simp [zgj,List.range_succ]
theorem zoF {n:Nat} {b:Int}:b∈zgj n↔0<=b/\b<n:=by
 simp only [zgj,List.mem_map,List.mem_range]
 constructor
 ·rintro ⟨a,ha,rfl⟩
  show 0<=(a:Int)/\(a:Int)<n
  omega
 ·rintro ⟨h1,h2⟩
  exact ⟨b.toNat,by omega,by show ((b.toNat:Nat):Int)=b;omega⟩
def ztp (a b:Nat) (k:Nat):List Int:=(zgj k).filter fun i=>inF a i&&inF b i
def zrC (a b:Nat):Nat:=ofN (ztp a b 13) 13
def allF (n:Nat):Nat:=ofN (zgj n) 13
theorem bothL_next (a b k:Nat):ztp a b (k+1)=ztp a b k++if (inF a (k:Int)&&inF b (k:Int))=true then [(k:Int)] else []:=by
 simp only [ztp,zpO,List.filter_append]
 congr 1
 rw [List.filter_cons]
 split<;>rfl
theorem bothL_len (a b k:Nat):(ztp a b k).length<=k:=by
 have:=List.length_filter_le (fun i=>inF a i&&inF b i) (zgj k)
 simpa [ztp,zgj] using this
theorem in_both (a b:Nat) (i:Int):inF (zrC a b) i=(inF a i&&inF b i):=by
 rw [zrC,inF_of]
 cases h:(inF a i&&inF b i) with
 | false=>
  refine decide_eq_false fun e => ?_
  have:=(List.mem_filter.1 e.2.2).2
  simp only [h] at this
  cases this
 | true=>
  have h1:inF a i=true:=by
   cases e:inF a i with
   | true=>rfl
   | false=>rw [e] at h;cases h
  obtain ⟨h2,h3⟩:=zsA h1
  exact decide_eq_true ⟨h2,h3,List.mem_filter.2 ⟨zoF.2 ⟨h2,by omega⟩,h⟩⟩
theorem in_all {n:Nat} (hn:n<=13) (i:Int):inF (allF n) i=decide (0<=i/\i<n):=by
 rw [allF,inF_of]
 by_cases h:0<=i/\i<n
 ·rw [decide_eq_true h,decide_eq_true ⟨h.1,by omega,zoF.2 h⟩]
 ·rw [decide_eq_false h,decide_eq_false fun e=>h (zoF.1 e.2.2)]
theorem ofN_small (l:List Int):ofN l 13<8192:=ofN_lt l 13
theorem zvg (a b:Nat):zrC a b<65536:=by have:=ofN_small (ztp a b 13);unfold zrC;omega
theorem all_small (n:Nat):allF n<65536:=by have:=ofN_small (zgj n);unfold allF;omega
end Go.AW
