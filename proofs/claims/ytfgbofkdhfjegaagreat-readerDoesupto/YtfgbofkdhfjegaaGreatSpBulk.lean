/- What holds little has short lists. No program in sight. -/
import Derived.Test.YtfgbofkdhfjegaaGreatCl1
import Derived.Test.YtfgbofkdhfjegaaGreatSpChk
import Derived.Test.YtfgbofkdhfjegaaGreatSpUtf
import Derived.Test.YtfgbofkdhfjegaaGreatRq5
import Derived.Test.YtfgbofkdhfjegaaGreatRq2
set_option linter.all false
namespace Go.AW
theorem zdU {α:Type} {f : α->List D} (h:∀ a, 1<=zcW (f a)):∀ (l:List α),l.length<=zdE (l.map f)
 | []=>Nat.zero_le _
 | a::l=>by have:=h a;have:=zdU h l;simp only [List.map_cons,List.length_cons,zdE];omega
theorem zgx {α:Type} {f : α->List D} {a : α}:∀ {l:List α},a∈l->zcW (f a)<=zdE (l.map f)
 | b::l,h=>by
  simp only [List.map_cons,zdE]
  rcases List.mem_cons.1 h with rfl|h
  ·omega
  ·have:=zgx (f:=f) h;omega
theorem zpd (rs:List (List UInt8)):rs.length<=zdE (zbY rs)/\∀ r∈rs,r.length<=zdE (zbY rs):=by
 refine ⟨zdU (f:=fun r => [D.slice (bcs r)]) (fun r=>by simp only [zcW,zfJ];omega) rs,fun r hr => ?_⟩
 have:=zgx (f:=fun r => [D.slice (bcs r)]) hr
 simp only [zcW,zfJ,zzp] at this
 unfold zbY
 omega
def leB (n:Nat) (b:List zt):Prop:=b.length<=n/\∀ x∈b,x.op.recs.length<=n/\∀ r∈x.op.recs,r.length<=n
theorem leB_bulk {b:List zt} {n:Nat} (h:zdE (zda b)<=n):leB n b:=by
 unfold zda at h
 refine ⟨Nat.le_trans (zdU (f:=zbX) (fun a=>by simp only [zbX,zcW,zfJ];omega) b) h,fun x hx => ?_⟩
 have:=zgx (f:=zbX) hx
 simp only [zbX,zcW,zfJ] at this
 have h2:=zpd x.op.recs
 refine ⟨by omega,fun r hr => ?_⟩
 have:=h2.2 r hr
 omega
theorem signs_bulk (l:List zR):l.length<=zdE (zaI l):=zdU (f:=zgz) (fun a=>by simp only [zgz,zcW,zfJ];omega) l
theorem zoj {q:PQ} {n:Nat} {o:Option zt} (h:q[n]? = some o):zfd q=zfd (q.take n)++(o.toList++zfd (q.drop (n+1))):=by
 obtain ⟨hn,rfl⟩:=List.getElem?_eq_some_iff.1 h
 have e:q=q.take n++q[n]::q.drop (n+1):=by rw [List.getElem_cons_drop];exact (List.take_append_drop n q).symm
 conv=>lhs;rw [e]
 simp only [zfd,List.filterMap_append,List.filterMap_cons,id_eq]
 cases q[n]<;>rfl
theorem ztN {q:PQ} {n:Nat} (o:Option zt) (h:n<q.length):zfd (q.set n o)=zfd (q.take n)++(o.toList++zfd (q.drop (n+1))):=by
 have:=zoj (q:=q.set n o) (n:=n) (o:=o) (by simp [h])
 rwa [List.take_set_of_le (Nat.le_refl _),List.drop_set_of_lt (by omega)] at this
theorem zjb.before {q:PQ} (hq:zjb q) {n:Nat} {y:zt} (h:y∈zfd (q.take n)):y.client<n:=by
 obtain ⟨i,hi⟩:=zqk h
 rw [List.getElem?_take] at hi
 split at hi
 ·have:=(hq.at_ i y hi).1;omega
 ·cases hi
theorem zjb.behind {q:PQ} (hq:zjb q) {n:Nat} {y:zt} (h:y∈zfd (q.drop (n+1))):(n:Int)<y.client:=by
 obtain ⟨i,hi⟩:=zqk h
 rw [List.getElem?_drop] at hi
 have:=(hq.at_ _ y hi).1;omega
theorem of_wait {q:PQ} {c:Int} {x:zt} (h:ofF q c=some x):x∈zfd q:=by
 obtain ⟨_,_,h⟩:=ofF_some h
 simp only [zfd,List.mem_filterMap,id_eq,exists_eq_right]
 exact List.mem_of_getElem? h
theorem zjb.client {q:PQ} (hq:zjb q) {c:Int} {x:zt} (h:ofF q c=some x):x.client=c:=by
 obtain ⟨h0,h8,hg⟩:=ofF_some h
 have:=(hq.at_ _ x hg).1;omega
theorem zjb.of_none {q:PQ} (hq:zjb q) {c:Int} (h:∀ y∈zfd q,y.client≠c):ofF q c=none:=by
 cases ho:ofF q c with
 | none=>rfl
 | some x=>exact absurd (hq.client ho) (h x (of_wait ho))
theorem zxm {α:Type} {l:List α} {p : α->Bool} (h:∀ x∈l,p x=true):l.filter p=l:=List.filter_eq_self.2 h
theorem zjb.without {q:PQ} (hq:zjb q) {c:Int} (h0:0<=c) (h8:c<8):(zfd q).filter (fun y=>y.client != c)=zfd (q.set c.toNat none):=by
 have hl:=hq.len
 have hg:=hq.get h0 h8
 rw [zoj hg,ztN none (by omega)]
 simp only [List.filter_append,Option.toList_none,List.nil_append]
 rw [zxm (l:=zfd (q.take c.toNat)) fun y hy=>by have:=hq.before hy;simp;omega,zxm (l:=zfd (q.drop (c.toNat+1))) fun y hy=>by have:=hq.behind hy;simp;omega]
 congr 1
 cases ho:ofF q c with
 | none=>rfl
 | some x=>simp [hq.client ho]
theorem zjb.place {q:PQ} (hq:zjb q) {c:Int} (h0:0<=c) (h8:c<8) {k:Nat} (hlo:∀ y∈(zfd (q.set c.toNat none)).take k,y.client<c) (hk:k<=(zfd (q.set c.toNat none)).length)
  (hhi:∀ y,(zfd (q.set c.toNat none))[k]? = some y->¬ y.client<c) (x:zt) :
  (zfd (q.set c.toNat none)).take k++(x::(zfd (q.set c.toNat none)).drop k)=zfd (q.set c.toNat (some x)):=by
 have hl:=hq.len
 have e:=ztN (q:=q) none (show c.toNat<q.length by omega)
 have e2:=ztN (q:=q) (some x) (show c.toNat<q.length by omega)
 simp only [Option.toList_none,List.nil_append,Option.toList_some] at e e2
 obtain ⟨A,hA⟩:∃ A,zfd (q.take c.toNat)=A:=⟨_,rfl⟩
 obtain ⟨B,hB⟩:∃ B,zfd (q.drop (c.toNat+1))=B:=⟨_,rfl⟩
 have hAlt:∀ y∈A,y.client<c:=fun y hy=>by rw [← hA] at hy;have:=hq.before hy;omega
 have hBgt:∀ y∈B,c<y.client:=fun y hy=>by rw [← hB] at hy;have:=hq.behind hy;omega
 rw [hA,hB] at e e2
 rw [e] at hlo hk hhi ⊢
 rw [e2]
 have hkA:k=A.length:=by
  rcases Nat.lt_trichotomy k A.length with h|h|h
  ·exact absurd (hAlt A[k] (List.getElem_mem h)) (hhi A[k] (by rw [List.getElem?_append_left h];simp [h]))
  ·exact h
  ·exfalso
   rw [List.length_append] at hk
   have hb:B[0]? = some (B[0]'(by omega)):=List.getElem?_eq_getElem _
   have hm:B[0]'(by omega)∈(A++B).take k:=by
    refine List.mem_of_getElem? (i:=A.length) ?_
    rw [List.getElem?_take,if_pos h,List.getElem?_append_right (Nat.le_refl _),Nat.sub_self]
    exact hb
   have h1:=hlo _ hm
   have h2:=hBgt _ (List.getElem_mem (show 0<B.length by omega))
   omega
 subst hkA
 simp
def prevC (w:List zt):Nat->Int
 | 0 => -1
 | k+1=>match w[k]? with|some x=>x.client|none => -1
theorem zjb.push {q:PQ} (hq:zjb q) {x:zt} (hx:zad [x]=0) (hlt:∀ y∈zfd q,y.client<x.client):canPut q x=true/\zfd (putQ q x)=zfd q++[x]:=by
 obtain ⟨h0,h8,_⟩:=one_ok hx
 have hl:=hq.len
 have hno:ofF q x.client=none:=hq.of_none fun y hy=>by have:=hlt y hy;omega
 have hc:canPut q x=true:=by simp [canPut,hx,hno,mayPut]
 refine ⟨hc,?_⟩
 have hg:=hq.get h0 h8
 rw [hno] at hg
 rw [putQ,if_pos hc,ztN _ (by omega),zoj hg]
 have hB:zfd (q.drop (x.client.toNat+1)) = []:=by
  rw [List.eq_nil_iff_forall_not_mem]
  intro y hy
  have h1:=hq.behind hy
  have h2:=hlt y (by rw [zoj hg];simp [hy])
  omega
 rw [hB];simp
theorem zjb.prev {q:PQ} (hq:zjb q) {k:Nat} {x:zt} (hx:(zfd q)[k]? = some x):prevC (zfd q) k<x.client:=by
 have hxm:=List.mem_of_getElem? hx
 obtain ⟨i,hi⟩:=zqk hxm
 have hxc:=(hq.at_ i x hi).1
 cases k with
 | zero=>simp only [prevC];omega
 | succ k=>
  have hk:=(List.getElem?_eq_some_iff.1 hx).1
  have hy:(zfd q)[k]? = some ((zfd q)[k]'(by omega)):=List.getElem?_eq_getElem _
  simp only [prevC,hy]
  -- the list is rising
  have hp:(zfd q).Pairwise fun a b=>a.client<b.client:=by
   have key:∀ (l:PQ) (a:Nat),(∀ (i:Nat) x,l[i]? = some (some x)->x.client=((a+i:Nat):Int))->(l.filterMap id).Pairwise fun a b=>a.client<b.client:=by
    intro l
    induction l with
    | nil=>intro a _;simp
    | cons o l ih=>
     intro a h
     have hr:=ih (a+1) fun i x hi=>by have:=h (i+1) x (by simpa using hi);rw [this];congr 1;omega
     cases o with
     | none=>simpa using hr
     | some x=>
      simp only [List.filterMap_cons,id_eq,List.pairwise_cons]
      refine ⟨fun y hy => ?_,hr⟩
      obtain ⟨j,hj⟩:=zqk (q:=l) hy
      have h1:=h 0 x rfl
      have h2:=h (j+1) y (by simpa using hj)
      omega
   exact key q 0 fun i x hi=>by have:=(hq.at_ i x hi).1;simpa using this
  have:=List.pairwise_iff_getElem.1 hp k (k+1) (by omega) hk (by omega)
  obtain ⟨_,rfl⟩:=List.getElem?_eq_some_iff.1 hx
  exact this
theorem okB_bulk {b:List zt} {n:Nat} (h:zdE (zda b)<=n) (hn:n<=1048576):okB b:=by
 obtain ⟨h1,h2⟩:=leB_bulk h
 refine ⟨by omega,fun x hx => ?_⟩
 obtain ⟨h3,h4⟩:=h2 x hx
 unfold zda at h
 have:=zgx (f:=zbX) hx
 simp only [zbX,zcW,zfJ] at this
 exact ⟨by omega,by omega,by omega,fun r hr=>by have:=h4 r hr;omega⟩
structure TStep where
 what:Int
 s:zt
 client:Int
 time:Int
 opn:List (List zt)
end Go.AW

/- Batches are sealed one after the other; what tables and ledgers hold. -/
set_option maxRecDepth 100000
namespace Go.Proofs.YtfgbofkdhfjegaaGreat
open Go.AW
def seR (s:List (List UInt8) × List zR × List zt) (r:zt):List (List UInt8) × List zR × List zt:=
 (zrK s.1 r,zum s.1 s.2.1 r,if zwj s.1 r=0 then s.2.2++[znh s.1 r] else s.2.2)
structure SeI (n m:Nat) (s:List (List UInt8) × List zR × List zt):Prop where
 tab:zne s.1
 led:s.2.1.length<=n
 sz:∀ x∈s.2.2,zlI x.op<=20971520
 len:s.2.2.length<=m
theorem seI {n m:Nat} {s:List (List UInt8) × List zR × List zt} {r:zt} (h:SeI n m s) (hr:zlI r.op<=20971520):SeI (n+1) (m+1) (seR s r):=by
 obtain ⟨L,G,b⟩:=s
 obtain ⟨h1,h2,h3,h4⟩:=h
 simp only at h1 h2 h3 h4
 refine ⟨?_,?_,?_,?_⟩
 ·simp only [seR,zrK]
  split
  ·exact h1
  ·rename_i hc
   have:=ztQ (x:=r) (by omega) (by simpa using hc)
   exact h1.sum (by omega)
 ·simp only [seR,zum,zgy,zmV]
  split
  ·omega
  ·split
   ·split
    ·omega
    ·simp;omega
   ·omega
 ·simp only [seR]
  split
  ·rename_i he
   intro x hx
   rcases List.mem_append.1 hx with hx|hx
   ·exact h3 x hx
   ·simp only [List.mem_singleton] at hx
    subst hx
    rw [znh,if_pos he]
    exact hr
  ·exact h3
 ·simp only [seR]
  split
  ·simp;omega
  ·omega
theorem zuL {α β:Type} {f : β → α → β} {s : β} {l:List α} {k:Nat} {x : α} (h:l[k]? = some x):(l.take (k+1)).foldl f s=f ((l.take k).foldl f s) x:=by
 rw [List.take_add_one,h,List.foldl_append];rfl
theorem tab_dig {L:List (List UInt8)} (h:zne L) {l:List zt} (hx:∀ s∈l,zlI s.op<=20971520):zne (zmm L l):=by
 unfold zmm
 split
 ·exact h
 ·rename_i hc
  have:=zpe hx
  rw [zgt,if_pos (by simpa using hc)] at this
  exact h.sum (by omega)
theorem zyh {l:List (List UInt8)} {k:Nat} {x:List UInt8} (hn:l.Nodup) (hl0:l.length<=1048576) (hx:l[k]? = some x):zfD (l.take k) x=l.take (k+1):=by
 have hk:=(List.getElem?_eq_some_iff.1 hx).1
 have hnot:x ∉ l.take k:=fun hm=>by
  obtain ⟨i,hi,he⟩:=List.mem_take_iff_getElem.1 hm
  have:=(List.getElem_inj hn).1 (he.trans (List.getElem?_eq_some_iff.1 hx).2.symm)
  omega
 have hno:=zwY hnot
 have h1:(l.take k).length=k:=by rw [List.length_take];omega
 rw [zfD,hno]
 simp only [h1]
 rw [if_neg (by omega),List.take_add_one,hx];rfl
structure LedI (G:List zR):Prop where
 nd:G.Nodup
 ok:∀ g∈G,zfb g.key g.dig=0
theorem LedI.sign {G:List zR} (h:LedI G) (k d:Int):LedI (zgy G k d):=by
 unfold zgy
 split
 ·rename_i hs
  unfold zmV
  split
  ·exact h
  ·rename_i hn
   refine ⟨?_,fun g hg => ?_⟩
   ·rw [List.nodup_append]
    refine ⟨h.nd,by simp,fun a ha b hb e => ?_⟩
    simp only [List.mem_singleton] at hb
    subst e hb
    exact hn ha
   ·rcases List.mem_append.1 hg with hg|hg
    ·exact h.ok g hg
    ·simp only [List.mem_singleton] at hg
     subst hg;exact hs
 ·exact h
theorem sign_take {l:List zR} {k:Nat} {x:zR} (h:LedI l) (hx:l[k]? = some x):zgy (l.take k) x.key x.dig=l.take (k+1):=by
 have hk:=(List.getElem?_eq_some_iff.1 hx).1
 have hnot:x ∉ l.take k:=fun hm=>by
  obtain ⟨i,hi,he⟩:=List.mem_take_iff_getElem.1 hm
  have:=(List.getElem_inj h.nd).1 (he.trans (List.getElem?_eq_some_iff.1 hx).2.symm)
  omega
 rw [zgy,if_pos (h.ok x (List.mem_of_getElem? hx)),zmV,if_neg hnot,List.take_add_one,hx];rfl
end Go.Proofs.YtfgbofkdhfjegaaGreat

/- Sets of brokers as numbers. No program in sight. -/
namespace Go.AW
def inF (s:Nat) (b:Int):Bool:=decide (0<=b/\b<13/\s / 2 ^ b.toNat % 2=1)
def ofN (l:List Int):Nat->Nat
 | 0 => 0
 | k+1=>ofN l k+if (k:Int)∈l then 2 ^ k else 0
theorem ofN_lt (l:List Int):∀ k,ofN l k<2 ^ k
 | 0=>by simp [ofN]
 | k+1=>by
  have:=ofN_lt l k
  simp only [ofN,Nat.pow_succ]
  split<;>omega
theorem inF_range {s:Nat} {b:Int} (h:inF s b=true):0<=b/\b<13:=by
 simp [inF] at h;omega
def memN (s:Nat) (k:Nat):List Int:=((List.range k).map Int.ofNat).filter (inF s)
def memF (s:Nat):List Int:=memN s 13
theorem memN_next (s k:Nat):memN s (k+1)=memN s k++if inF s (k:Int)=true then [(k:Int)] else []:=by
 simp only [memN,List.range_succ,List.map_append,List.filter_append,List.map_cons,List.map_nil]
 congr 1
 show List.filter (inF s) [(k:Int)]=_
 rw [List.filter_cons]
 split<;>rfl
theorem zyu (s k:Nat):(memN s k).length<=k:=by
 have:=List.length_filter_le (inF s) ((List.range k).map Int.ofNat)
 simpa [memN] using this
def zuc (n:Nat):List Int:=(List.range n).map Int.ofNat
theorem zwF (n:Nat):zuc (n+1)=zuc n++[(n:Int)]:=by
 simp [zuc,List.range_succ]
def zvx (a b:Nat) (k:Nat):List Int:=(zuc k).filter fun i=>inF a i&&inF b i
def bothF (a b:Nat):Nat:=ofN (zvx a b 13) 13
def allF (n:Nat):Nat:=ofN (zuc n) 13
theorem bothL_next (a b k:Nat):zvx a b (k+1)=zvx a b k++if (inF a (k:Int)&&inF b (k:Int))=true then [(k:Int)] else []:=by
 simp only [zvx,zwF,List.filter_append]
 congr 1
 rw [List.filter_cons]
 split<;>rfl
theorem bothL_len (a b k:Nat):(zvx a b k).length<=k:=by
 have:=List.length_filter_le (fun i=>inF a i&&inF b i) (zuc k)
 simpa [zvx,zuc] using this
theorem ofN_small (l:List Int):ofN l 13<8192:=ofN_lt l 13
theorem both_small (a b:Nat):bothF a b<65536:=by have:=ofN_small (zvx a b 13);unfold bothF;omega
theorem all_small (n:Nat):allF n<65536:=by have:=ofN_small (zuc n);unfold allF;omega
end Go.AW

/- Contracts: sets of brokers, the document's, to the last bit. -/
set_option maxRecDepth 100000
namespace Go.Proofs.YtfgbofkdhfjegaaGreat
open Go.AW
theorem wk13 (k:Nat) (h:k<=1073741824):IntKind.i64.wrap ((k:Int)+1)=((k+1:Nat):Int):=by rw [zU (by omega) (by omega)];rfl
theorem zxg {A P Q:Prop} (a:A) (h:Q) (e:A->Hd Q->P:=by intro a h;(repeat' first|simp -dsimp only [↓zeU, ↓zaA, ↓zbp, ↓zeV, ↓zeO, ↓zeM, ↓zeP, ↓zeN, ↓zbu, ↓zbq, ↓zbv, ↓zbr, ↓zeQ, ↓zbo, ↓zbw, ↓zbs, ↓zbx, ↓zbt, ↓zeL, ↓zeT, ↓zbn, ↓zby, ↓zeG, ↓zeF, ↓zeK,iN,bT,bF,eN, ↓zco, ↓unC, ↓zX, ↓zM, ↓zN, ↓zQ, ↓zZ, ↓zai, ↓zcv, ↓zaf, ↓zaS, ↓zV, ↓zl, ↓zm, ↓zbg, ↓ze, ↓zae, ↓zC, ↓zaM, ↓zaT, ↓zd, ↓zA, ↓zr, ↓zD, ↓zao, ↓zcY, ↓zdn, ↓zap, ↓zaw, ↓zaN, ↓zaZ, ↓zbk, ↓zw, ↓zaj, ↓zO, ↓zE, ↓zY,zdr,zbm,zbl,unA,zdo,bnd,zdL,zab,zS,zdI,dm,dm1,zG,zak,zdZ,zdY,zH,Q0,Q1,Q2,Q3,Q4,Q5,zW,zx,zy,zT,zL,Q6,Q7,Q8,Q9,Q10,Q11,Q12,Q13,Q14,Nat.reduceAdd,Q15,Int.reduceToNat,Q16,Q17,Q18,Q19,Q20,reduceIte,Q21,Q22,zF,rep,zaa,zeC,toD,zag,Q23,Q24,Q25,Q26,Q27,Q28,Nat.reduceLeDiff,Q29,Nat.reduceSub,Q30,Q31,Q32,sc,Q33,Q34,Q35,Q36,Q37,Q26,Q38,Q39,zis,zio,zil,zit,zcN,ziq,zim,zir,zin,zcM,zcO,ziu,ziv,Bool.not_true,Bool.not_false,List.length_map,a]|with_reducible refine zix ?_|fail);exact h.go):P:=e a ⟨h⟩
theorem c_rIn {σ:List zh} {s:Nat} {b:Int} (hs:s<65536) {K:KT} (hK:K (.d (.bool (inF s b))) σ):zp Tryz.prog znp [.d (.int .u16 s),.d (.int .i64 b)] σ K:=by
 refine zeW e_r12_Has fun hl => ?_
 have fin:∀ z:Bool,inF s b=z->K (.d (.bool z)) σ:=fun z hz=>by rw [← hz];exact hK
 clear hK
 simp only [S_r12_Has,iN,bT,bF,eN]
 refine zo 13 (fun k vs q=>q = σ/\vs = [.d (.int .u16 (s / 2 ^ k:Nat)),.d (.int .i64 k)]/\¬ (0<=b/\b<k/\s / 2 ^ b.toNat % 2=1)) ⟨rfl,by simp,by omega⟩ ?_
 rintro k vs q hk ⟨rfl,rfl,hno⟩
 have hle:s / 2 ^ k<=s:=Nat.div_le_self _ _
 have hz1:s / 2 ^ (k+1)=s / 2 ^ k / 2:=by rw [Nat.pow_succ, ← Nat.div_div_eq_div_mul]
 have hbit:b=(k:Int)->s / 2 ^ b.toNat=s / 2 ^ k:=fun h=>by rw [h];rfl
 obtain ⟨z,hz⟩:∃ z,s / 2 ^ k=z:=⟨_,rfl⟩
 rw [hz] at hle hz1 hbit ⊢
 by_cases hlt:k<13
 ·have hd:decide ((k:Int)<13)=true:=by simp;omega
  have hw:=wk13 k (by omega)
  have hrem:(z:Int).tmod 2=((z % 2:Nat):Int):=by rw [Int.tmod_eq_emod_of_nonneg (by omega)];rfl
  have hquo:IntKind.u16.wrap ((z:Int).tdiv 2)=((z / 2:Nat):Int):=by
   rw [Int.tdiv_eq_ediv_of_nonneg (by omega),show (z:Int) / 2=((z / 2:Nat):Int) from rfl]
   simp [IntKind.wrap,IntKind.bits,IntKind.signed]
   omega
  cases h1:((k:Int)==b)
  ·refine zxg (zmh hd (zmh h1 (zmh hrem (zmh hquo hw)))) ?_
   refine zas.next hlt ⟨rfl,by rw [hz1],?_⟩
   have:¬ (k:Int)=b:=by simpa using h1
   rintro ⟨g1,g2,g3⟩
   exact hno ⟨g1,by omega,g3⟩
  ·have hb:(k:Int)=b:=by simpa using h1
   have hbt:b.toNat=k:=by omega
   cases h2:(((z % 2:Nat):Int)==1)
   ·have h2':¬ z % 2=1:=by simp at h2;omega
    refine zxg (zmh hd (zmh h1 (zmh h2 (zmh hrem (zmh hquo hw))))) ?_
    refine zas.next hlt ⟨rfl,by rw [hz1],?_⟩
    rintro ⟨g1,g2,g3⟩
    rw [hbit hb.symm] at g3
    exact h2' g3
   ·have h2':z % 2=1:=by simp at h2;omega
    refine zxg (zmh hd (zmh h1 (zmh h2 (zmh hrem (zmh hquo hw))))) ?_
    refine zI hl ?_
    exact fin _ (decide_eq_true ⟨by omega,by omega,by rw [hbit hb.symm];exact h2'⟩)
 ·have hd:decide ((k:Int)<13)=false:=by simp;omega
  refine zxg hd ?_
  refine zI hl ?_
  exact fin _ (decide_eq_false fun h=>hno ⟨h.1,by omega,h.2.2⟩)
theorem c_rList {σ:List zh} {s:Nat} (hs:s<65536) {K:KT} (hK:K (.d (.slice (zcH (memF s)))) σ):zp Tryz.prog zrP [.d (.int .u16 s)] σ K:=by
 refine zfc e_r12_List fun hl => ?_
 simp only [zxK,iN,bT,bF,eN]
 refine zcD 13 (fun k vs q=>vs = [.own σ.length (zcH (memN s k)),.d (.int .i64 k)]/\q = σ++[.tok 1 (memN s k).length]) (.tok 0 [] 1 rfl (by simp) (.refl _ _)) ⟨rfl,rfl⟩ ?_
 rintro k vs q hk ⟨rfl,rfl⟩
 have hln:=zyu s k
 have hlm:(zcH (memN s k)).length=(memN s k).length:=List.length_map ..
 by_cases hlt:k<13
 ·have hd:decide ((k:Int)<13)=true:=by simp;omega
  have hw:=wk13 k (by omega)
  refine zxg hd ?_
  refine c_rIn hs ?_
  have hnx:=memN_next s k
  cases h1:inF s (k:Int)
  ·rw [h1] at hnx
   simp only [Bool.false_eq_true,if_false,List.append_nil] at hnx
   refine zxg hw ?_
   exact zas.next hlt ⟨by rw [hnx],by rw [hnx]⟩
  ·rw [h1,if_pos rfl] at hnx
   refine zxg (zmh hw hlm) ?_
   exact zas.next hlt ⟨by rw [hnx];simp,by rw [hnx];simp⟩
 ·have hd:decide ((k:Int)<13)=false:=by simp;omega
  have hk13:k=13:=by omega
  subst hk13
  refine zxg hd ?_
  refine zI hl ?_
  exact hK
theorem wrap16u {x:Int} (h0:0<=x) (h1:x<65536):IntKind.u16.wrap x=x:=by
 simp [IntKind.wrap,IntKind.bits,IntKind.signed];omega
theorem c_rSetOf {σ:List zh} {l:List Int} (hl0:l.length<=1073741824) {K:KT} (hK:K (.d (.int .u16 (ofN l 13))) σ):zp Tryz.prog ztS [.d (.slice (zcH l))] σ K:=by
 refine zfc e_r12_Of fun hl => ?_
 have hlm:(zcH l).length=l.length:=List.length_map ..
 simp only [S_r12_Of,iN,bT,bF,eN]
 refine zo 13 (fun k vs q=>vs = [.d (.int .u16 (ofN l k)),.d (.int .u16 ((2 ^ k:Nat):Int)),.d (.int .i64 k)]/\q = σ) ⟨rfl,rfl⟩ ?_
 rintro k vs q hk ⟨rfl,rfl⟩
 have hlt2:=ofN_lt l k
 have hp:2 ^ k<=2 ^ 13:=Nat.pow_le_pow_right (by omega) hk
 have hnx:ofN l (k+1)=ofN l k+if (k:Int)∈l then 2 ^ k else 0:=rfl
 have hpn:2 ^ (k+1)=2 ^ k*2:=Nat.pow_succ ..
 obtain ⟨P,hP⟩:∃ P, 2 ^ k=P:=⟨_,rfl⟩
 obtain ⟨Q,hQ⟩:∃ Q,ofN l k=Q:=⟨_,rfl⟩
 rw [hP] at hlt2 hp hnx hpn ⊢
 rw [hQ] at hlt2 hnx ⊢
 by_cases hlt:k<13
 ·have hd:decide ((k:Int)<13)=true:=by simp;omega
  have hw:=wk13 k (by omega)
  have hm:IntKind.u16.wrap ((P:Int)*2)=((P*2:Nat):Int):=by rw [wrap16u (by omega) (by omega)];omega
  have ha:IntKind.u16.wrap ((Q:Int)+P)=((Q+P:Nat):Int):=by rw [wrap16u (by omega) (by omega)];omega
  refine zxg hd ?_
  refine zo l.length (fun j vs q2=>vs = [.d (.int .u16 Q),.d (.int .i64 j)]/\q2=q/\(k:Int) ∉ l.take j) ⟨rfl,rfl,by simp⟩ ?_
  rintro j vs q hj ⟨rfl,rfl,hno⟩
  by_cases hjl:j<l.length
  ·have hd2:decide ((j:Int)<(l.length:Int))=true:=by simp;omega
   have hx:l[j]? = some l[j]:=by simp [hjl]
   have hgx:=zK (f:=fun t:Int => [D.int .i64 t]) hx
   obtain ⟨x,hxe⟩:∃ x,l[j]=x:=⟨_,rfl⟩
   rw [hxe] at hx hgx
   cases h1:(x==(k:Int))
   ·have hne:(k:Int)≠x:=by simp at h1;omega
    refine zxg (zmh hd2 (zmh hlm (zmh hgx (zmh h1 (wk13 j (by omega)))))) ?_
    refine zas.next hjl ⟨rfl,rfl,?_⟩
    rw [List.take_add_one,hx]
    simp [hno,hne]
   ·have he:x=(k:Int):=by simpa using h1
    have hm2:(k:Int)∈l:=he▸List.mem_of_getElem? hx
    rw [if_pos hm2] at hnx
    refine zxg (zmh hd2 (zmh hlm (zmh hgx (zmh h1 (zmh hw (zmh hm ha)))))) ?_
    exact zas.next hlt ⟨by rw [hnx,hpn],rfl⟩
  ·have hd2:decide ((j:Int)<(l.length:Int))=false:=by simp;omega
   rw [List.take_of_length_le (by omega)] at hno
   rw [if_neg hno] at hnx
   rw [Nat.add_zero] at hnx
   refine zxg (zmh hd2 (zmh hlm (zmh hw hm))) ?_
   exact zas.next hlt ⟨by rw [hnx,hpn];rfl,rfl⟩
 ·have hd:decide ((k:Int)<13)=false:=by simp;omega
  have hk13:k=13:=by omega
  subst hk13
  rw [← hQ]
  refine zxg hd ?_
  refine zI hl ?_
  exact hK
theorem times13 (f:Int):0<=zcA 3 f/\zcA 3 f<=13:=by
 unfold zcA;split<;>omega
theorem gq48 {P Q:Prop} (h:Q) (e:Hd Q->P:=by intro h;(repeat' first|simp -dsimp only [↓zeU, ↓zaA, ↓zbp, ↓zeV, ↓zeO, ↓zeM, ↓zeP, ↓zeN, ↓zbu, ↓zbq, ↓zbv, ↓zbr, ↓zeQ, ↓zbo, ↓zbw, ↓zbs, ↓zbx, ↓zbt, ↓zeL, ↓zeT, ↓zbn, ↓zby, ↓zeG, ↓zeF, ↓zeK,iN,bT,bF,eN, ↓zco, ↓unC, ↓zX, ↓zM, ↓zN, ↓zQ, ↓zZ, ↓zai, ↓zcv, ↓zaf, ↓zaS, ↓zV, ↓zl, ↓zm, ↓zbg, ↓ze, ↓zae, ↓zC, ↓zaM, ↓zaT, ↓zd, ↓zA, ↓zr, ↓zD, ↓zao, ↓zcY, ↓zdn, ↓zap, ↓zaw, ↓zaN, ↓zaZ, ↓zbk, ↓zw, ↓zaj, ↓zO, ↓zE, ↓zY,zdr,zbm,zbl,unA,zdo,bnd,zdL,zab,zS,zdI,dm,dm1,zG,zak,zdZ,zdY,zH,Q0,Q1,Q2,Q3,Q4,Q5,zW,zx,zy,zT,zL,Q6,Q7,Q8,Q9,Q10,Q11,Q12,Q13,Q14,Nat.reduceAdd,Q15,Int.reduceToNat,Q16,Q17,Q18,Q19,Q20,reduceIte,Q21,Q22,zF,rep,zaa,zeC,toD,zag,Q23,Q24,Q25,Q26,Q27,Q28,Nat.reduceLeDiff,Q29,Nat.reduceSub,Q30,Q31,Q32,sc,Q33,Q34,Q35,Q36,Q37,Q26,Q38,Q39,zis,zio,zil,zit,zcN,ziq,zim,zir,zin,zcM,zcO,ziu,ziv,Bool.not_true,Bool.not_false,List.length_map]|with_reducible refine zix ?_|fail);exact h.go):P:=e ⟨h⟩
theorem c_rAll {σ:List zh} {f:Int} {K:KT} (hK:K (.d (.int .u16 (allF (zcA 3 f).toNat))) σ):zp Tryz.prog zuw [.d (.int .i64 f)] σ K:=by
 refine zfc e_r12_All fun hl => ?_
 have ht:=times13 f
 obtain ⟨N,hN⟩:∃ N:Nat,(zcA 3 f).toNat=N:=⟨_,rfl⟩
 have hN2:zcA 3 f=(N:Int):=by omega
 rw [hN] at hK
 simp only [S_r12_All,iN,bT,bF,eN]
 refine zcD N (fun k vs q=>vs = [.own σ.length (zcH (zuc k)),.d (.int .i64 k)]/\q = σ++[.tok 1 k]) (.tok 0 [] 1 rfl (by simp) (.refl _ _)) ⟨rfl,rfl⟩ ?_
 rintro k vs q hk ⟨rfl,rfl⟩
 have hlm:(zcH (zuc k)).length=k:=by simp [zuc]
 refine gq48 ?_
 refine zsy ?_
 rw [hN2]
 by_cases hlt:k<N
 ·have hd:decide ((k:Int)<(N:Int))=true:=by simp;omega
  refine zxg (zmh hd (zmh (wk13 k (by omega)) hlm)) ?_
  exact zas.next hlt ⟨by rw [zwF];simp,rfl⟩
 ·have hd:decide ((k:Int)<(N:Int))=false:=by simp;omega
  have hk2:k=N:=by omega
  subst hk2
  refine zxg hd ?_
  refine c_rSetOf (by rw [List.length_map] at hlm;omega) ?_
  refine gq48 ?_
  refine zI hl ?_
  exact hK
theorem c_rBoth {σ:List zh} {a b:Nat} (ha:a<65536) (hb:b<65536) {K:KT} (hK:K (.d (.int .u16 (bothF a b))) σ):zp Tryz.prog zrQ [.d (.int .u16 a),.d (.int .u16 b)] σ K:=by
 refine zeW e_r12_Both fun hl => ?_
 simp only [zxL,iN,bT,bF,eN]
 refine zcD 13 (fun k vs q=>vs = [.own σ.length (zcH (zvx a b k)),.d (.int .i64 k)]/\q = σ++[.tok 1 (zvx a b k).length]) (.tok 0 [] 1 rfl (by simp) (.refl _ _)) ⟨rfl,rfl⟩ ?_
 rintro k vs q hk ⟨rfl,rfl⟩
 have hln:=bothL_len a b k
 have hlm:(zcH (zvx a b k)).length=(zvx a b k).length:=List.length_map ..
 by_cases hlt:k<13
 ·have hd:decide ((k:Int)<13)=true:=by simp;omega
  have hw:=wk13 k (by omega)
  refine zxg hd ?_
  refine c_rIn ha ?_
  have hnx:=bothL_next a b k
  cases h1:inF a (k:Int)
  ·rw [h1] at hnx
   simp only [Bool.false_and,Bool.false_eq_true,if_false,List.append_nil] at hnx
   refine zxg hw ?_
   exact zas.next hlt ⟨by rw [hnx],by rw [hnx]⟩
  ·rw [h1,Bool.true_and] at hnx
   refine gq48 ?_
   refine c_rIn hb ?_
   cases h2:inF b (k:Int)
   ·rw [h2] at hnx
    simp only [Bool.false_eq_true,if_false,List.append_nil] at hnx
    refine zxg hw ?_
    exact zas.next hlt ⟨by rw [hnx],by rw [hnx]⟩
   ·rw [h2,if_pos rfl] at hnx
    refine zxg (zmh hw hlm) ?_
    exact zas.next hlt ⟨by rw [hnx];simp,by rw [hnx];simp⟩
 ·have hd:decide ((k:Int)<13)=false:=by simp;omega
  have hk13:k=13:=by omega
  subst hk13
  refine zxg hd ?_
  refine c_rSetOf (by omega) ?_
  refine gq48 ?_
  refine zI hl ?_
  exact hK
end Go.Proofs.YtfgbofkdhfjegaaGreat
