/- Requests that wait, in a list by clients: the document's pool. No program in sight. -/
import Derived.Test.YtpgahkdjkanblaaGreatRq3
import Derived.Test.YtpgahkdjkanblaaGreatNr2
import Derived.Test.YtpgahkdjkanblaaGreatSpTab
import Derived.Test.YtpgahkdjkanblaaGreatPt2
import Derived.Test.YtpgahkdjkanblaaGreatWo1
import Derived.Test.YtpgahkdjkanblaaGreatAu3
import Derived.Test.YtpgahkdjkanblaaGreatSpPut
set_option linter.all false
namespace Go.AW
theorem zpx {q:PQ} {n:Nat} {o:Option zC} (h:q[n]? = some o):zfH q=zfH (q.take n)++(o.toList++zfH (q.drop (n+1))):=by
 obtain ⟨hn,rfl⟩:=List.getElem?_eq_some_iff.1 h
 have e:q=q.take n++q[n]::q.drop (n+1):=by rw [List.getElem_cons_drop];exact (List.take_append_drop n q).symm
 conv=>lhs;rw [e]
 simp only [zfH,List.filterMap_append,List.filterMap_cons,id_eq]
 cases q[n]<;>rfl
theorem zvp {q:PQ} {n:Nat} (o:Option zC) (h:n<q.length):zfH (q.set n o)=zfH (q.take n)++(o.toList++zfH (q.drop (n+1))):=by
 have:=zpx (q:=q.set n o) (n:=n) (o:=o) (by simp [h])
 rwa [List.take_set_of_le (Nat.le_refl _),List.drop_set_of_lt (by omega)] at this
theorem zjS.before {q:PQ} (hq:zjS q) {n:Nat} {y:zC} (h:y∈zfH (q.take n)):y.client<n:=by
 obtain ⟨i,hi⟩:=zrH h
 rw [List.getElem?_take] at hi
 split at hi
 ·have:=(hq.at_ i y hi).1;omega
 ·cases hi
theorem zjS.behind {q:PQ} (hq:zjS q) {n:Nat} {y:zC} (h:y∈zfH (q.drop (n+1))):(n:Int)<y.client:=by
 obtain ⟨i,hi⟩:=zrH h
 rw [List.getElem?_drop] at hi
 have:=(hq.at_ _ y hi).1;omega
theorem of_wait {q:PQ} {c:Int} {x:zC} (h:ofF q c=some x):x∈zfH q:=by
 obtain ⟨_,_,h⟩:=ofF_some h
 simp only [zfH,List.mem_filterMap,id_eq,exists_eq_right]
 exact List.mem_of_getElem? h
theorem zjS.client {q:PQ} (hq:zjS q) {c:Int} {x:zC} (h:ofF q c=some x):x.client=c:=by
 obtain ⟨h0,h8,hg⟩:=ofF_some h
 have:=(hq.at_ _ x hg).1;omega
theorem zjS.of_none {q:PQ} (hq:zjS q) {c:Int} (h:∀ y∈zfH q,y.client≠c):ofF q c=none:=by
 cases ho:ofF q c with
 | none=>rfl
 | some x=>exact absurd (hq.client ho) (h x (of_wait ho))
theorem zza {α:Type} {l:List α} {p : α->Bool} (h:∀ x∈l,p x=true):l.filter p=l:=List.filter_eq_self.2 h
theorem zjS.without {q:PQ} (hq:zjS q) {c:Int} (h0:0<=c) (h8:c<8):(zfH q).filter (fun y=>y.client != c)=zfH (q.set c.toNat none):=by
 have hl:=hq.len
 have hg:=hq.get h0 h8
 rw [zpx hg,zvp none (by omega)]
 simp only [List.filter_append,Option.toList_none,List.nil_append]
 rw [zza (l:=zfH (q.take c.toNat)) fun y hy=>by have:=hq.before hy;simp;omega,zza (l:=zfH (q.drop (c.toNat+1))) fun y hy=>by have:=hq.behind hy;simp;omega]
 congr 1
 cases ho:ofF q c with
 | none=>rfl
 | some x=>simp [hq.client ho]
theorem zjS.place {q:PQ} (hq:zjS q) {c:Int} (h0:0<=c) (h8:c<8) {k:Nat} (hlo:∀ y∈(zfH (q.set c.toNat none)).take k,y.client<c) (hk:k<=(zfH (q.set c.toNat none)).length)
  (hhi:∀ y,(zfH (q.set c.toNat none))[k]? = some y->¬ y.client<c) (x:zC) :
  (zfH (q.set c.toNat none)).take k++(x::(zfH (q.set c.toNat none)).drop k)=zfH (q.set c.toNat (some x)):=by
 have hl:=hq.len
 have e:=zvp (q:=q) none (show c.toNat<q.length by omega)
 have e2:=zvp (q:=q) (some x) (show c.toNat<q.length by omega)
 simp only [Option.toList_none,List.nil_append,Option.toList_some] at e e2
 obtain ⟨A,hA⟩:∃ A,zfH (q.take c.toNat)=A:=⟨_,rfl⟩
 obtain ⟨B,hB⟩:∃ B,zfH (q.drop (c.toNat+1))=B:=⟨_,rfl⟩
 have hAlt:∀ y∈A,y.client<c:=fun y hy=>by rw [← hA] at hy;have:=hq.before hy;omega
 have hBgt:∀ y∈B,c<y.client:=fun y hy=>by rw [← hB] at hy;have:=hq.behind hy;omega
 rw [hA,hB] at e e2
 rw [e] at hlo hk hhi ⊢
 rw [e2]
 have hkA:k=A.length:=by
  rcases Nat.lt_trichotomy k A.length with h|h|h
  ·exact absurd (hAlt A[k] (List.getElem_mem h)) (hhi A[k] (by rw [List.getElem?_append_left h];simp [h]))
  ·exact h
  ·exfalso
   rw [List.length_append] at hk
   have hb:B[0]? = some (B[0]'(by omega)):=List.getElem?_eq_getElem _
   have hm:B[0]'(by omega)∈(A++B).take k:=by
    refine List.mem_of_getElem? (i:=A.length) ?_
    rw [List.getElem?_take,if_pos h,List.getElem?_append_right (Nat.le_refl _),Nat.sub_self]
    exact hb
   have h1:=hlo _ hm
   have h2:=hBgt _ (List.getElem_mem (show 0<B.length by omega))
   omega
 subst hkA
 simp
def prevC (w:List zC):Nat->Int
 | 0 => -1
 | k+1=>match w[k]? with|some x=>x.client|none => -1
theorem zjS.push {q:PQ} (hq:zjS q) {x:zC} (hx:zr [x]=0) (hlt:∀ y∈zfH q,y.client<x.client):canPut q x=true/\zfH (putQ q x)=zfH q++[x]:=by
 obtain ⟨h0,h8,_⟩:=one_ok hx
 have hl:=hq.len
 have hno:ofF q x.client=none:=hq.of_none fun y hy=>by have:=hlt y hy;omega
 have hc:canPut q x=true:=by simp [canPut,hx,hno,mayPut]
 refine ⟨hc,?_⟩
 have hg:=hq.get h0 h8
 rw [hno] at hg
 rw [putQ,if_pos hc,zvp _ (by omega),zpx hg]
 have hB:zfH (q.drop (x.client.toNat+1)) = []:=by
  rw [List.eq_nil_iff_forall_not_mem]
  intro y hy
  have h1:=hq.behind hy
  have h2:=hlt y (by rw [zpx hg];simp [hy])
  omega
 rw [hB];simp
theorem zjS.prev {q:PQ} (hq:zjS q) {k:Nat} {x:zC} (hx:(zfH q)[k]? = some x):prevC (zfH q) k<x.client:=by
 have hxm:=List.mem_of_getElem? hx
 obtain ⟨i,hi⟩:=zrH hxm
 have hxc:=(hq.at_ i x hi).1
 cases k with
 | zero=>simp only [prevC];omega
 | succ k=>
  have hk:=(List.getElem?_eq_some_iff.1 hx).1
  have hy:(zfH q)[k]? = some ((zfH q)[k]'(by omega)):=List.getElem?_eq_getElem _
  simp only [prevC,hy]
  -- the list is rising
  have hp:(zfH q).Pairwise fun a b=>a.client<b.client:=by
   have key:∀ (l:PQ) (a:Nat),(∀ (i:Nat) x,l[i]? = some (some x)->x.client=((a+i:Nat):Int))->(l.filterMap id).Pairwise fun a b=>a.client<b.client:=by
    intro l
    induction l with
    | nil=>intro a _;simp
    | cons o l ih=>
     intro a h
     have hr:=ih (a+1) fun i x hi=>by have:=h (i+1) x (by simpa using hi);rw [this];congr 1;omega
     cases o with
     | none=>simpa using hr
     | some x=>
      simp only [List.filterMap_cons,id_eq,List.pairwise_cons]
      refine ⟨fun y hy => ?_,hr⟩
      obtain ⟨j,hj⟩:=zrH (q:=l) hy
      have h1:=h 0 x rfl
      have h2:=h (j+1) y (by simpa using hj)
      omega
   exact key q 0 fun i x hi=>by have:=(hq.at_ i x hi).1;simpa using this
  have:=List.pairwise_iff_getElem.1 hp k (k+1) (by omega) hk (by omega)
  obtain ⟨_,rfl⟩:=List.getElem?_eq_some_iff.1 hx
  exact this
structure TStep where
 what:Int
 s:zC
 client:Int
 time:Int
 opn:List (List zC)
theorem signedD_sz {x:zC} {n:Nat} (h:zeS (zaN x)<=n) (hn:n<=2097152):zlf x.op<=20971520:=by
 have:=opSz_bulk x.op
 simp only [zaN,opD,zeS,ziS] at h this
 omega
theorem batch_sz {b:List zC} {n:Nat} (h:zfq (zaP b)<=n) (hn:n<=2097152):(∀ s∈b,zlf s.op<=20971520)/\b.length<=2097152:=by
 unfold zaP at h
 exact ⟨fun s hs=>signedD_sz (Nat.le_trans (zgT (f:=zaN) hs) h) hn,Nat.le_trans (zir (f:=zaN) (fun a=>by simp only [zaN,zeS,ziS];omega) b) (by omega)⟩
end Go.AW

/- The law NewviewValid, from the contracts. -/
set_option maxRecDepth 100000
namespace Go.Proofs.YtpgahkdjkanblaaGreat
open Go.AW
def tyWorld:List Ty := [.slice [.slice [.int .u8]],.slice tySign]
theorem dec_world {ds:List D} (h:zgk tyWorld ds):∃ (tab:List (List UInt8)) (signs:List zy),ds = [.slice (ziF tab),.slice (zO signs)]:=by
 obtain ⟨d1,ds,rfl,h1,h⟩:=zaG h
 obtain ⟨d2,ds,rfl,h2,h⟩:=zaG h
 obtain rfl:=zlO h
 obtain ⟨tab,rfl⟩:=dec_recs h1
 obtain ⟨signs,rfl⟩:=zmh h2 (fun e he=>(zAE he).imp fun _ h=>h.1)
 exact ⟨tab,signs,rfl⟩
theorem changes_all {cs:List zJ} {n:Nat} (h:zfq (zR cs)<=n) (hn:n<=1048576) (hR:∀ c∈cs,zgL c):∀ c∈cs,zqf c:=by
 intro c hc
 obtain ⟨_,q2⟩:=leC_bulk h
 obtain ⟨q3,q4,q5⟩:=q2 c hc
 have hb:zeS (zat c)<=n:=Nat.le_trans (zgT (f:=zat) hc) h
 simp only [zat,zeS,ziS] at hb
 have hp:∀ p∈c.above,(∀ x∈p.batch,zlf x.op<=20971520)/\p.batch.length<=2097152/\leP n p:=by
  intro p hp
  have h1:zeS (zei p)<=n:=by
   have:=zgT (f:=zei) hp
   unfold zdC at hb
   omega
  have h2:zfq (zaP p.batch)<=n:=by simp only [zei,zeS,ziS] at h1;omega
  have h3:=batch_sz h2 (by omega)
  exact ⟨h3.1,h3.2,q5 p hp⟩
 refine ⟨⟨by omega,by omega,fun p hpm => ?_⟩,⟨by omega,by omega,fun p hpm => ?_⟩,fun p hpm => ?_,(hR c hc).2.2.1⟩
 ·obtain ⟨a1,a2,a3⟩:=hp p hpm
  exact ⟨by have:=a3.1;omega,by omega,fun x hx=>zsZ (a1 x hx)⟩
 ·obtain ⟨a1,a2,a3⟩:=hp p hpm
  refine ⟨by have:=a3.1;omega,by omega,fun x hx => ?_⟩
  obtain ⟨_,b2⟩:=a3.2
  obtain ⟨b3,b4⟩:=b2 x hx
  exact ⟨by omega,fun r hr=>by have:=b4 r hr;omega⟩
 ·obtain ⟨a1,a2,a3⟩:=hp p hpm
  exact ⟨a1,by omega,by have:=a3.1;omega⟩
structure TGi where
 id:Nat
 m:Nat
 t:Nat
 id2:Nat
 m2:Nat
 t2:Nat
structure TG (i:TGi) (σ:List zd) (L:List (List UInt8)) (G:List zy):Prop where
 tab:zea σ i.id i.m i.t L
 led:zdL σ i.id2 i.m2 i.t2 G
 n1:i.id≠i.id2
 n2:i.m≠i.m2
def zeD (i:TGi) (σ:List zd) (L:List (List UInt8)) (G:List zy):List zd:=putLed (putTab σ i.id i.m i.t L) i.id2 i.m2 i.t2 G
theorem TG.app {i:TGi} {σ:List zd} {L:List (List UInt8)} {G:List zy} (h:TG i σ L G) (τ:List zd):TG i (σ ++ τ) L G:=⟨h.tab.app τ,h.led.app τ,h.n1,h.n2⟩
theorem TG.put {i:TGi} {σ:List zd} {L:List (List UInt8)} {G:List zy} (h:TG i σ L G) (L':List (List UInt8)) (G':List zy):TG i (zeD i σ L' G') L' G':=
 ⟨(h.tab.put L').putLed (zdL.putTab h.tab h.led h.n1 h.n2 L') h.n1 h.n2 G',(zdL.putTab h.tab h.led h.n1 h.n2 L').put G',h.n1,h.n2⟩
theorem TG.put_app {i:TGi} {σ:List zd} {L:List (List UInt8)} {G:List zy} (h:TG i σ L G) (L':List (List UInt8)) (G':List zy) (τ:List zd):zeD i (σ ++ τ) L' G' = zeD i σ L' G' ++ τ:=by
 unfold zeD
 rw [ztg h.tab,zth (zdL.putTab h.tab h.led h.n1 h.n2 L')]
theorem zfk (i:TGi) (σ:List zd) (L:List (List UInt8)) (G:List zy):(zeD i σ L G).length = σ.length:=by simp [zeD,putTab,putLed]
theorem TG.self {i:TGi} {σ:List zd} {L:List (List UInt8)} {G:List zy} (h:TG i σ L G):zeD i σ L G = σ:=by
 unfold zeD;rw [h.tab.self,h.led.self]
theorem TG.lows {i:TGi} {σ:List zd} {L:List (List UInt8)} {G:List zy} (h:TG i σ L G) (hl:zgl σ.length σ) (L':List (List UInt8)) (G':List zy):zgl σ.length (zeD i σ L' G'):=by
 have h1:=h.tab.lows hl L'
 have h2:=(zdL.putTab h.tab h.led h.n1 h.n2 L').lows (by rw [zpB];exact h1) G'
 rw [zpB] at h2
 exact h2
theorem zvM {i:TGi} {σ:List zd} {L L':List (List UInt8)} {G:List zy} (h:TG i σ L G):putTab σ i.id i.m i.t L' = zeD i σ L' G:=by
 unfold zeD
 rw [(zdL.putTab h.tab h.led h.n1 h.n2 L').self]
theorem put_led_tab {i:TGi} {σ:List zd} {L:List (List UInt8)} {G G':List zy} (h:TG i σ L G):putLed σ i.id2 i.m2 i.t2 G' = zeD i σ L G':=by
 unfold zeD
 rw [h.tab.self]
theorem TG.ne {i:TGi} {σ:List zd} {L:List (List UInt8)} {G:List zy} (h:TG i σ L G) : [i.id,i.m,i.t,i.id2,i.m2,i.t2].Nodup:=by
 obtain ⟨a1,a2,a3⟩:=h.tab.ne
 obtain ⟨b1,b2,b3⟩:=h.led.ne
 obtain ⟨⟨c1,c2⟩,⟨d1,d2⟩,⟨e1,e2,e3⟩⟩:=apart2 h.tab h.led h.n1 h.n2
 have:=h.n1
 have:=h.n2
 simp
 exact ⟨⟨a1,a2, ‹_›,c1,c2⟩,⟨a3,d1, ‹_›,d2⟩,⟨e1,e2,e3⟩,⟨b1,b2⟩,b3⟩
theorem set2 {α:Type} (l:List α) (i:Nat) (x y : α):(l.set i x).set i y=l.set i y:=List.set_set ..
theorem setc {α:Type} (l:List α) {i j:Nat} (x y : α) (h:i≠j):(l.set i x).set j y=(l.set j y).set i x:=List.set_comm _ _ h
theorem TG.other {i:TGi} {σ:List zd} {k:Nat} (hk:k≠i.id/\k≠i.m/\k≠i.t/\k≠i.id2/\k≠i.m2/\k≠i.t2) (L:List (List UInt8)) (G:List zy):(zeD i σ L G)[k]? = σ[k]?:=by
 obtain ⟨h1,h2,h3,h4,h5,h6⟩:=hk
 unfold zeD putTab putLed
 rw [List.getElem?_set_ne (Ne.symm h4),List.getElem?_set_ne (Ne.symm h6),List.getElem?_set_ne (Ne.symm h5),List.getElem?_set_ne (Ne.symm h2),List.getElem?_set_ne (Ne.symm h1),List.getElem?_set_ne (Ne.symm h3)]
theorem TG.put_put {i:TGi} {σ:List zd} {L:List (List UInt8)} {G:List zy} (h:TG i σ L G) (L1 L2:List (List UInt8)) (G1 G2:List zy):zeD i (zeD i σ L1 G1) L2 G2=zeD i σ L2 G2:=by
 have h1:=(h.put L1 G1).put L2 G2
 have h2:=h.put L2 G2
 apply List.ext_getElem?
 intro k
 by_cases e1:k=i.id
 ·subst e1;rw [h1.tab.box,h2.tab.box]
 by_cases e2:k=i.m
 ·subst e2;rw [h1.tab.map,h2.tab.map]
 by_cases e3:k=i.t
 ·subst e3;rw [h1.tab.tok,h2.tab.tok]
 by_cases e4:k=i.id2
 ·subst e4;rw [h1.led.box,h2.led.box]
 by_cases e5:k=i.m2
 ·subst e5;rw [h1.led.map,h2.led.map]
 by_cases e6:k=i.t2
 ·subst e6;rw [h1.led.tok,h2.led.tok]
 rw [TG.other ⟨e1,e2,e3,e4,e5,e6⟩,TG.other ⟨e1,e2,e3,e4,e5,e6⟩,TG.other ⟨e1,e2,e3,e4,e5,e6⟩]
def noEn:zaI:=⟨0, 0,[], 0, 0⟩
def zlk (L:List (List UInt8)) (key:Int) (x:zaI):Int:=if digE L x.batch≠0 then digE L x.batch else votE (zom L x.batch) key 2 x.view x.seq (zoS L x.batch)
def zqm (L:List (List UInt8)) (x:zaI):List (List UInt8):=if digE L x.batch≠0 then zom L x.batch else zyt (zom L x.batch) 2 x.view x.seq (zoS L x.batch)
def zqn (L:List (List UInt8)) (G:List zy) (key:Int) (x:zaI):List zy:=if digE L x.batch≠0 then G else zyu (zom L x.batch) G key 2 x.view x.seq (zoS L x.batch)
def entX (L:List (List UInt8)) (key:Int) (x:zaI):zaI:=if zlk L key x≠0 then noEn else
 { x with key:=(votS (zom L x.batch) key 2 x.view x.seq (zoS L x.batch)).key,dig:=(votS (zom L x.batch) key 2 x.view x.seq (zoS L x.batch)).dig }
structure LoopR where
 e:Int
 L:List (List UInt8)
 G:List zy
 out:List zaI
def zbr (key:Int):List zaI->List (List UInt8)->List zy->List zaI->LoopR
 | [],L,G,out=>⟨0,L,G,out⟩
 | x::r,L,G,out=>if zlk L key x≠0 then ⟨zlk L key x,zqm L x,zqn L G key x,out⟩ else zbr key r (zqm L x) (zqn L G key x) (out++[entX L key x])
structure MakeR where
 m:zcS
 e:Int
 L:List (List UInt8)
 G:List zy
def zhA (L:List (List UInt8)) (G:List zy) (m:zcS):MakeR:=
 if zaT (zbJ m)≠0 then ⟨zed,zaT (zbJ m),L,G⟩
 else if zvJ L m.src (zee m)≠0 then ⟨zed,zvJ L m.src (zee m),zgn L (zee m),zlP L G m.src (zee m)⟩
 else ⟨{ m with key:=(sgnS L m.src (zee m)).key,sdig:=(sgnS L m.src (zee m)).dig }, 0,zgn L (zee m),zlP L G m.src (zee m)⟩
def zpV (f view:Int) (cs:List zJ) (xs:List zaI):zcS:={ zed with kind := 8,src:=zbG f view,view:=view,changes:=cs,entries:=xs }
theorem take_get {α:Type} {l:List α} {n k:Nat} (h:k<n):(l.take n)[k]? = l[k]?:=by rw [List.getElem?_take,if_pos h]
theorem srcOk_take {f:Int} {cs:List zJ} {n k:Nat} (h:k<n):zrL f (cs.take n) k=zrL f cs k:=by
 have hp:zfu (cs.take n) k=zfu cs k:=by
  cases k with
  | zero=>rfl
  | succ k=>simp only [zfu,take_get (show k<n by omega)]
 simp only [zrL,take_get h,hp]
theorem ztv {f view:Int} {cs:List zJ} (h:zjn f view cs=0):zbs f=0/\¬ (view<1∨view > 9007199254740992)/\zld f cs cs.length=true/\zaR 2 f<=cs.length:=by
 unfold zjn at h
 by_cases h0:zbs f≠0
 ·rw [if_pos h0] at h;exact absurd h h0
 rw [if_neg h0] at h
 by_cases h1:view<1∨view > 9007199254740992
 ·rw [if_pos h1] at h;cases h
 rw [if_neg h1] at h
 by_cases h2:zld f cs cs.length=false
 ·rw [if_pos h2] at h;cases h
 rw [if_neg h2] at h
 by_cases h3:(cs.length:Int)<zaR 2 f
 ·rw [if_pos h3] at h;cases h
 exact ⟨by simpa using h0,h1,by simpa using h2,by omega⟩
theorem zAG {f:Int} (h:zbs f=0):1<=f/\f<=4:=by
 unfold zbs at h
 split at h
 ·cases h
 ·omega
theorem mayF_take {f view:Int} {cs:List zJ} (h:zjn f view cs=0):zjn f view (cs.take (zaR 2 f).toNat)=0:=by
 obtain ⟨h1,h2,h3,h4⟩:=ztv h
 have hf:=zAG h1
 have ht:zaR 2 f=2*f+1:=by rw [zaR,if_neg (by omega)]
 have hl:(cs.take (zaR 2 f).toNat).length=(zaR 2 f).toNat:=by rw [List.length_take];omega
 have hs:zld f (cs.take (zaR 2 f).toNat) (cs.take (zaR 2 f).toNat).length=true:=by
  simp only [zld,List.all_eq_true,List.mem_range] at h3 ⊢
  intro k hk
  rw [srcOk_take (by omega)]
  exact h3 k (by omega)
 unfold zjn
 rw [if_neg (by simp [h1]),if_neg h2,if_neg (by rw [hs];decide),if_neg (by omega)]
end Go.Proofs.YtpgahkdjkanblaaGreat
