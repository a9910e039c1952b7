/- Requests that wait, in a list by clients: the document's pool. No program in sight. -/
import Derived.Test.YtpgahkdjkanblaaGreatRq3
import Derived.Test.YtpgahkdjkanblaaGreatNr2
import Derived.Test.YtpgahkdjkanblaaGreatSpTab
import Derived.Test.YtpgahkdjkanblaaGreatPt2
import Derived.Test.YtpgahkdjkanblaaGreatWo1
import Derived.Test.YtpgahkdjkanblaaGreatWr5
import Derived.Test.YtpgahkdjkanblaaGreatPp1
import Derived.Test.YtpgahkdjkanblaaGreatSpPut
set_option linter.all false
namespace Go.AW
theorem zqb {q:PQ} {n:Nat} {o:Option zJ} (h:q[n]? = some o):zfP q=zfP (q.take n)++(o.toList++zfP (q.drop (n+1))):=by
 obtain ⟨hn,rfl⟩:=List.getElem?_eq_some_iff.1 h
 have e:q=q.take n++q[n] :: q.drop (n+1):=by rw [List.getElem_cons_drop];exact (List.take_append_drop n q).symm
 conv=>lhs;rw [e]
 simp only [zfP,List.filterMap_append,List.filterMap_cons,id_eq]
 cases q[n] <;> rfl
theorem zvg {q:PQ} {n:Nat} (o:Option zJ) (h:n<q.length):zfP (q.set n o)=zfP (q.take n)++(o.toList++zfP (q.drop (n+1))):=by
 have:=zqb (q:=q.set n o) (n:=n) (o:=o) (by simp [h])
 rwa [List.take_set_of_le (Nat.le_refl _),List.drop_set_of_lt (by omega)] at this
theorem zjZ.before {q:PQ} (hq:zjZ q) {n:Nat} {y:zJ} (h:y ∈ zfP (q.take n)):y.client<n:=by
 obtain ⟨i,hi⟩:=zrQ h
 rw [List.getElem?_take] at hi
 split at hi
 ·have:=(hq.at_ i y hi).1;omega
 ·cases hi
theorem zjZ.behind {q:PQ} (hq:zjZ q) {n:Nat} {y:zJ} (h:y ∈ zfP (q.drop (n+1))):(n:Int)<y.client:=by
 obtain ⟨i,hi⟩:=zrQ h
 rw [List.getElem?_drop] at hi
 have:=(hq.at_ _ y hi).1;omega
theorem of_wait {q:PQ} {c:Int} {x:zJ} (h:ofF q c=some x):x ∈ zfP q:=by
 obtain ⟨_,_,h⟩:=ofF_some h
 simp only [zfP,List.mem_filterMap,id_eq,exists_eq_right]
 exact List.mem_of_getElem? h
theorem zjZ.client {q:PQ} (hq:zjZ q) {c:Int} {x:zJ} (h:ofF q c=some x):x.client=c:=by
 obtain ⟨h0,h8,hg⟩:=ofF_some h
 have:=(hq.at_ _ x hg).1;omega
theorem zjZ.of_none {q:PQ} (hq:zjZ q) {c:Int} (h:∀ y ∈ zfP q,y.client ≠ c):ofF q c=none:=by
 cases ho:ofF q c with
 | none=>rfl
 | some x=>exact absurd (hq.client ho) (h x (of_wait ho))
theorem zyp {α:Type} {l:List α} {p : α->Bool} (h:∀ x ∈ l,p x=true):l.filter p=l:=List.filter_eq_self.2 h
theorem zjZ.without {q:PQ} (hq:zjZ q) {c:Int} (h0:0<=c) (h8:c<8):(zfP q).filter (fun y=>y.client != c)=zfP (q.set c.toNat none):=by
 have hl:=hq.len
 have hg:=hq.get h0 h8
 rw [zqb hg,zvg none (by omega)]
 simp only [List.filter_append,Option.toList_none,List.nil_append]
 rw [zyp (l:=zfP (q.take c.toNat)) fun y hy=>by have:=hq.before hy;simp;omega,zyp (l:=zfP (q.drop (c.toNat+1))) fun y hy=>by have:=hq.behind hy;simp;omega]
 congr 1
 cases ho:ofF q c with
 | none=>rfl
 | some x=>simp [hq.client ho]
theorem zjZ.place {q:PQ} (hq:zjZ q) {c:Int} (h0:0<=c) (h8:c<8) {k:Nat} (hlo:∀ y ∈ (zfP (q.set c.toNat none)).take k,y.client<c) (hk:k<=(zfP (q.set c.toNat none)).length)
  (hhi:∀ y,(zfP (q.set c.toNat none))[k]? = some y->¬ y.client<c) (x:zJ) :
  (zfP (q.set c.toNat none)).take k++(x :: (zfP (q.set c.toNat none)).drop k)=zfP (q.set c.toNat (some x)):=by
 have hl:=hq.len
 have e:=zvg (q:=q) none (show c.toNat<q.length by omega)
 have e2:=zvg (q:=q) (some x) (show c.toNat<q.length by omega)
 simp only [Option.toList_none,List.nil_append,Option.toList_some] at e e2
 obtain ⟨A,hA⟩:∃ A,zfP (q.take c.toNat)=A:=⟨_,rfl⟩
 obtain ⟨B,hB⟩:∃ B,zfP (q.drop (c.toNat+1))=B:=⟨_,rfl⟩
 have hAlt:∀ y ∈ A,y.client<c:=fun y hy=>by rw [← hA] at hy;have:=hq.before hy;omega
 have hBgt:∀ y ∈ B,c<y.client:=fun y hy=>by rw [← hB] at hy;have:=hq.behind hy;omega
 rw [hA,hB] at e e2
 rw [e] at hlo hk hhi ⊢
 rw [e2]
 have hkA:k=A.length:=by
  rcases Nat.lt_trichotomy k A.length with h | h | h
  ·exact absurd (hAlt A[k] (List.getElem_mem h)) (hhi A[k] (by rw [List.getElem?_append_left h];simp [h]))
  ·exact h
  ·exfalso
   rw [List.length_append] at hk
   have hb:B[0]? = some (B[0]'(by omega)):=List.getElem?_eq_getElem _
   have hm:B[0]'(by omega) ∈ (A++B).take k:=by
    refine List.mem_of_getElem? (i:=A.length) ?_
    rw [List.getElem?_take,if_pos h,List.getElem?_append_right (Nat.le_refl _),Nat.sub_self]
    exact hb
   have h1:=hlo _ hm
   have h2:=hBgt _ (List.getElem_mem (show 0<B.length by omega))
   omega
 subst hkA
 simp
def prevC (w:List zJ):Nat->Int
 | 0 => -1
 | k+1=>match w[k]? with | some x=>x.client | none => -1
theorem zjZ.push {q:PQ} (hq:zjZ q) {x:zJ} (hx:zD [x]=0) (hlt:∀ y ∈ zfP q,y.client<x.client):canPut q x=true/\zfP (putQ q x)=zfP q++[x]:=by
 obtain ⟨h0,h8,_⟩:=one_ok hx
 have hl:=hq.len
 have hno:ofF q x.client=none:=hq.of_none fun y hy=>by have:=hlt y hy;omega
 have hc:canPut q x=true:=by simp [canPut,hx,hno,mayPut]
 refine ⟨hc,?_⟩
 have hg:=hq.get h0 h8
 rw [hno] at hg
 rw [putQ,if_pos hc,zvg _ (by omega),zqb hg]
 have hB:zfP (q.drop (x.client.toNat+1)) = []:=by
  rw [List.eq_nil_iff_forall_not_mem]
  intro y hy
  have h1:=hq.behind hy
  have h2:=hlt y (by rw [zqb hg];simp [hy])
  omega
 rw [hB];simp
theorem zjZ.prev {q:PQ} (hq:zjZ q) {k:Nat} {x:zJ} (hx:(zfP q)[k]? = some x):prevC (zfP q) k<x.client:=by
 have hxm:=List.mem_of_getElem? hx
 obtain ⟨i,hi⟩:=zrQ hxm
 have hxc:=(hq.at_ i x hi).1
 cases k with
 | zero=>simp only [prevC];omega
 | succ k =>
  have hk:=(List.getElem?_eq_some_iff.1 hx).1
  have hy:(zfP q)[k]? = some ((zfP q)[k]'(by omega)):=List.getElem?_eq_getElem _
  simp only [prevC,hy]
  -- the list is rising
  have hp:(zfP q).Pairwise fun a b=>a.client<b.client:=by
   have key:∀ (l:PQ) (a:Nat),(∀ (i:Nat) x,l[i]? = some (some x)->x.client=((a+i:Nat):Int))->(l.filterMap id).Pairwise fun a b=>a.client<b.client:=by
    intro l
    induction l with
    | nil=>intro a _;simp
    | cons o l ih =>
     intro a h
     have hr:=ih (a+1) fun i x hi=>by have:=h (i+1) x (by simpa using hi);rw [this];congr 1;omega
     cases o with
     | none=>simpa using hr
     | some x =>
      simp only [List.filterMap_cons,id_eq,List.pairwise_cons]
      refine ⟨fun y hy => ?_,hr⟩
      obtain ⟨j,hj⟩:=zrQ (q:=l) hy
      have h1:=h 0 x rfl
      have h2:=h (j+1) y (by simpa using hj)
      omega
   exact key q 0 fun i x hi=>by have:=(hq.at_ i x hi).1;simpa using this
  have:=List.pairwise_iff_getElem.1 hp k (k+1) (by omega) hk (by omega)
  obtain ⟨_,rfl⟩:=List.getElem?_eq_some_iff.1 hx
  exact this
end Go.AW

/- A script of what is done to a pool; what holds little has short names, too. No program in sight. -/
namespace Go.AW
def okL (l:List (List zJ)):Prop:=l.length<=1048576/\∀ b ∈ l,okB b/\b.length<=1048576
theorem okL.len {l:List (List zJ)} (h:okL l):l.length<=1073741824/\∀ b ∈ l,b.length<=1073741824:=⟨by have:=h.1;omega,fun b hb=>(h.2 b hb).1.1⟩
structure TStep where
 what:Int
 s:zJ
 client:Int
 time:Int
 opn:List (List zJ)
end Go.AW

/- Requests as data, and how much room they take. No program in sight. -/
namespace Go.AW
theorem signedD_sz {x:zJ} {n:Nat} (h:zff (zbc x)<=n) (hn:n<=2097152):zlh x.op<=20971520:=by
 have:=opSz_bulk x.op
 simp only [zbc,opD,zff,ziY] at h this
 omega
theorem batch_sz {b:List zJ} {n:Nat} (h:zfA (zbj b)<=n) (hn:n<=2097152):(∀ s ∈ b,zlh s.op<=20971520)/\b.length<=2097152:=by
 unfold zbj at h
 exact ⟨fun s hs=>signedD_sz (Nat.le_trans (zgV (f:=zbc) hs) h) hn,Nat.le_trans (zir (f:=zbc) (fun a=>by simp only [zbc,zff,ziY];omega) b) (by omega)⟩
end Go.AW

/- The law NewviewValid, from the contracts. -/
set_option maxRecDepth 100000
namespace Go.Proofs.YtpgahkdjkanblaaGreat
open Go.AW
def tyWorld:List Ty := [.slice [.slice [.int .u8]],.slice tySign]
theorem dec_world {ds:List D} (h:zgo tyWorld ds):∃ (tab:List (List UInt8)) (signs:List zK),ds = [.slice (zjf tab),.slice (zap signs)]:=by
 obtain ⟨d1,ds,rfl,h1,h⟩:=zaP h
 obtain ⟨d2,ds,rfl,h2,h⟩:=zaP h
 obtain rfl:=zoI h
 obtain ⟨tab,rfl⟩:=dec_recs h1
 obtain ⟨signs,rfl⟩:=zmx h2 (fun e he=>(zAc he).imp fun _ h=>h.1)
 exact ⟨tab,signs,rfl⟩
theorem changes_all {cs:List zU} {n:Nat} (h:zfA (zan cs)<=n) (hn:n<=1048576) (hR:∀ c ∈ cs,zio c):∀ c ∈ cs,zsO c:=by
 intro c hc
 obtain ⟨_,q2⟩:=leC_bulk h
 obtain ⟨q3,q4,q5⟩:=q2 c hc
 have hb:zff (zaE c)<=n:=Nat.le_trans (zgV (f:=zaE) hc) h
 simp only [zaE,zff,ziY] at hb
 have hp:∀ p ∈ c.above,(∀ x ∈ p.batch,zlh x.op<=20971520)/\p.batch.length<=2097152/\leP n p:=by
  intro p hp
  have h1:zff (zew p)<=n:=by
   have:=zgV (f:=zew) hp
   unfold zeV at hb
   omega
  have h2:zfA (zbj p.batch)<=n:=by simp only [zew,zff,ziY] at h1;omega
  have h3:=batch_sz h2 (by omega)
  exact ⟨h3.1,h3.2,q5 p hp⟩
 refine ⟨⟨by omega,by omega,fun p hpm => ?_⟩,⟨by omega,by omega,fun p hpm => ?_⟩,fun p hpm => ?_,(hR c hc).2.2.1⟩
 ·obtain ⟨a1,a2,a3⟩:=hp p hpm
  exact ⟨by have:=a3.1;omega,by omega,fun x hx=>ztj (a1 x hx)⟩
 ·obtain ⟨a1,a2,a3⟩:=hp p hpm
  refine ⟨by have:=a3.1;omega,by omega,fun x hx => ?_⟩
  obtain ⟨_,b2⟩:=a3.2
  obtain ⟨b3,b4⟩:=b2 x hx
  exact ⟨by omega,fun r hr=>by have:=b4 r hr;omega⟩
 ·obtain ⟨a1,a2,a3⟩:=hp p hpm
  exact ⟨a1,by omega,by have:=a3.1;omega⟩
def parsWorld:List (Bool × List Ty) := [(true,tyWorld),(false,[.int .i64]),(false,[.int .i64]),(false,[.slice tyChange])]
theorem args_world {xs:List AV} {n:Nat} (hn:n<=1048576) (h:ArgsOk parsWorld xs n):∃ tab signs f view cs,xs = [.agg [.d (.slice (zjf tab)),.d (.slice (zap signs))],.d (.int .i64 f),.d (.int .i64 view),.d (.slice (zan cs))] ∧
  tab.length<=1048576/\(∀ b ∈ tab,b.length<=1048576)/\signs.length<=1048576/\zqG f/\zqG view/\cs.length<=1048576/\(∀ c ∈ cs,zsO c)/\∀ c ∈ cs,zio c:=by
 obtain ⟨ds,xs1,m1,hf,hb1,rfl,h⟩:=h
 obtain ⟨tab,signs,rfl⟩:=dec_world hf
 obtain ⟨ds,xs2,m2,hf,hb2,rfl,h⟩:=h
 obtain ⟨d,rfl,h1⟩:=one_of hf
 obtain ⟨f,rfl,hfr⟩:=zey h1
 obtain ⟨ds,xs3,m3,hf,hb3,rfl,h⟩:=h
 obtain ⟨d,rfl,h1⟩:=one_of hf
 obtain ⟨view,rfl,hvr⟩:=zey h1
 obtain ⟨ds,xs4,m4,hf,hb4,rfl,rfl⟩:=h
 obtain ⟨d,rfl,h1⟩:=one_of hf
 obtain ⟨cs,rfl,hR⟩:=zyM h1 (fun e he=>dec_change he)
 have hb:zfA (zan cs)<=1048576:=by
  simp only [zff,ziY] at hb1 hb2 hb3 hb4
  unfold zan
  omega
 simp only [zff,ziY] at hb1
 have ht:=zqT tab
 have hs:=ztk signs
 have ht':zfA (zjf tab)<=1048576:=by omega
 refine ⟨tab,signs,f,view,cs,rfl,Nat.le_trans ht.1 ht',fun b hb=>Nat.le_trans (ht.2 b hb) ht',by omega,hfr,hvr,(leC_bulk hb).1,changes_all hb (by omega) hR,hR⟩
end Go.Proofs.YtpgahkdjkanblaaGreat

/- A table and a ledger into both of which a call writes. What a new view's primary tells, in plain terms. -/
set_option maxRecDepth 100000
namespace Go.Proofs.YtpgahkdjkanblaaGreat
open Go.AW
structure TGi where
 id:Nat
 m:Nat
 t:Nat
 id2:Nat
 m2:Nat
 t2:Nat
structure TG (i:TGi) (σ:List zh) (L:List (List UInt8)) (G:List zK):Prop where
 tab:zeS σ i.id i.m i.t L
 led:zev σ i.id2 i.m2 i.t2 G
 n1:i.id ≠ i.id2
 n2:i.m ≠ i.m2
def zeU (i:TGi) (σ:List zh) (L:List (List UInt8)) (G:List zK):List zh:=putLed (putTab σ i.id i.m i.t L) i.id2 i.m2 i.t2 G
theorem TG.app {i:TGi} {σ:List zh} {L:List (List UInt8)} {G:List zK} (h:TG i σ L G) (τ:List zh):TG i (σ ++ τ) L G:=⟨h.tab.app τ,h.led.app τ,h.n1,h.n2⟩
theorem TG.put {i:TGi} {σ:List zh} {L:List (List UInt8)} {G:List zK} (h:TG i σ L G) (L':List (List UInt8)) (G':List zK):TG i (zeU i σ L' G') L' G' :=
 ⟨(h.tab.put L').putLed (zev.putTab h.tab h.led h.n1 h.n2 L') h.n1 h.n2 G',(zev.putTab h.tab h.led h.n1 h.n2 L').put G',h.n1,h.n2⟩
theorem TG.put_app {i:TGi} {σ:List zh} {L:List (List UInt8)} {G:List zK} (h:TG i σ L G) (L':List (List UInt8)) (G':List zK) (τ:List zh):zeU i (σ ++ τ) L' G' = zeU i σ L' G' ++ τ:=by
 unfold zeU
 rw [zto h.tab,ztp (zev.putTab h.tab h.led h.n1 h.n2 L')]
theorem zfw (i:TGi) (σ:List zh) (L:List (List UInt8)) (G:List zK):(zeU i σ L G).length = σ.length:=by simp [zeU,putTab,putLed]
theorem TG.self {i:TGi} {σ:List zh} {L:List (List UInt8)} {G:List zK} (h:TG i σ L G):zeU i σ L G = σ:=by
 unfold zeU;rw [h.tab.self,h.led.self]
theorem TG.lows {i:TGi} {σ:List zh} {L:List (List UInt8)} {G:List zK} (h:TG i σ L G) (hl:ziu σ.length σ) (L':List (List UInt8)) (G':List zK):ziu σ.length (zeU i σ L' G'):=by
 have h1:=h.tab.lows hl L'
 have h2:=(zev.putTab h.tab h.led h.n1 h.n2 L').lows (by rw [zqe];exact h1) G'
 rw [zqe] at h2
 exact h2
theorem zvA {i:TGi} {σ:List zh} {L L':List (List UInt8)} {G:List zK} (h:TG i σ L G):putTab σ i.id i.m i.t L' = zeU i σ L' G:=by
 unfold zeU
 rw [(zev.putTab h.tab h.led h.n1 h.n2 L').self]
theorem put_led_tab {i:TGi} {σ:List zh} {L:List (List UInt8)} {G G':List zK} (h:TG i σ L G):putLed σ i.id2 i.m2 i.t2 G' = zeU i σ L G':=by
 unfold zeU
 rw [h.tab.self]
theorem TG.ne {i:TGi} {σ:List zh} {L:List (List UInt8)} {G:List zK} (h:TG i σ L G) : [i.id,i.m,i.t,i.id2,i.m2,i.t2].Nodup:=by
 obtain ⟨a1,a2,a3⟩:=h.tab.ne
 obtain ⟨b1,b2,b3⟩:=h.led.ne
 obtain ⟨⟨c1,c2⟩,⟨d1,d2⟩,⟨e1,e2,e3⟩⟩:=apart2 h.tab h.led h.n1 h.n2
 have:=h.n1
 have:=h.n2
 simp
 exact ⟨⟨a1,a2, ‹_›,c1,c2⟩,⟨a3,d1, ‹_›,d2⟩,⟨e1,e2,e3⟩,⟨b1,b2⟩,b3⟩
theorem set2 {α:Type} (l:List α) (i:Nat) (x y : α):(l.set i x).set i y=l.set i y:=List.set_set ..
theorem setc {α:Type} (l:List α) {i j:Nat} (x y : α) (h:i ≠ j):(l.set i x).set j y=(l.set j y).set i x:=List.set_comm _ _ h
theorem TG.other {i:TGi} {σ:List zh} {k:Nat} (hk:k ≠ i.id/\k ≠ i.m/\k ≠ i.t/\k ≠ i.id2/\k ≠ i.m2/\k ≠ i.t2) (L:List (List UInt8)) (G:List zK):(zeU i σ L G)[k]? = σ[k]?:=by
 obtain ⟨h1,h2,h3,h4,h5,h6⟩:=hk
 unfold zeU putTab putLed
 rw [List.getElem?_set_ne (Ne.symm h4),List.getElem?_set_ne (Ne.symm h6),List.getElem?_set_ne (Ne.symm h5),List.getElem?_set_ne (Ne.symm h2),List.getElem?_set_ne (Ne.symm h1),List.getElem?_set_ne (Ne.symm h3)]
theorem TG.put_put {i:TGi} {σ:List zh} {L:List (List UInt8)} {G:List zK} (h:TG i σ L G) (L1 L2:List (List UInt8)) (G1 G2:List zK):zeU i (zeU i σ L1 G1) L2 G2=zeU i σ L2 G2:=by
 have h1:=(h.put L1 G1).put L2 G2
 have h2:=h.put L2 G2
 apply List.ext_getElem?
 intro k
 by_cases e1:k=i.id
 ·subst e1;rw [h1.tab.box,h2.tab.box]
 by_cases e2:k=i.m
 ·subst e2;rw [h1.tab.map,h2.tab.map]
 by_cases e3:k=i.t
 ·subst e3;rw [h1.tab.tok,h2.tab.tok]
 by_cases e4:k=i.id2
 ·subst e4;rw [h1.led.box,h2.led.box]
 by_cases e5:k=i.m2
 ·subst e5;rw [h1.led.map,h2.led.map]
 by_cases e6:k=i.t2
 ·subst e6;rw [h1.led.tok,h2.led.tok]
 rw [TG.other ⟨e1,e2,e3,e4,e5,e6⟩,TG.other ⟨e1,e2,e3,e4,e5,e6⟩,TG.other ⟨e1,e2,e3,e4,e5,e6⟩]
def noEn:zbL:=⟨0, 0,[], 0, 0⟩
def zlo (L:List (List UInt8)) (key:Int) (x:zbL):Int:=if digE L x.batch ≠ 0 then digE L x.batch else votE (zqr L x.batch) key 2 x.view x.seq (zpx L x.batch)
def zsp (L:List (List UInt8)) (x:zbL):List (List UInt8):=if digE L x.batch ≠ 0 then zqr L x.batch else votL (zqr L x.batch) 2 x.view x.seq (zpx L x.batch)
def zsq (L:List (List UInt8)) (G:List zK) (key:Int) (x:zbL):List zK:=if digE L x.batch ≠ 0 then G else votG (zqr L x.batch) G key 2 x.view x.seq (zpx L x.batch)
def entX (L:List (List UInt8)) (key:Int) (x:zbL):zbL:=if zlo L key x ≠ 0 then noEn else
 { x with key:=(votS (zqr L x.batch) key 2 x.view x.seq (zpx L x.batch)).key,dig:=(votS (zqr L x.batch) key 2 x.view x.seq (zpx L x.batch)).dig }
structure LoopR where
 e:Int
 L:List (List UInt8)
 G:List zK
 out:List zbL
def zca (key:Int):List zbL->List (List UInt8)->List zK->List zbL->LoopR
 | [],L,G,out=>⟨0,L,G,out⟩
 | x :: r,L,G,out=>if zlo L key x ≠ 0 then ⟨zlo L key x,zsp L x,zsq L G key x,out⟩ else zca key r (zsp L x) (zsq L G key x) (out++[entX L key x])
structure MakeR where
 m:zee
 e:Int
 L:List (List UInt8)
 G:List zK
def zlO (L:List (List UInt8)) (G:List zK) (m:zee):MakeR :=
 if zba (zcu m) ≠ 0 then ⟨zeW,zba (zcu m),L,G⟩
 else if zvy L m.src (zfc m) ≠ 0 then ⟨zeW,zvy L m.src (zfc m),zgz L (zfc m),zmO L G m.src (zfc m)⟩
 else ⟨{ m with key:=(sgnS L m.src (zfc m)).key,sdig:=(sgnS L m.src (zfc m)).dig }, 0,zgz L (zfc m),zmO L G m.src (zfc m)⟩
def zsa (f view:Int) (cs:List zU) (xs:List zbL):zee:={ zeW with kind := 8,src:=zcf f view,view:=view,changes:=cs,entries:=xs }
theorem take_get {α:Type} {l:List α} {n k:Nat} (h:k<n):(l.take n)[k]? = l[k]?:=by rw [List.getElem?_take,if_pos h]
theorem srcOk_take {f:Int} {cs:List zU} {n k:Nat} (h:k<n):zrT f (cs.take n) k=zrT f cs k:=by
 have hp:zfB (cs.take n) k=zfB cs k:=by
  cases k with
  | zero=>rfl
  | succ k=>simp only [zfB,take_get (show k<n by omega)]
 simp only [zrT,take_get h,hp]
theorem ztE {f view:Int} {cs:List zU} (h:zlY f view cs=0):zbN f=0/\¬ (view<1 ∨ view > 9007199254740992)/\zlf f cs cs.length=true/\zaW 2 f<=cs.length:=by
 unfold zlY at h
 by_cases h0:zbN f ≠ 0
 ·rw [if_pos h0] at h;exact absurd h h0
 rw [if_neg h0] at h
 by_cases h1:view<1 ∨ view > 9007199254740992
 ·rw [if_pos h1] at h;cases h
 rw [if_neg h1] at h
 by_cases h2:zlf f cs cs.length=false
 ·rw [if_pos h2] at h;cases h
 rw [if_neg h2] at h
 by_cases h3:(cs.length:Int)<zaW 2 f
 ·rw [if_pos h3] at h;cases h
 exact ⟨by simpa using h0,h1,by simpa using h2,by omega⟩
theorem zAd {f:Int} (h:zbN f=0):1<=f/\f<=4:=by
 unfold zbN at h
 split at h
 ·cases h
 ·omega
theorem mayF_take {f view:Int} {cs:List zU} (h:zlY f view cs=0):zlY f view (cs.take (zaW 2 f).toNat)=0:=by
 obtain ⟨h1,h2,h3,h4⟩:=ztE h
 have hf:=zAd h1
 have ht:zaW 2 f=2 * f+1:=by rw [zaW,if_neg (by omega)]
 have hl:(cs.take (zaW 2 f).toNat).length=(zaW 2 f).toNat:=by rw [List.length_take];omega
 have hs:zlf f (cs.take (zaW 2 f).toNat) (cs.take (zaW 2 f).toNat).length=true:=by
  simp only [zlf,List.all_eq_true,List.mem_range] at h3 ⊢
  intro k hk
  rw [srcOk_take (by omega)]
  exact h3 k (by omega)
 unfold zlY
 rw [if_neg (by simp [h1]),if_neg h2,if_neg (by rw [hs];decide),if_neg (by omega)]
end Go.Proofs.YtpgahkdjkanblaaGreat
