/- One byte of a number, as a loop over at most ten reads it. No program in sight. -/
import Derived.Test.YtpgahkdjkanblaaGreatSpTab
import Derived.Test.YtpgahkdjkanblaaGreatSh
import Derived.Test.YtpgahkdjkanblaaGreatCodec1
import Derived.Test.YtpgahkdjkanblaaGreatNr3
import Derived.Test.YtpgahkdjkanblaaGreatOp6
import Derived.Test.YtpgahkdjkanblaaGreatRq2
import Derived.Test.YtpgahkdjkanblaaGreatSpPut
import Derived.Test.YtpgahkdjkanblaaGreatSpMsg
set_option linter.all false
namespace Go.AW
open Go
end Go.AW

/- Contracts: the reader's small methods. -/
set_option maxRecDepth 100000
namespace Go.Proofs.YtpgahkdjkanblaaGreat
open Go.AW
def Cell (c:AV) (B:List UInt8):Prop:=c = .d (.slice (bcs B))∨∃ t,c = .own t (bcs B)
end Go.Proofs.YtpgahkdjkanblaaGreat

/- Requests, signatures and batches, as they are read. No program in sight. -/
namespace Go.AW
def nilRq:zC:=⟨0, 0,noOp, 0, 0⟩
def doneE (s:Rd):Int:=if s.e=0/\0<s.b.length then 12 else s.e
def lateE (e:Int) (t:Nat):Int:=if e=0/\t=0 then 80 else e
def pickR (f:Int) (x:zC):zC:=if f=0 then x else nilRq
def signZ (c:Bool) (d:Nat × Rd):Rd:=if d.2.e=0/\d.1=0 then d.2.fail c 81 else d.2
def reqP (c:Bool) (b:List UInt8):zC × Int:=
 let k:=zsS c 7 ⟨b, 0⟩
 let t:=zsS c 9007199254740992 k.2
 let o:=zsX c zjG t.2
 let f:=lateE (doneE o.2) t.1
 (pickR f ⟨k.1,t.1,o.1, 0, 0⟩,f)
def signP (c:Bool) (s:Rd):(Nat × Nat) × Rd:=
 let k:=zsS c 20 s
 let d:=zsS c 9007199254740992 k.2
 let z:=signZ c d
 (if z.e=0 then (k.1,d.1) else (0, 0),z)
def oneP (c:Bool) (s:Rd):zC × Rd:=
 let b:=zmm c 1024 s
 let x:=reqP c b.1
 let g:=signP c (b.2.fail c x.2)
 (⟨x.1.client,x.1.time,x.1.op,g.1.1,g.1.2⟩,g.2)
def zql (c:Bool):Nat->Rd->List zC × Rd
 | 0,s=>([],s)
 | k+1,s=>((zql c k s).1++[(oneP c (zql c k s).2).1],(oneP c (zql c k s).2).2)
def batchP (c:Bool) (s:Rd):List zC × Rd:=
 let n:=zsS c 4 s
 let p:=zql c n.1 n.2
 let z:=p.2.fail c (zr p.1)
 (if z.e=0 then p.1 else [],z)
theorem Rd.like.refl (s:Rd):s.like s:=⟨rfl,fun _=>rfl⟩
theorem done_like {s t:Rd} (h:s.like t):doneE s=doneE t:=by
 unfold doneE
 obtain ⟨h1,h2⟩:=h
 by_cases h0:s.e=0
 ·rw [h2 h0,h1]
 ·rw [if_neg (fun g=>h0 g.1),if_neg (fun g=>h0 (h1▸g.1)),h1]
theorem reqP_like (c d:Bool) (b:List UInt8):reqP c b=reqP d b:=by
 obtain ⟨k1,k2⟩:=(Rd.like.refl ⟨b, 0⟩).num (c:=c) (d:=d) (m := 7)
 obtain ⟨t1,t2⟩:=k2.num (c:=c) (d:=d) (m := 9007199254740992)
 obtain ⟨o1,o2⟩:=t2.takeOp (c:=c) (d:=d) (name:=zjG)
 have e:=done_like o2
 unfold reqP
 simp only
 rw [e,t1,k1,o1]
theorem Rd.like.sign {s t:Rd} {c d:Bool} (h:s.like t):(signP c s).1=(signP d t).1/\(signP c s).2.like (signP d t).2:=by
 obtain ⟨k1,k2⟩:=h.num (c:=c) (d:=d) (m := 20)
 obtain ⟨t1,t2⟩:=k2.num (c:=c) (d:=d) (m := 9007199254740992)
 have z:=t2.fail (c:=c) (d:=d) (x := 81)
 have hz:(signZ c (zsS c 9007199254740992 (zsS c 20 s).2)).like (signZ d (zsS d 9007199254740992 (zsS d 20 t).2)):=by
  unfold signZ
  rw [← t1, ← t2.1]
  split
  ·exact z
  ·exact t2
 unfold signP
 simp only
 rw [← k1, ← t1, ← hz.1]
 exact ⟨rfl,hz⟩
theorem Rd.like.one {s t:Rd} {c d:Bool} (h:s.like t):(oneP c s).1=(oneP d t).1/\(oneP c s).2.like (oneP d t).2:=by
 obtain ⟨b1,b2⟩:=h.bytes (c:=c) (d:=d) (m := 1024)
 have e:=reqP_like c d (zmm c 1024 s).1
 have f:=b2.fail (c:=c) (d:=d) (x:=(reqP c (zmm c 1024 s).1).2)
 obtain ⟨g1,g2⟩:=f.sign (c:=c) (d:=d)
 unfold oneP
 simp only
 rw [← b1, ← e, ← g1]
 exact ⟨rfl,g2⟩
theorem Rd.like.items {s t:Rd} {c d:Bool} (h:s.like t):∀ k,(zql c k s).1=(zql d k t).1/\(zql c k s).2.like (zql d k t).2
 | 0=>⟨rfl,h⟩
 | k+1=>by
  obtain ⟨a,b⟩:=Rd.like.items h (c:=c) (d:=d) k
  obtain ⟨e1,e2⟩:=b.one (c:=c) (d:=d)
  exact ⟨by simp only [zql,a,e1],e2⟩
theorem Rd.like.batch {s t:Rd} {c d:Bool} (h:s.like t):(batchP c s).1=(batchP d t).1/\(batchP c s).2.like (batchP d t).2:=by
 obtain ⟨n1,n2⟩:=h.num (c:=c) (d:=d) (m := 4)
 obtain ⟨p1,p2⟩:=n2.items (c:=c) (d:=d) (zsS c 4 s).1
 have z:=p2.fail (c:=c) (d:=d) (x:=zr (zql c (zsS c 4 s).1 (zsS c 4 s).2).1)
 unfold batchP
 simp only
 rw [← n1, ← p1, ← z.1]
 exact ⟨rfl,z⟩
end Go.AW

/- Contracts: requests, signatures and batches are read. -/
set_option maxRecDepth 100000
namespace Go.Proofs.YtpgahkdjkanblaaGreat
open Go.AW
theorem zzr {σ:List zd} {b:List UInt8} {k d:Int} (hb:b.length<=1073741700) (hc:zN k d=0) {K:KT} (hK:K (.own σ.length (bcs (b++zfL k d))) (σ++[.tok 1 (b++zfL k d).length])) :
  zj Tryz.prog zeH [.d (.slice (bcs b)),.agg [.d (.int .i64 k),.d (.int .i64 d)]] σ K:=by
 refine zbT zio.is rfl (fun s => [s.length-1]) fun hl _=>zio.goes ?_
 obtain ⟨k0,k1,d0,d1⟩:=zzT hc
 have hq:(zN k d != 0)=false:=by simpa using hc
 have n1:=zm (n:=k.toNat) (by omega)
 have w1:IntKind.u64.wrap k=((k.toNat:Nat):Int):=by
  rw [show k=((k.toNat:Nat):Int) by omega,zdq (by omega)];rfl
 have w2:IntKind.u64.wrap d=((d.toNat:Nat):Int):=by
  rw [show d=((d.toNat:Nat):Int) by omega,zdq (by omega)];rfl
 simp only [zit,iN,bT,bF,eN]
 refine zQ ?_
 refine zer ?_
 refine zA (zo hq (zo w1 w2)) ?_
 refine zfe (by omega) (by omega) ?_
 refine zA (zo w1 w2) ?_
 refine zfe (by omega) (by simp;omega) ?_
 refine zQ ?_
 refine zoJ (t := σ.length+2) (sz := 1) (n:=(b++zfL k d).length) (by simp) hl (by omega) ?_ ?_
 ·rw [zB];simp [zfL,Nat.add_assoc]
 ·exact hK
theorem c_partsPutO {σ:List zd} {b:List UInt8} {l:List zC} (hb:b.length<=268435456) (hs:∀ x∈l,zlf x.op<=20971520) (hc:zr l=0) {K:KT} (hK:K (.own σ.length (bcs (b++zbN l))) (σ++[.tok 1 (b++zbN l).length])) :
  zj Tryz.prog zeW [.d (.slice (zaP l)),.d (.slice (bcs b))] σ K:=by
 refine zbT zgK.is rfl (fun s => [s.length-1]) fun hl _=>zgK.goes ?_
 obtain ⟨h4,hm,_⟩:=zjP hc
 have n1:=zm (n:=l.length) (by omega)
 have w1:IntKind.u64.wrap (l.length:Int)=(l.length:Int):=zdq (by omega)
 simp only [zgM,iN,bT,bF,eN,zl2]
 refine zA w1 ?_
 refine zfe (by omega) (by omega) ?_
 refine zQ ?_
 refine zl l.length (fun k vs s => ∃ T,s = σ++T++[.tok 1 (b++(zcA l.length++zdv (l.take k))).length]/\vs = [.own (σ++T).length (bcs (b++(zcA l.length++zdv (l.take k)))),.d (.int .i64 k)])
  ⟨[],by simp [zdv],by simp [zdv]⟩ ?_
 rintro k vs s hk ⟨T,rfl,rfl⟩
 by_cases hlt:k<l.length
 ·have hd:decide ((k:Int)<(l.length:Int))=true:=by simp;omega
  have hx:l[k]? = some l[k]:=by simp [hlt]
  have hgx:=zF (f:=zaN) hx
  have hxs:=hs _ (List.getElem_mem hlt)
  have hxm:=hm _ (List.getElem_mem hlt)
  obtain ⟨x,hxe⟩:∃ x,l[k]=x:=⟨_,rfl⟩
  rw [hxe] at hx hgx hxs hxm
  have hbl:=zni hs hc k
  have hrl:=zor hxs
  have hpl:=ziv (x:=zbK x) (by omega)
  obtain ⟨t,ht⟩:∃ t,(σ++T).length=t:=⟨_,rfl⟩
  obtain ⟨S,hS⟩:∃ S, σ++T++[zd.tok 1 (b++(zcA l.length++zdv (l.take k))).length]=S:=⟨_,rfl⟩
  have hS2:S = σ++(T++[zd.tok 1 (b++(zcA l.length++zdv (l.take k))).length]):=by rw [← hS,List.append_assoc]
  rw [ht,hS]
  refine zkZ (zo hd hgx) ?_
  refine zxa (x:=x) hxs ?_
  refine zkZ (zo hd hgx) ?_
  refine zpS (by omega) (by simp;omega) ?_
  refine zkZ (zo hd hgx) ?_
  refine zzr (by simp only [zup,List.length_append] at hpl ⊢;omega) hxm.2 ?_
  refine zA (wk1 k (by omega)) ?_
  have hwl:(zdv (l.take (k+1))).length=(zdv (l.take k)).length+((zcA (zbK x).length).length+((zbK x).length+(zfL x.key x.dig).length)):=by
   rw [zlp hx];simp [oneB,zup,zbK,hxm.1,Nat.add_assoc]
  have hw:b++(zcA l.length++zdv (l.take (k+1)))=b++(zcA l.length++(zdv (l.take k)++(zcA (zbK x).length++(zbK x++zfL x.key x.dig)))):=by
   rw [zlp hx]
   simp [oneB,zup,zbK,hxm.1]
  refine zan.next hlt ⟨T++[zd.tok 1 (b++(zcA l.length++zdv (l.take k))).length]++[zd.box [.d (.int .i64 x.client),.d (.int .i64 x.time),.d (.int .i64 x.op.kind),.d (.str x.op.topic),.d (.str x.op.group),.d (.int .i64 x.op.offset),.d (.slice (zeU x.op.recs)),.d (.int .i64 x.key),.d (.int .i64 x.dig)],.tok 1 (b++(zcA l.length++(zdv (l.take k)++(zcA (zbK x).length++zbK x)))).length],?_,?_⟩
  ·simp only [hw,hS2];simp [Nat.add_assoc,hwl]
  ·simp only [hw,hS2];simp [Nat.add_assoc]
 ·have hd:decide ((k:Int)<(l.length:Int))=false:=by simp;omega
  rw [List.take_of_length_le (by omega)]
  simp only [List.append_assoc]
  refine zA hd ?_
  refine zoJ (t := σ.length+T.length) (sz := 1) (n:=(b++zbN l).length) ?_ hl (by omega) ?_ ?_
  ·simp only [List.length_append,List.length_cons,List.length_nil];congr 1
  ·rw [zB,zD];simp [zbN]
  ·exact hK
theorem c_PutBatchO {σ:List zd} {b:List UInt8} {l:List zC} (hb:b.length<=268435456) (hs:∀ x∈l,zlf x.op<=20971520) (hc:zr l=0) {K:KT} (hK:K (.own σ.length (bcs (b++zbN l))) (σ++[.tok 1 (b++zbN l).length])) :
  zj Tryz.prog zct [.d (.slice (bcs b)),.d (.slice (zaP l))] σ K:=by
 refine zbT zhr.is rfl (fun s => [s.length-1]) fun hl _=>zhr.goes ?_
 have h4:=(zjP hc).1
 have hok:okB l:=⟨by omega,fun x hx=>zsZ (hs x hx)⟩
 have hq:(zr l != 0)=false:=by simpa using hc
 simp only [zhu,iN,bT,bF,eN]
 refine zQ ?_
 refine zfY hok ?_
 refine zA hq ?_
 refine c_partsPutO hb hs hc ?_
 refine zQ ?_
 refine zoJ (t := σ.length) (sz := 1) (n:=(b++zbN l).length) (by simp) hl (by omega) ?_ ?_
 ·rw [zD];simp
 ·exact hK
structure zpv (σ:List zd) (id:Nat) (B O:zd) (S:List zd):Prop where
 a:S[id]? = some O
 b:S[σ.length]? = some B
 pre:∃ τ,S = σ.set id O ++ τ
section
variable {σ S:List zd} {id:Nat} {B O O':zd}
theorem zpv.first (hσ : σ[id]? = some O) (B:zd):zpv σ id B O (σ++[B]):=⟨zn hσ,by rw [zD];rfl,[B],by rw [zcm hσ]⟩
theorem zpv.set (h:zpv σ id B O S) (hid:id < σ.length) (O':zd):zpv σ id B O' (S.set id O'):=by
 obtain ⟨h1,h2, τ,h3⟩:=h
 refine ⟨List.getElem?_set_self (zcY h1),(List.getElem?_set_ne (by omega)).trans h2, τ,?_⟩
 rw [h3,List.set_append_left _ _ (by simpa using hid),List.set_set]
theorem zpv.app (h:zpv σ id B O S) (τ:List zd):zpv σ id B O (S ++ τ):=by
 obtain ⟨h1,h2, τ',h3⟩:=h
 exact ⟨zn h1,zn h2, τ' ++ τ,by rw [h3,List.append_assoc]⟩
theorem zpv.done {K:KT} (h:zpv σ id B O S) (hO:zvA σ.length O) (hl:zgl σ.length σ) (hK:K (.tup []) (σ.set id O)):AW.Ends σ.length K (some []) S:=by
 obtain ⟨_,_, τ,rfl⟩:=h
 exact zgS (by simp [zcq,dmT,zaU]) hl hO hK
theorem zpv.as (h:zpv σ id B O S) (e:O=O'):zpv σ id B O' S:=e▸h
end
abbrev wO (b:List UInt8):zd := .box [.d (.slice (bcs b))]
theorem zuh (n:Nat) (b:List UInt8):zvA n (wO b):=by
 intro c hc
 simp only [List.mem_cons,List.not_mem_nil,or_false] at hc
 subst hc;exact .d _
theorem w64 {x:Int} (h0:0<=x) (h1:x<=9007199254740992):IntKind.u64.wrap x=((x.toNat:Nat):Int):=by
 rw [show x=((x.toNat:Nat):Int) by omega,zdq (by omega)];rfl
section
variable {σ:List zd} {id:Nat} {b:List UInt8} {K:KT}
theorem c_wNum {l:List Int} (hσ : σ[id]? = some (wO b)) (hb:b.length<=536870912) (hl0:l.length<=1000) (hi:∀ x∈l, 0<=x/\x<=9007199254740992) (hK:K (.tup []) (σ.set id (wO (b++zaV l)))) :
  zj Tryz.prog zaf [.box id 0,.d (.slice (ziN l))] σ K:=by
 refine zoZ zlm.is rfl fun hl _=>zlm.goes ?_
 have hid:=zcY hσ
 simp only [zlu,iN,bT,bF,eN]
 refine zQ ?_
 refine zl l.length (fun k vs s=>vs = [.d (.int .i64 k)]/\∃ c T,s = σ.set id (.box [c])++T/\(c = .d (.slice (bcs (b++zaV (l.take k))))∨∃ t,c = .own t (bcs (b++zaV (l.take k))))) ⟨rfl,_,[],by rw [List.append_nil,zcm hσ],.inl (by simp [zaV])⟩ ?_
 rintro k vs s hk ⟨rfl,c,T,rfl,hc⟩
 have hbox:(σ.set id (.box [c])++T)[id]? = some (.box [c]):=zn (zcl hσ)
 by_cases hlt:k<l.length
 ·have hd:decide ((k:Int)<(l.length:Int))=true:=by simp;omega
  have hx:l[k]? = some l[k]:=by simp [hlt]
  have hxi:=hi _ (List.getElem_mem hlt)
  have hgx:=zF (f:=fun t => [D.int .i64 t]) hx
  obtain ⟨x,hxe⟩:∃ x,l[k]=x:=⟨_,rfl⟩
  rw [hxe] at hx hgx hxi
  have hln:=zrQ (l:=l.take k) (fun y hy=>by have:=hi y (List.mem_of_mem_take hy);omega)
  have hlk:(l.take k).length=k:=by rw [List.length_take];omega
  have hw:=w64 hxi.1 hxi.2
  have hbl:(b++zaV (l.take k)).length<=1073741824:=by rw [List.length_append];omega
  have hnx:b++zaV (l.take (k+1))=b++(zaV (l.take k)++zcA x.toNat):=by rw [List.take_add_one,hx];simp [zaV]
  have fin:∀ t τ, ∃ c' T',(σ.set id (.box [c])++T ++ τ).set id (.box [.own t (bcs (b++(zaV (l.take k)++zcA x.toNat)))]) = σ.set id (.box [c'])++T' ∧ (c' = .d (.slice (bcs (b++zaV (l.take (k+1)))))∨∃ t,c' = .own t (bcs (b++zaV (l.take (k+1))))):=by
   intro t τ
   refine ⟨_,T ++ τ,?_,.inr ⟨t,rfl⟩⟩
   rw [hnx,List.append_assoc,List.set_append_left _ _ (by simpa using hid),List.set_set]
  have hbox2:∀ τ,(σ.set id (.box [c])++T ++ τ)[id]? = some (.box [c]):=fun τ=>zn hbox
  obtain ⟨S,hS⟩:∃ S, σ.set id (.box [c])++T=S:=⟨_,rfl⟩
  rw [hS] at hbox fin hbox2 ⊢
  rcases hc with rfl|⟨t,rfl⟩
  ·refine zA (zo hd (zo hgx (zo hbox hw))) ?_
   refine zfe (by omega) hbl ?_
   refine zA (zo hbox2 (wkc k (by omega))) ?_
   exact zan.next hlt ⟨rfl,fin _ _⟩
  ·refine zA (zo hd (zo hgx (zo hbox hw))) ?_
   refine zfe (by omega) hbl ?_
   refine zA (zo hbox2 (wkc k (by omega))) ?_
   exact zan.next hlt ⟨rfl,fin _ _⟩
 ·have hd:decide ((k:Int)<(l.length:Int))=false:=by simp;omega
  rw [List.take_of_length_le (by omega)] at hc
  rcases hc with rfl|⟨t,rfl⟩
  ·refine zA hd ?_
   refine zmZ (zgS (by simp [zcq,dmT,zaU]) hl (zuh _ _) hK)
  ·refine zA hd ?_
   exact zma hσ (by simp [zcq,dmT,zaU]) hl hK
theorem c_wMany {n:Nat} (hσ : σ[id]? = some (wO b)) (hb:b.length<=536870912) (hn:n<=1073741824) (hK:K (.tup []) (σ.set id (wO (b++zcA n)))) :
  zj Tryz.prog zce [.box id 0,.d (.int .i64 n)] σ K:=by
 refine zeE zrd fun hl => ?_
 simp only [zkK,iN,bT,bF,eN]
 refine zQ ?_
 refine c_wNum (l := [(n:Int)]) hσ hb (by simp) (by simp;omega) ?_
 refine zQ ?_
 exact zgJ (by simp [zcq,dmT,zaU]) hl (zuh _ _) (by rw [show zaV [(n:Int)]=zcA n by simp [zaV]];exact hK)
theorem zAH {k d:Int} (hσ : σ[id]? = some (wO b)) (hb:b.length<=536870912) (hc:zN k d=0) (hK:K (.tup []) (σ.set id (wO (b++zfL k d)))) :
  zj Tryz.prog zbb [.box id 0,.agg [.d (.int .i64 k),.d (.int .i64 d)]] σ K:=by
 refine zoZ ziQ.is rfl fun hl _=>ziQ.goes ?_
 have hid:=zcY hσ
 have hσ1:=fun τ=>zn (τ := τ) hσ
 simp only [ziV,iN,bT,bF,eN]
 refine zA hσ1 ?_
 refine zzr (by omega) hc ?_
 refine zA hσ1 ?_
 rw [List.set_append_left _ _ hid]
 exact zma hσ (by simp [zcq,dmT,zaU]) hl hK
theorem c_wBatch {l:List zC} (hσ : σ[id]? = some (wO b)) (hb:b.length<=268435456) (hc:zr l=0) (hK:K (.tup []) (σ.set id (wO (b++zbN l)))) :
  zj Tryz.prog zbA [.box id 0,.d (.slice (zaP l))] σ K:=by
 refine zoZ zhT.is rfl fun hl _=>zhT.goes ?_
 have hid:=zcY hσ
 have hσ1:=fun τ=>zn (τ := τ) hσ
 simp only [zia,iN,bT,bF,eN]
 refine zA (zo hσ hσ1) ?_
 refine c_PutBatchO hb (fun x hx=>Nat.le_trans ((zff hc).1 x hx) (by omega)) hc ?_
 refine zA (zo hσ hσ1) ?_
 rw [List.set_append_left _ _ hid]
 exact zma hσ (by simp [zcq,dmT,zaU]) hl hK
theorem c_wSigns {l:List zy} (hσ : σ[id]? = some (wO b)) (hb:b.length<=268435456) (hc:∀ e∈zcs l,e=0) (hK:K (.tup []) (σ.set id (wO (b++zvI l)))) :
  zj Tryz.prog zcX [.box id 0,.d (.slice (zO l))] σ K:=by
 refine zeE zoc fun hl => ?_
 obtain ⟨h13,hs⟩:=zzS hc
 have hid:=zcY hσ
 have hll:(zO l).length=l.length:=List.length_map ..
 simp only [zhY,iN,bT,bF,eN]
 refine zA hll ?_
 refine c_wMany (n:=l.length) hσ (by omega) (by omega) ?_
 refine zA hll ?_
 refine zl l.length (fun k vs s=>vs = [.d (.int .i64 k)]/\∃ T,s = σ.set id (wO (b++(zcA l.length++((l.take k).map fun s=>zfL s.key s.dig).flatten)))++T) ⟨rfl,[],by simp⟩ ?_
 rintro k vs s hk ⟨rfl,T,rfl⟩
 obtain ⟨O,hO⟩:∃ O,wO (b++(zcA l.length++((l.take k).map fun s=>zfL s.key s.dig).flatten))=O:=⟨_,rfl⟩
 rw [hO]
 by_cases hlt:k<l.length
 ·have hd:decide ((k:Int)<(l.length:Int))=true:=by simp;omega
  have hx:l[k]? = some l[k]:=by simp [hlt]
  have hxi:=hs _ (List.getElem_mem hlt)
  have hgx:=zF (f:=zfi) hx
  obtain ⟨x,hxe⟩:∃ x,l[k]=x:=⟨_,rfl⟩
  rw [hxe] at hx hgx hxi
  have hlen:(((l.take k).map fun s=>zfL s.key s.dig).flatten).length<=(l.take k).length*20:=zdK fun s hm=>zfj (hs s (List.mem_of_mem_take hm))
  have hlk:(l.take k).length=k:=by rw [List.length_take];omega
  have n1:=zm (n:=l.length) (by omega)
  obtain ⟨S,hS⟩:∃ S, σ.set id O++T=S:=⟨_,rfl⟩
  have hSid:S[id]? = some O:=by rw [← hS];exact zn (zcl hσ)
  rw [hS]
  refine zfG (zo hd (zo hgx hll)) ?_
  refine zAH (by rw [← hO] at hSid;exact zn hSid) (by simp only [List.length_append];omega) hxi ?_
  refine zA (wkc k (by omega)) ?_
  refine zan.next hlt ⟨rfl,T++[.box [.d (.int .i64 x.key),.d (.int .i64 x.dig)]],?_⟩
  rw [zeo hx, ← hS,List.append_assoc (σ.set id O),List.set_append_left _ _ (by simpa using hid),List.set_set]
  try simp
 ·have hd:decide ((k:Int)<(l.length:Int))=false:=by simp;omega
  rw [List.take_of_length_le (by omega)] at hO
  subst hO
  refine zA (zo hd hll) ?_
  exact zgS (by simp [zcq,dmT,zaU]) hl (zuh _ _) hK
theorem c_wCert {c:zeP} (hσ : σ[id]? = some (wO b)) (hb:b.length<=134217728) (hc:∀ e∈zdd c,e=0) (hK:K (.tup []) (σ.set id (wO (b++zwW c)))) :
  zj Tryz.prog zdm [.box id 0,zdu c] σ K:=by
 refine zeE zoL fun hl => ?_
 have hid:=zcY hσ
 obtain ⟨h1,h2,h3⟩:=cert_ok hc
 have n1:=zm (n:=c.seq.toNat) (by omega)
 have n2:=zm (n:=c.dig.toNat) (by omega)
 have j:=zpv.first hσ (.box [.d (.int .i64 c.seq),.d (.int .i64 c.dig),.d (.slice (zO c.signs))])
 simp only [ziW,iN,bT,bF,eN]
 refine zQ ?_
 refine c_wNum (l := [c.seq,c.dig]) j.a (by omega) (by simp) (by simp;omega) ?_
 have j:=j.set hid (wO (b++zaV [c.seq,c.dig]))
 obtain ⟨S,hS⟩:∃ S,(σ++[zd.box [.d (.int .i64 c.seq),.d (.int .i64 c.dig),.d (.slice (zO c.signs))]]).set id (wO (b++zaV [c.seq,c.dig]))=S:=⟨_,rfl⟩
 rw [hS] at j ⊢
 have b:=j.b
 refine zA b ?_
 refine c_wSigns j.a (by simp [zaV];omega) h3 ?_
 refine zQ ?_
 exact (j.set hid _).done (zuh _ _) hl (by simpa [zaV,zwW] using hK)
end
end Go.Proofs.YtpgahkdjkanblaaGreat
