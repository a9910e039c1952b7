/- Contracts: the bytes of requests, signatures and batches. -/
import Derived.Test.YtpgahkdjkanblaaGreatOp6
import Derived.Test.YtpgahkdjkanblaaGreatCk2
import Derived.Test.YtpgahkdjkanblaaGreatSpTab
import Derived.Test.YtpgahkdjkanblaaGreatSm4
import Derived.Test.YtpgahkdjkanblaaGreatKr3
import Derived.Test.YtpgahkdjkanblaaGreatCodec1
set_option linter.all false
set_option maxRecDepth 100000
namespace Go.Proofs.YtpgahkdjkanblaaGreat
open Go.AW
def keyF (c:Int):Int:=if c<0∨c≥8 then -1 else 13+c
theorem c_rqKey {σ:List zd} {c:Int} {K:KT} (hK:K (.d (.int .i64 (keyF c))) σ):zj Tryz.prog zmJ [.d (.int .i64 c)] σ K:=by
 refine zdZ zAr fun hl => ?_
 simp only [zsG,iN,bT,bF,eN]
 (repeat' (first|(refine gq3 ?_;try with_reducible exact True.intro)|(refine zV (fun h => ?_) (fun h => ?_)<;>(try rw [h]))|((with_reducible refine And.intro ?_ ?_);focus (first|omega|rfl|decide))))
 all_goals (
  refine zt hl ?_
  (try simp only [decide_eq_true_eq,decide_eq_false_iff_not,beq_iff_eq,beq_eq_false_iff_ne,bne_iff_ne,ne_eq,Bool.not_eq_true',Bool.not_eq_false',bne_eq_false_iff_eq] at *)
  unfold keyF at hK)
 ·rw [if_pos (by omega)] at hK;exact hK
 ·rw [if_pos (by omega)] at hK;exact hK
 ·rw [if_neg (by omega)] at hK;rw [zab (by omega) (by omega)];exact hK
theorem zsZ {x:zC} (h:zlf x.op<=20971520):okO x.op:=by
 have h0:=h
 unfold zlf at h
 refine ⟨by omega,by omega,?_,fun r hr => ?_⟩
 ·have:=zmG x.op.recs;omega
 ·have:=rec_le hr;omega
theorem zxa {σ:List zd} {x:zC} (hx:zlf x.op<=20971520) {K:KT} (hK:K (.tup [.d (.slice (bcs (zbK x))),.d (.int .i64 (zai x))]) σ):zj Tryz.prog zha [reqA x] σ K:=by
 refine zdZ zwC fun hl => ?_
 have hsz:=zsZ hx
 simp only [zpe,iN,bT,bF,eN,reqA]
 refine zQ ?_
 refine c_rqCheck (x:=x) hsz ?_
 by_cases hc:zai x=0
 ·obtain ⟨c0,c8,t1,t2,ho⟩:=req_ok hc
  have hb:(zai x != 0)=false:=by simpa using hc
  have n1:=zm (n:=x.client.toNat) (by omega)
  have n2:=zm (n:=x.time.toNat) (by omega)
  have w1:IntKind.u64.wrap x.client=((x.client.toNat:Nat):Int):=by
   rw [show x.client=((x.client.toNat:Nat):Int) by omega,zdq (by omega)];rfl
  have w2:IntKind.u64.wrap x.time=((x.time.toNat:Nat):Int):=by
   rw [show x.time=((x.time.toNat:Nat):Int) by omega,zdq (by omega)];rfl
  rw [hc,zbK,if_pos hc] at hK
  refine zA (zo hb (zo w1 w2)) ?_
  refine zfe (b := []) (by omega) (by simp) ?_
  refine zA (zo w1 w2) ?_
  refine zfe (by omega) (by first|omega|(simp;omega)) ?_
  refine zA (zo w1 w2) ?_
  refine c_Put (o:=x.op) (by first|omega|(simp;omega)) (by omega) ?_
  refine zQ ?_
  refine zt hl ?_
  rw [if_pos ho]
  exact hK
 ·have hb:(zai x != 0)=true:=by simpa using hc
  rw [zbK,if_neg hc] at hK
  refine zA hb ?_
  refine zt hl ?_
  exact hK
theorem zzm {σ:List zd} {x:zC} (hx:zlf x.op<=20971520) {K:KT} (hK:K (.tup [.d (.slice (bcs (zbK x))),.d (.int .i64 (zai x))]) σ):zj Tryz.prog zmO [reqA x] σ K:=by
 refine zdZ e_r08_Bytes fun hl => ?_
 have hsz:=zsZ hx
 simp only [zxB,iN,bT,bF,eN,reqA]
 refine zQ ?_
 refine zzl (x:=x) hsz ?_
 by_cases hc:zai x=0
 ·obtain ⟨c0,c8,t1,t2,ho⟩:=req_ok hc
  have hb:(zai x != 0)=false:=by simpa using hc
  have n1:=zm (n:=x.client.toNat) (by omega)
  have n2:=zm (n:=x.time.toNat) (by omega)
  have w1:IntKind.u64.wrap x.client=((x.client.toNat:Nat):Int):=by
   rw [show x.client=((x.client.toNat:Nat):Int) by omega,zdq (by omega)];rfl
  have w2:IntKind.u64.wrap x.time=((x.time.toNat:Nat):Int):=by
   rw [show x.time=((x.time.toNat:Nat):Int) by omega,zdq (by omega)];rfl
  rw [hc,zbK,if_pos hc] at hK
  refine zA (zo hb (zo w1 w2)) ?_
  refine zfX (b := []) (by omega) (by simp) ?_
  refine zA (zo w1 w2) ?_
  refine zfX (by omega) (by first|omega|(simp;omega)) ?_
  refine zA (zo w1 w2) ?_
  refine c_rPut (o:=x.op) (by first|omega|(simp;omega)) (by omega) ?_
  refine zQ ?_
  refine zt hl ?_
  rw [if_pos ho]
  exact hK
 ·have hb:(zai x != 0)=true:=by simpa using hc
  rw [zbK,if_neg hc] at hK
  refine zA hb ?_
  refine zt hl ?_
  exact hK
theorem c_PutSign {σ:List zd} {b:List UInt8} {k d:Int} (hb:b.length<=1073741700) {K:KT} (hK:K (.d (.slice (bcs (b++zbF k d)))) σ) :
  zj Tryz.prog zeH [.d (.slice (bcs b)),.agg [.d (.int .i64 k),.d (.int .i64 d)]] σ K:=by
 refine zeE zio fun hl => ?_
 simp only [zit,iN,bT,bF,eN]
 refine zQ ?_
 refine zer ?_
 by_cases hc:zN k d=0
 ·obtain ⟨k0,k1,d0,d1⟩:=zzT hc
  have hq:(zN k d != 0)=false:=by simpa using hc
  have n1:=zm (n:=k.toNat) (by omega)
  have w1:IntKind.u64.wrap k=((k.toNat:Nat):Int):=by
   rw [show k=((k.toNat:Nat):Int) by omega,zdq (by omega)];rfl
  have w2:IntKind.u64.wrap d=((d.toNat:Nat):Int):=by
   rw [show d=((d.toNat:Nat):Int) by omega,zdq (by omega)];rfl
  rw [zbF,if_pos hc] at hK
  refine zA (zo hq (zo w1 w2)) ?_
  refine zfe (by omega) (by omega) ?_
  refine zA (zo w1 w2) ?_
  refine zfe (by omega) (by first|omega|(simp;omega)) ?_
  refine zQ ?_
  refine zt hl ?_
  exact hK
 ·have hq:(zN k d != 0)=true:=by simpa using hc
  rw [zbF,if_neg hc,List.append_nil] at hK
  refine zA hq ?_
  refine zgi zez (by rw [zX];omega) ?_
  refine zQ ?_
  refine zt hl ?_
  exact hK
theorem ziq {σ:List zd} {b:List UInt8} {k d:Int} (hb:b.length<=1073741700) {K:KT} (hK:K (.d (.slice (bcs (b++zbF k d)))) σ) :
  zj Tryz.prog zdA [.d (.slice (bcs b)),.agg [.d (.int .i64 k),.d (.int .i64 d)]] σ K:=by
 refine zeE zAw fun hl => ?_
 simp only [zsL,iN,bT,bF,eN]
 refine zQ ?_
 refine zdl ?_
 by_cases hc:zN k d=0
 ·obtain ⟨k0,k1,d0,d1⟩:=zzT hc
  have hq:(zN k d != 0)=false:=by simpa using hc
  have n1:=zm (n:=k.toNat) (by omega)
  have w1:IntKind.u64.wrap k=((k.toNat:Nat):Int):=by
   rw [show k=((k.toNat:Nat):Int) by omega,zdq (by omega)];rfl
  have w2:IntKind.u64.wrap d=((d.toNat:Nat):Int):=by
   rw [show d=((d.toNat:Nat):Int) by omega,zdq (by omega)];rfl
  rw [zbF,if_pos hc] at hK
  refine zA (zo hq (zo w1 w2)) ?_
  refine zfX (by omega) (by omega) ?_
  refine zA (zo w1 w2) ?_
  refine zfX (by omega) (by first|omega|(simp;omega)) ?_
  refine zQ ?_
  refine zt hl ?_
  exact hK
 ·have hq:(zN k d != 0)=true:=by simpa using hc
  rw [zbF,if_neg hc,List.append_nil] at hK
  refine zA hq ?_
  refine zt hl ?_
  exact hK
theorem c_partsPut {σ:List zd} {b:List UInt8} {l:List zC} (hb:b.length<=268435456) (hs:∀ x∈l,zlf x.op<=20971520) (hc:zr l=0) {K:KT} (hK:K (.d (.slice (bcs (b++zbN l)))) σ) :
  zj Tryz.prog zeW [.d (.slice (zaP l)),.d (.slice (bcs b))] σ K:=by
 refine zeE zgK fun hl => ?_
 obtain ⟨h4,hm,_⟩:=zjP hc
 have n1:=zm (n:=l.length) (by omega)
 have w1:IntKind.u64.wrap (l.length:Int)=(l.length:Int):=zdq (by omega)
 simp only [zgM,iN,bT,bF,eN,zl2]
 refine zA w1 ?_
 refine zfe (by omega) (by omega) ?_
 refine zQ ?_
 refine zck l.length (fun k vs s=>(∃ T,s = σ++T)/\vs = [.d (.slice (bcs (b++(zcA l.length++zdv (l.take k))))),.d (.int .i64 k)])
  (.data 0 _ _ rfl rfl (.refl _ _)) ⟨⟨_,rfl⟩,by simp [zdv]⟩ ?_
 rintro k vs s hk ⟨⟨T,rfl⟩,rfl⟩
 by_cases hlt:k<l.length
 ·have hd:decide ((k:Int)<(l.length:Int))=true:=by simp;omega
  have hx:l[k]? = some l[k]:=by simp [hlt]
  have hgx:=zF (f:=zaN) hx
  have hxs:=hs _ (List.getElem_mem hlt)
  have hxm:=hm _ (List.getElem_mem hlt)
  obtain ⟨x,hxe⟩:∃ x,l[k]=x:=⟨_,rfl⟩
  rw [hxe] at hx hgx hxs hxm
  have hbl:=zni hs hc k
  have hrl:=zor hxs
  have hpl:=ziv (x:=zbK x) (by omega)
  obtain ⟨S,hS⟩:∃ S, σ++T=S:=⟨_,rfl⟩
  rw [hS]
  refine zkZ (zo hd hgx) ?_
  refine zxa (x:=x) hxs ?_
  refine zkZ (zo hd hgx) ?_
  refine zpS (by omega) (by simp;omega) ?_
  refine zkZ (zo hd hgx) ?_
  refine c_PutSign (by simp only [zup,List.length_append] at hpl ⊢;omega) ?_
  refine zA (wk1 k (by omega)) ?_
  refine zan.next hlt ⟨⟨_,by rw [← hS,List.append_assoc]⟩,?_⟩
  rw [zlp hx]
  simp [oneB,zup,zbK,zbF,hxm.1,hxm.2]
 ·have hd:decide ((k:Int)<(l.length:Int))=false:=by simp;omega
  rw [List.take_of_length_le (by omega)]
  refine zA hd ?_
  refine zt hl ?_
  exact hK
theorem ztV {σ:List zd} {b:List UInt8} {l:List zC} (hb:b.length<=268435456) (hs:∀ x∈l,zlf x.op<=20971520) (hl0:l.length<=1073741824) {K:KT} (hK:K (.d (.slice (bcs (b++zbw l)))) σ) :
  zj Tryz.prog zct [.d (.slice (bcs b)),.d (.slice (zaP l))] σ K:=by
 refine zeE zhr fun hl => ?_
 have hok:okB l:=⟨hl0,fun x hx=>zsZ (hs x hx)⟩
 simp only [zhu,iN,bT,bF,eN]
 refine zQ ?_
 refine zfY hok ?_
 by_cases hc:zr l=0
 ·have hq:(zr l != 0)=false:=by simpa using hc
  rw [zbw,if_pos hc] at hK
  refine zA hq ?_
  refine c_partsPut hb hs hc ?_
  refine zQ ?_
  refine zt hl ?_
  exact hK
 ·have hq:(zr l != 0)=true:=by simpa using hc
  rw [zbw,if_neg hc,List.append_nil] at hK
  refine zA hq ?_
  refine zgi zez (by rw [zX];omega) ?_
  refine zQ ?_
  refine zt hl ?_
  exact hK
theorem zkD {σ:List zd} {b:List UInt8} {l:List zC} (hb:b.length<=268435456) (hs:∀ x∈l,zlf x.op<=20971520) (hl0:l.length<=1073741824) {K:KT} (hK:K (.d (.slice (bcs (b++zbw l)))) σ) :
  zj Tryz.prog zdg [.d (.slice (bcs b)),.d (.slice (zaP l))] σ K:=by
 refine zeE zyb fun hl => ?_
 have hok:okB l:=⟨hl0,fun x hx=>zsZ (hs x hx)⟩
 simp only [zqy,iN,bT,bF,eN]
 refine zQ ?_
 refine zgh hok ?_
 by_cases hc:zr l=0
 ·have hq:(zr l != 0)=false:=by simpa using hc
  obtain ⟨h4,hm,_⟩:=zjP hc
  have n1:=zm (n:=l.length) (by omega)
  have w1:IntKind.u64.wrap (l.length:Int)=(l.length:Int):=zdq (by omega)
  rw [zbw,if_pos hc] at hK
  refine zA (zo hq w1) ?_
  refine zfX (by omega) (by omega) ?_
  refine zQ ?_
  refine zck l.length (fun k vs s=>(∃ T,s = σ++T)/\vs = [.d (.slice (bcs (b++(zcA l.length++zdv (l.take k))))),.d (.int .i64 k)])
   (.data 0 _ _ rfl rfl (.refl _ _)) ⟨⟨_,rfl⟩,by simp [zdv]⟩ ?_
  rintro k vs s hk ⟨⟨T,rfl⟩,rfl⟩
  by_cases hlt:k<l.length
  ·have hd:decide ((k:Int)<(l.length:Int))=true:=by simp;omega
   have hx:l[k]? = some l[k]:=by simp [hlt]
   have hgx:=zF (f:=zaN) hx
   have hxs:=hs _ (List.getElem_mem hlt)
   have hxm:=hm _ (List.getElem_mem hlt)
   obtain ⟨x,hxe⟩:∃ x,l[k]=x:=⟨_,rfl⟩
   rw [hxe] at hx hgx hxs hxm
   have hbl:=zni hs hc k
   have hrl:=zor hxs
   have hpl:=ziv (x:=zbK x) (by omega)
   obtain ⟨S,hS⟩:∃ S, σ++T=S:=⟨_,rfl⟩
   rw [hS]
   refine zkZ (zo hd hgx) ?_
   refine zzm (x:=x) hxs ?_
   refine zkZ (zo hd hgx) ?_
   refine zrq (by omega) (by simp;omega) ?_
   refine zkZ (zo hd hgx) ?_
   refine ziq (by simp only [zup,List.length_append] at hpl ⊢;omega) ?_
   refine zA (wk1 k (by omega)) ?_
   refine zan.next hlt ⟨⟨_,by rw [← hS,List.append_assoc]⟩,?_⟩
   rw [zlp hx]
   simp [oneB,zup,zbK,zbF,hxm.1,hxm.2]
  ·have hd:decide ((k:Int)<(l.length:Int))=false:=by simp;omega
   rw [List.take_of_length_le (by omega)]
   refine zA hd ?_
   refine zt hl ?_
   exact hK
 ·have hq:(zr l != 0)=true:=by simpa using hc
  rw [zbw,if_neg hc,List.append_nil] at hK
  refine zA hq ?_
  refine zt hl ?_
  exact hK
theorem w64k {x:Int} (h0:0<=x) (h1:x<=9007199254740992):IntKind.u64.wrap x=((x.toNat:Nat):Int):=by
 rw [show x=((x.toNat:Nat):Int) by omega,zdq (by omega)];rfl
theorem zqt {σ:List zd} {b:List UInt8} {l:List Int} (hb:b.length<=536870912) (hl0:l.length<=1000) (hi:∀ x∈l, 0<=x/\x<=9007199254740992) {K:KT} (hK:K (.d (.slice (bcs (b++zaV l)))) σ) :
  zj Tryz.prog zch [.d (.slice (bcs b)),.d (.slice (ziN l))] σ K:=by
 refine zeE e_r10_put fun hl => ?_
 simp only [S_r10_put,iN,bT,bF,eN]
 refine zQ ?_
 refine zl l.length (fun k vs s=>(∃ x,vs = [x,.d (.int .i64 k)]/\(x = .d (.slice (bcs (b++zaV (l.take k))))∨∃ t,x = .own t (bcs (b++zaV (l.take k)))))/\∃ T,s = σ++T) ⟨⟨_,rfl,.inl (by simp [zaV])⟩,[],by simp⟩ ?_
 rintro k vs s hk ⟨⟨y,rfl,hy⟩,T,rfl⟩
 by_cases hlt:k<l.length
 ·have hd:decide ((k:Int)<(l.length:Int))=true:=by simp;omega
  have hx:l[k]? = some l[k]:=by simp [hlt]
  have hxi:=hi _ (List.getElem_mem hlt)
  have hgx:=zF (f:=fun t => [D.int .i64 t]) hx
  obtain ⟨x,hxe⟩:∃ x,l[k]=x:=⟨_,rfl⟩
  rw [hxe] at hx hgx hxi
  have hw:=w64k hxi.1 hxi.2
  have hln:=zrQ (l:=l.take k) (fun y hy=>by have:=hi y (List.mem_of_mem_take hy);omega)
  have hlk:(l.take k).length=k:=by rw [List.length_take];omega
  have hbl:(b++zaV (l.take k)).length<=1073741824:=by rw [List.length_append];omega
  have hnx:b++zaV (l.take (k+1))=b++(zaV (l.take k)++zcA x.toNat):=by rw [List.take_add_one,hx];simp [zaV]
  have fin:∀ t τ,(∃ z,[AV.own t (bcs (b++(zaV (l.take k)++zcA x.toNat))),.d (.int .i64 (k+1:Nat))] = [z,.d (.int .i64 (k+1:Nat))]/\(z = .d (.slice (bcs (b++zaV (l.take (k+1)))))∨∃ t,z = .own t (bcs (b++zaV (l.take (k+1))))))/\∃ T', σ++T ++ τ = σ++T':=fun t τ=>
   ⟨⟨_,rfl,.inr ⟨t,by rw [hnx]⟩⟩,_,List.append_assoc _ _ _⟩
  obtain ⟨S,hS⟩:∃ S, σ++T=S:=⟨_,rfl⟩
  rw [hS] at fin ⊢
  rcases hy with rfl|⟨t,rfl⟩
  ·refine zA (zo hd (zo hgx hw)) ?_
   refine zfX (by omega) hbl ?_
   refine zA (wkc k (by omega)) ?_
   exact zan.next hlt (fin _ _)
  ·refine zA (zo hd (zo hgx hw)) ?_
   refine zfX (by omega) hbl ?_
   refine zA (wkc k (by omega)) ?_
   exact zan.next hlt (fin _ _)
 ·have hd:decide ((k:Int)<(l.length:Int))=false:=by simp;omega
  rw [List.take_of_length_le (by omega)] at hy
  rcases hy with rfl|⟨t,rfl⟩
  ·refine zA hd ?_
   refine zt hl ?_
   exact hK
  ·refine zA hd ?_
   refine zt hl ?_
   exact hK
theorem zxf {σ:List zd} {b:List UInt8} {l:List zy} (hb:b.length<=268435456) (hc:∀ e∈zcs l,e=0) {K:KT} (hK:K (.d (.slice (bcs (b++zvI l)))) σ) :
  zj Tryz.prog zix [.d (.slice (bcs b)),.d (.slice (zO l))] σ K:=by
 refine zeE zxZ fun hl => ?_
 obtain ⟨h13,hs⟩:=zzS hc
 have hll:(zO l).length=l.length:=List.length_map ..
 have n1:=zm (n:=l.length) (by omega)
 simp only [zqw,iN,bT,bF,eN]
 refine zA hll ?_
 refine zqt (l := [(l.length:Int)]) (by omega) (by simp) (by simp;omega) ?_
 rw [show zaV [(l.length:Int)]=zcA l.length by simp [zaV]]
 refine zA hll ?_
 refine zl l.length (fun k vs s=>vs = [.d (.slice (bcs (b++(zcA l.length++((l.take k).map fun s=>zfL s.key s.dig).flatten)))),.d (.int .i64 k)]/\s = σ) ⟨by simp,rfl⟩ ?_
 rintro k vs s hk ⟨rfl,rfl⟩
 by_cases hlt:k<l.length
 ·have hd:decide ((k:Int)<(l.length:Int))=true:=by simp;omega
  have hx:l[k]? = some l[k]:=by simp [hlt]
  have hxi:=hs _ (List.getElem_mem hlt)
  have hgx:=zF (f:=zfi) hx
  obtain ⟨x,hxe⟩:∃ x,l[k]=x:=⟨_,rfl⟩
  rw [hxe] at hx hgx hxi
  have hlen:(((l.take k).map fun s=>zfL s.key s.dig).flatten).length<=(l.take k).length*20:=zdK fun s hm=>zfj (hs s (List.mem_of_mem_take hm))
  have hlk:(l.take k).length=k:=by rw [List.length_take];omega
  have hsb:zbF x.key x.dig=zfL x.key x.dig:=by simp [zbF,hxi]
  refine zfG (zo hd (zo hgx hll)) ?_
  refine ziq (by simp only [List.length_append];omega) ?_
  rw [hsb]
  refine zA (wkc k (by omega)) ?_
  exact zan.next hlt ⟨by rw [zeo hx];try simp,rfl⟩
 ·have hd:decide ((k:Int)<(l.length:Int))=false:=by simp;omega
  rw [List.take_of_length_le (by omega)]
  refine zA (zo hd hll) ?_
  refine zt hl ?_
  exact hK
theorem c_kPutCert {σ:List zd} {b:List UInt8} {c:zeP} (hb:b.length<=134217728) (hc:∀ e∈zdd c,e=0) {K:KT} (hK:K (.d (.slice (bcs (b++zwW c)))) σ) :
  zj Tryz.prog zjH [.d (.slice (bcs b)),zdu c] σ K:=by
 refine zeE zAu fun hl => ?_
 obtain ⟨h1,h2,h3⟩:=cert_ok hc
 have n1:=zm (n:=c.seq.toNat) (by omega)
 have n2:=zm (n:=c.dig.toNat) (by omega)
 simp only [zsJ,iN,bT,bF,eN]
 refine zQ ?_
 refine zqt (l := [c.seq,c.dig]) (by omega) (by simp) (by simp;omega) ?_
 refine zQ ?_
 refine zxf (by simp [zaV];omega) h3 ?_
 refine zQ ?_
 refine zt hl ?_
 have fin:∀ x,x=b++zwW c->K (dmT (zcq [.d (.slice (bcs x))])) σ:=by rintro _ rfl;exact hK
 exact fin _ (by simp [zwW,zaV])
theorem zzp {σ:List zd} {b:List UInt8} {c:zJ} (hb:b.length<=67108864) (hc:∀ e∈zey c,e=0) {K:KT} (hK:K (.d (.slice (bcs (b++ztW c)))) σ) :
  zj Tryz.prog zjI [.d (.slice (bcs b)),.agg (zbj c)] σ K:=by
 refine zeE zAv fun hl => ?_
 have hpl:(zdC c.above).length=c.above.length:=List.length_map ..
 obtain ⟨h1,h2,h3,h4,h5⟩:=body_ok hc
 have n1:=zm (n:=c.view.toNat) (by omega)
 have n2:=zm (n:=c.src.toNat) (by omega)
 have n3:=zm (n:=c.above.length) (by omega)
 have n4:=zwV h3
 simp only [zsK,iN,bT,bF,eN,zl3]
 refine zQ ?_
 refine zqt (l := [c.view,c.src]) (by omega) (by simp) (by simp;omega) ?_
 refine zQ ?_
 refine c_kPutCert (c:=c.cert) (by simp [zaV];omega) h3 ?_
 refine zA hpl ?_
 refine zqt (l := [(c.above.length:Int)]) (by simp [zaV];omega) (by simp) (by simp;omega) ?_
 rw [show zaV [(c.above.length:Int)]=zcA c.above.length by simp [zaV]]
 obtain ⟨Q,hQ⟩:∃ Q,b++(zaV [c.view,c.src]++zwW c.cert)++zcA c.above.length=Q:=⟨_,rfl⟩
 have hQl:Q.length<=67108864+400:=by rw [← hQ];simp [zaV];omega
 rw [hQ]
 refine zA hpl ?_
 refine zl c.above.length (fun k vs s=>vs = [.d (.slice (bcs (Q++((c.above.take k).map zuQ).flatten))),.d (.int .i64 k)]/\∃ T,s = σ++[.box (zbj c)]++T) ⟨by simp,[],by simp⟩ ?_
 rintro k vs s hk ⟨rfl,T,rfl⟩
 by_cases hlt:k<c.above.length
 ·have hd:decide ((k:Int)<(c.above.length:Int))=true:=by simp;omega
  have hx:c.above[k]? = some c.above[k]:=by simp [hlt]
  have hpx:=h5 _ (List.getElem_mem hlt)
  have hgx:=zF (f:=zei) hx
  obtain ⟨p,hp⟩:∃ p,c.above[k]=p:=⟨_,rfl⟩
  rw [hp] at hx hgx hpx
  have hlen:(((c.above.take k).map zuQ).flatten).length<=(c.above.take k).length*4400:=zdK fun s hm=>zvN (h5 s (List.mem_of_mem_take hm))
  have hlk:(c.above.take k).length=k:=by rw [List.length_take];omega
  obtain ⟨R,hR⟩:∃ R,Q++((c.above.take k).map zuQ).flatten=R:=⟨_,rfl⟩
  have hRl:R.length<=67108864+36000:=by rw [← hR,List.length_append];omega
  rw [hR]
  obtain ⟨p1,p2,p3,p4,p5,p6⟩:=prep_ok hpx
  have m1:=zm (n:=p.view.toNat) (by omega)
  have m2:=zm (n:=p.seq.toNat) (by omega)
  have m3:=zm (n:=p.dig.toNat) (by omega)
  have m4:=zfj p4
  have m5:=zpz p5
  have hsb:zbF p.fkey p.fdig=zfL p.fkey p.fdig:=by simp [zbF,p4]
  have hbb:zbw p.batch=zbN p.batch:=by simp [zbw,p6]
  have hbx:∀ τ,(σ++[zd.box (zbj c)]++T ++ τ)[σ.length]? = some (.box (zbj c)):=fun τ=>zn (zn (by rw [zD];rfl))
  have hbx0:=hbx []
  rw [List.append_nil] at hbx0
  have fin:∀ τ, ∃ T', σ++[zd.box (zbj c)]++T ++ τ = σ++zd.box (zbj c)::T':=fun τ=>⟨T ++ τ,by simp⟩
  obtain ⟨S,hS⟩:∃ S, σ++[zd.box (zbj c)]++T=S:=⟨_,rfl⟩
  rw [hS] at hbx hbx0 fin ⊢
  refine zfG (zo hd (zo hgx (zo hpl (zo hbx hbx0)))) ?_
  refine zqt (l := [p.view,p.seq,p.dig]) (by omega) (by simp) (by simp;omega) ?_
  refine zQ ?_
  refine ziq (by simp [zaV];omega) ?_
  rw [hsb]
  refine zQ ?_
  refine zxf (by simp [zaV];omega) p5 ?_
  refine zQ ?_
  refine zkD (by simp [zaV];omega) (fun x hx=>Nat.le_trans ((zff p6).1 x hx) (by omega)) (by have:=(zjP p6).1;omega) ?_
  rw [hbb]
  refine zA (wkc k (by omega)) ?_
  refine zan.next hlt ⟨?_,fin _⟩
  rw [zeo hx, ← hR]
  simp [zuQ,zaV]
 ·have hd:decide ((k:Int)<(c.above.length:Int))=false:=by simp;omega
  have hbx0:(σ++[zd.box (zbj c)]++T)[σ.length]? = some (.box (zbj c)):=zn (by rw [zD];rfl)
  rw [show c.above.take k=c.above from List.take_of_length_le (by omega)]
  obtain ⟨S,hS⟩:∃ S,[zd.box (zbj c)]++T=S:=⟨_,rfl⟩
  rw [List.append_assoc,hS] at hbx0 ⊢
  refine zA (zo hd (zo hpl hbx0)) ?_
  refine zt hl ?_
  rw [← hQ]
  have fin:∀ x,x=b++ztW c->K (dmT (zcq [.d (.slice (bcs x))])) σ:=by rintro _ rfl;exact hK
  exact fin _ (by simp [ztW,zaV])
theorem c_kPutChange {σ:List zd} {b:List UInt8} {c:zJ} (hb:b.length<=67108864) (hc:∀ e∈zaY c,e=0) {K:KT} (hK:K (.d (.slice (bcs (b++zfW c)))) σ) :
  zj Tryz.prog zkj [.d (.slice (bcs b)),.agg (zbj c)] σ K:=by
 refine zeE zwH fun hl => ?_
 obtain ⟨h1,h2⟩:=zkC hc
 have n1:=zoX h1
 have hsb:zbF c.key c.dig=zfL c.key c.dig:=by simp [zbF,h2]
 simp only [zpi,iN,bT,bF,eN]
 refine zQ ?_
 refine zzp (c:=c) hb h1 ?_
 refine zQ ?_
 refine ziq (by simp only [List.length_append];omega) ?_
 rw [hsb]
 refine zQ ?_
 refine zt hl ?_
 have fin:∀ x,x=b++zfW c->K (dmT (zcq [.d (.slice (bcs x))])) σ:=by rintro _ rfl;exact hK
 exact fin _ (by simp [zfW,zaV])
end Go.Proofs.YtpgahkdjkanblaaGreat
