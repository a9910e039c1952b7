/- Contracts: publishers that no call made. -/
import Derived.Test.YtdgcepphjnoalaaGreatKr6
import Derived.Test.YtdgcepphjnoalaaGreatAwKeepX
import Derived.Test.YtdgcepphjnoalaaGreatOpC
import Derived.Test.YtdgcepphjnoalaaGreatId3
import Derived.Test.YtdgcepphjnoalaaGreatSh
import Derived.Test.YtdgcepphjnoalaaGreatSpTab
import Derived.Test.YtdgcepphjnoalaaGreatRc2
import Derived.Test.YtdgcepphjnoalaaGreatPp1
import Derived.Test.YtdgcepphjnoalaaGreatKr3
set_option linter.all false
set_option maxRecDepth 100000
namespace Go.Proofs.YtdgcepphjnoalaaGreat
open Go.AW
abbrev zvx:zr:=⟨0,0,⟨0,[],[],0,[]⟩,0,0⟩
section
variable {σ:List AObj} {x:AV} {K:KT}
end
abbrev zna (f cl:Int) (t l:Nat) (time:Int) (w:List zr) (sy:AV) (ticks:Int) (la:List (List D)) (many:Int):List AV:=
 [.d (.bool true),.d (.int .i64 f),.d (.int .i64 cl),.box t 0,.box l 0,.d (.int .i64 time),.d (.slice (zbz w)),sy,.d (.int .i64 ticks),.d (.slice la),.d (.int .i64 many)]
theorem ztt {σ S:List AObj}{K:KT}{l:List AV}(h:S.take σ.length=σ)(h1:Low σ.length (dmT (zcm l)))(hl:zhp σ.length σ)(hK:K (dmT (zcm l)) σ):AW.Ends σ.length K (some l) S:=by
 unfold AW.Ends;rw[h];exact⟨h1,hl,hK⟩
section
variable {σ:List AObj} {K:KT}
theorem c_pNew {i:TGi}{f cl:Int}{L:List (List UInt8)}{G:List zI}(h:TG i σ L G)(hL:zmI L)(hg:G.length<=1073741824)(hf:zhj f=0)(h0:0<=cl)(h8:cl<8)
  (hK:∀S q,σ.length<=q->S[q]? = some (.box (zna f cl i.id i.id2 0 [] (.d .nilmap) 0 [] 0))->(∀(j:Nat) (x:AObj),σ[j]? = some x->S[j]? = some x)->K (.tup [.box q 0,.d (.int .i64 0)]) S) :
  zP zfM [.d (.int .i64 f),.d (.int .i64 cl),.box i.id 0,.box i.id2 0] σ K:=by
 refine ACall.weaken ?_;refine zeS zkL.is rfl fun hl _=>zkL.goes ?_;simp only[zkU,iN,bT,bF,eN];have d1:decide (cl<0)=false:=by simp;omega
 have d2:decide (cl≥8)=false:=by simp;omega
 refine zG ?_;refine zvo h.tab hL.nd hL.len hL.each ?_;refine zG ?_;refine zAD (h.led.app _) hg fun g'=>?_;refine zG ?_;refine zwT ?_;rw[hf];refine zm (zd d1 (zd d2 (show((0:Int) != 0)=false from rfl))) ?_;obtain⟨R,hR⟩:∃R,σ++[AObj.map (tabM L),AObj.box [AV.own (σ.length+2) (zvH L),AV.map σ.length],AObj.tok 1 L.length,AObj.map (zxF g'),AObj.box [AV.own (σ.length+5) (ztZ g'),AV.map (σ.length+3)],AObj.tok 2 g'.length]=R:=⟨_,rfl⟩;have hRl:R.length=σ.length+6:=by rw[← hR];simp
 have hRp:∀(j:Nat) (x:AObj),σ[j]? = some x->∀τ,(R++τ)[j]? = some x:=fun j x hx τ=>zi (by rw[← hR];exact zi hx);rw[show ∀X:AObj,σ++[AObj.map (tabM L),AObj.box [AV.own (σ.length+2) (zvH L),AV.map σ.length],AObj.tok 1 L.length,AObj.map (zxF g'),AObj.box [AV.own (σ.length+5) (ztZ g'),AV.map (σ.length+3)],AObj.tok 2 g'.length,X]=R++[X]from fun X=>by rw[← hR];simp,← hRl];refine zlj ⟨.tup [.box R.length 0,.d (.int .i64 0)],R++[.box (zna f cl i.id i.id2 0 [] (.d .nilmap) 0 [] 0)],?_,hK _ R.length (by omega) (by rw[zB];rfl) fun j x hx=>hRp j x hx _⟩;refine .dataB R.length 6 _ (.exact []) [] (by rw[zB];rfl) rfl rfl ?_;rw[zab];refine .dataB R.length 9 _ (.exact []) [] (by rw[zB];rfl) rfl rfl ?_;rw[zab];exact .refl _ _
abbrev zde (l:List (Int × Int × Int)):List (AV × AV):=l.map fun e=>(.d (.int .i64 e.1),.agg [.d (.int .i64 e.2.1),.d (.int .i64 e.2.2)])
theorem zff {f cl:Int}{q t l:Nat}{time:Int}{w:List zr}{sy:AV}{ticks:Int}{la:List (List D)}{many:Int}(h:σ[q]? = some (.box (zna f cl t l time w sy ticks la many)))(hK:K (.d (.bool false)) σ):zP zV [.box q 0] σ K:=by
 refine zeA zlk fun hl=>?_;simp only[zgp,iN,bT,bF,eN];refine zm h ?_;refine zu hl ?_;exact hK
theorem says_get {l:List (Int × Int × Int)}{i:Nat}{e:AV × AV}(h:(zde l)[i]? = some e):∃x,l[i]? = some x/\e=(.d (.int .i64 x.1),.agg [.d (.int .i64 x.2.1),.d (.int .i64 x.2.2)]):=by
 simp only[zde,List.getElem?_map]at h;obtain⟨x,h1,h2⟩:=Option.map_eq_some_iff.1 h;exact⟨x,h1,h2.symm⟩
def zqj (l:List (Int × Int × Int)) (a b:Int):Nat:=l.countP fun e=>(a==e.2.1)&&(b==e.2.2)
theorem zvq {f cl:Int}{q t l n:Nat}{time:Int}{w:List zr}{ticks:Int}{la:List (List D)}{many a b:Int}{sy:List (Int × Int × Int)}(h:σ[q]? = some (.box (zna f cl t l time w (.map n) ticks la many)))(hn:σ[n]? = some (.map (zde sy)))(hb:sy.length<=1000000)
  (hK:K (.d (.int .i64 (zqj sy a b))) σ):zP zbF [.box q 0,.agg [.d (.int .i64 a),.d (.int .i64 b)]] σ K:=by
 refine zeq zfS fun hl=>?_;have hq:∀τ,(σ++τ)[q]? = some (.box (zna f cl t l time w (.map n) ticks la many)):=fun τ=>zi h;have hn':∀τ,(σ++τ)[n]? = some (.map (zde sy)):=fun τ=>zi hn;have hnl:=zaa hn;have hlen:(zde sy).length=sy.length:=List.length_map ..;simp only[zdQ,iN,bT,bF,eN];refine zG ?_;refine zff (hq _) ?_;refine zm hq ?_;simp only[zkp,hn'];intro c bs hbl hbn;rw[hlen]at hbl;obtain⟨X,hX⟩:∃X,AObj.box [.d (.int .i64 a),.d (.int .i64 b)]=X:=⟨_,rfl⟩;rw[hX];refine zn sy.length (fun k vs S=>∃seen ys T,vs=[.d (.int .i64 (zqj ys a b))]/\seen.length=k/\zlK bs sy seen ys/\seen.Nodup/\S=(σ.set n (.mapr c bs (zde sy))++X::.mit (some n) c seen::T)) ⟨[],[],[],rfl,rfl,.nil,.nil,by rw[List.set_append_left _ _ hnl];simp⟩ ?_;rintro k vs S hk ⟨seen,ys,T,rfl,rfl,hS,hsn,rfl⟩;obtain⟨ρ,hρ⟩:∃ρ,σ.set n (.mapr c bs (zde sy))=ρ:=⟨_,rfl⟩;have hρl:ρ.length=σ.length:=by rw[← hρ];simp
 have r1:∀τ,(ρ++τ)[n]? = some (.mapr c bs (zde sy)):=fun τ=>zi (by rw[← hρ];exact List.getElem?_set_self hnl);have r2:∀Y τ,(ρ++X::Y::τ)[σ.length+1]? = some Y:=fun Y τ=>by rw[← hρl,zA];rfl
 have r3:∀Y τ,(ρ++X::Y::τ)[σ.length]? = some X:=fun Y τ=>by rw[← hρl,zB];rfl
 have el:(σ++[X]).length=σ.length+1:=by simp
 rw[hρ];simp only[el,zov,r1,r2,zJ];refine⟨trivial,fun hall=>?_,fun j b1 e hb1 he hnb=>?_⟩
 ·have hp:=hS.perm hsn hbn hbl hall;have hc:zqj ys a b=zqj sy a b:=hp.countP_eq _;rw[hc];refine zG ?_;refine ztt ?_ (by simp[zhe,dmT,dm,dm1,zcm]) hl hK;rw[List.set_append_left _ _ (by omega),List.take_append_of_le_length (by simp;omega),← hρ,List.set_set,zbR hn,List.take_length]
 ·obtain⟨⟨key,x1,x2⟩,hx,rfl⟩:=says_get he;have hlt:seen.length<sy.length:=by
   have:=hS.lt hsn hbl (List.mem_of_getElem? hb1) hnb;rw[hS.1];exact this
  have hs2:(ρ++X::AObj.mit (some n) c seen::T).set (σ.length+1) (AObj.mit (some n) c (seen++[b1]))=ρ++X::AObj.mit (some n) c (seen++[b1])::T:=by
   rw[← hρl,zY];rfl
  have hS2:=hS.snoc hb1 hx;have hsn2:(seen++[b1]).Nodup:=by
   rw[List.nodup_append];exact⟨hsn,by simp,fun x hx y hy=>by simp at hy;subst hy;exact fun e=>hnb (e▸hx)⟩
  have hyl:ys.length<=1000000:=by have:=hS.1;omega
  have hcn:zqj ys a b<=ys.length:=List.countP_le_length;have hst:zqj (ys++[(key,x1,x2)]) a b=zqj ys a b+if ((a==x1)&&(b==x2))=true then 1 else 0:=by
   simp only[zqj,List.countP_append,List.countP_singleton]
  refine zG ?_;rw[hs2];simp only[znm,r1,r2];refine⟨trivial,j,b1,_,by simp,hb1,he,?_⟩;have r3':∀τ,(ρ++X::AObj.mit (some n) c (seen++[b1])::τ)[σ.length]? = some (.box [.d (.int .i64 a),.d (.int .i64 b)]):=fun τ=>by rw[hX];exact r3 _ _
  have hxy:zch [AV.d (.int .i64 a),AV.d (.int .i64 b)] [AV.d (.int .i64 x1),AV.d (.int .i64 x2)]=some ((a==x1)&&(b==x2)):=by simp[zch]
  cases hq2:((a==x1)&&(b==x2))
  ·rw[hq2]at hxy hst;refine zm (zd r3' hxy) ?_;refine zaK.next hlt ⟨seen++[b1],ys++[(key,x1,x2)],_,by rw[hst];simp,by simp,hS2,hsn2,rfl⟩
  ·rw[hq2]at hxy hst;refine zm (zd r3' (zd hxy (wk1 (zqj ys a b) (by omega)))) ?_;exact zaK.next hlt ⟨seen++[b1],ys++[(key,x1,x2)],_,by rw[hst];simp,by simp,hS2,hsn2,rfl⟩
end
def fsay (k:Int):List (Int × Int × Int)->Nat->Option (Nat × (Int × Int))
 | [],_=>none
 | e::r,i=>if k=e.1 then some (i,e.2)else fsay k r (i+1)
theorem ztg (s:Int):∀(l:List (Int × Int × Int)) (i:Nat),zoC .int (.d (.int .i64 s)) (zde l) i=some ((fsay s l i).map fun q=>(q.1,.agg [.d (.int .i64 q.2.1),.d (.int .i64 q.2.2)]))
 | [],_=>rfl
 | e::r,i=>by
  simp only[zde,List.map_cons,zoC,ziA,if_true,fsay];by_cases h:s=e.1
  ·simp[h]
  ·have:(s==e.1)=false:=by simpa using h
   simp only[this,if_neg h];exact ztg s r (i+1)
def zht (l:List (Int × Int × Int)) (k a b:Int):List (Int × Int × Int):=match fsay k l 0 with
 | some q=>l.set q.1 (k,a,b)
 | none=>l++[(k,a,b)]
theorem says_set (l:List (Int × Int × Int))(i:Nat)(k a b:Int):(zde l).set i (.d (.int .i64 k),.agg [.d (.int .i64 a),.d (.int .i64 b)])=zde (l.set i (k,a,b)):=by
 simp only[zde,List.map_set]
theorem zzI (l:List (Int × Int × Int))(k a b:Int):zde l++[(.d (.int .i64 k),.agg [.d (.int .i64 a),.d (.int .i64 b)])]=zde (l++[(k,a,b)]):=by simp
theorem lowSays (n:Nat)(l:List (Int × Int × Int)):ztO n (.map (zde l)):=by
 intro e he;obtain⟨x,_,rfl⟩:=List.mem_map.1 he;refine⟨.d _,.agg _ fun c hc=>?_⟩;simp only[List.mem_cons,List.not_mem_nil,or_false]at hc;rcases hc with rfl|rfl<;>exact .d _
abbrev ansD (s:zr) (a b:Int):List D:=[.int .i64 s.client,.int .i64 s.time,.int .i64 s.op.kind,.str s.op.topic,.str s.op.group,.int .i64 s.op.offset,.slice (zdU s.op.recs),.int .i64 a,.int .i64 b]
theorem ends_take2 {n:Nat}{σ' S:List AObj}{K:KT}{l:List AV}(h:S.take n=σ')(h1:Low n (dmT (zcm l)))(hl:zhp n σ')(hK:K (dmT (zcm l)) σ'):AW.Ends n K (some l) S:=by
 unfold AW.Ends;rw[h];exact⟨h1,hl,hK⟩
section
variable {σ:List AObj} {K:KT}
theorem c_quSmall {f:Int}(hK:K (.d (.int .i64 (zgA 1 f))) σ):zP zme [.d (.int .i64 f)] σ K:=by
 refine zeA zxV fun hl=>?_;simp only[zqH,iN,bT,bF,eN];refine zG ?_;refine c_times (by omega) ?_;refine zG ?_;refine zu hl ?_;exact hK
theorem c_pTake {f cl:Int}{q t l n:Nat}{time:Int}{s:zr}{ticks:Int}{la:List (List D)}{many:Int}{sy:List (Int × Int × Int)}{m:zbC}
  (h:σ[q]? = some (.box (zna f cl t l time [s] (.map n) ticks la many))) (hn:σ[n]? = some (.map (zde sy))) (hb:sy.length<=900000)
  (hv:∀τ (K:KT),K (.d (.bool true)) (σ++τ)->zP zhg [.box t 0,.box l 0,zgi m] (σ++τ) K)
  (hk:m.kind=5) (hcl:m.client=cl) (htm:m.time=time) (hf:1<=f/\f<=4) (hsr:m.src<3*f+1) (hmn:0<=many/\many<=1000000)
  (hK0:(zqj (zht sy m.src m.rerr m.roff) m.rerr m.roff:Int)<f+1->K (.d (.bool false)) (σ.set n (.map (zde (zht sy m.src m.rerr m.roff)))))
  (hK1:¬(zqj (zht sy m.src m.rerr m.roff) m.rerr m.roff:Int)<f+1->K (.d (.bool true)) ((σ.set n (.map (zde (zht sy m.src m.rerr m.roff)))).set q (.box (zna f cl t l time [] (.d .nilmap) ticks [ansD s m.rerr m.roff] (many+1))))) :
  zP zaH [.box q 0,zgi m] σ K:=by
 refine zje zcJ.is rfl fun hl _=>zcJ.goes ?_;have hq:∀τ,(σ++τ)[q]? = some (.box (zna f cl t l time [s] (.map n) ticks la many)):=fun τ=>zi h;have hn':∀τ,(σ++τ)[n]? = some (.map (zde sy)):=fun τ=>zi hn;have hnl:=zaa hn;have hql:=zaa h;have hqn:q≠n:=fun e=>by rw[e,hn]at h;cases h
 have hmf:=ztg m.src sy 0;simp only[zcL,iN,bT,bF,eN,zl1];refine zG ?_;refine zff (hq _) ?_;refine zjC (zd hq (zd (show((1:Int)==0)=false from rfl) @List.length_cons.{0})) ?_;refine hv _ _ ?_;have e1:(m.kind != 5)=false:=by rw[hk];rfl
 have e2:(m.client != cl)=false:=by rw[hcl];simp
 have e3:(m.time != time)=false:=by rw[htm];simp
 have e4:zgA 3 f=3*f+1:=by rw[zgA,if_neg (by omega)]
 have e5:zgA 1 f=f+1:=by rw[zgA,if_neg (by omega),Int.one_mul]
 have e6:decide (m.src≥3*f+1)=false:=by simp;omega
 refine zm (zd hq (zd e1 (zd e2 (zd e3 (show(false==false)=true from rfl))))) ?_;refine zwU ?_;rw[e4];obtain⟨sy2,hsy2⟩:∃s,zht sy m.src m.rerr m.roff=s:=⟨_,rfl⟩;rw[hsy2]at hK0 hK1;have hlen2:sy2.length<=1000000:=by
  rw[← hsy2];unfold zht;split<;>simp<;>omega
 obtain⟨X,hX⟩:∃X,AObj.box (msgL m)=X:=⟨_,rfl⟩;obtain⟨S,hS⟩:∃S,(σ++[X]).set n (.map (zde sy2))=S:=⟨_,rfl⟩;have hx0:∀τ,(σ++X::τ)[σ.length]? = some (.box (msgL m)):=fun τ=>by rw[hX,zB];rfl
 have s1:S[q]? = some (.box (zna f cl t l time [s] (.map n) ticks la many)):=by rw[← hS,List.getElem?_set_ne (Ne.symm hqn)];exact hq _
 have s2:S[n]? = some (.map (zde sy2)):=by rw[← hS];exact List.getElem?_set_self (by simp;omega)
 have s3:S[σ.length]? = some (.box (msgL m)):=by rw[← hS,List.getElem?_set_ne (by omega)];exact hx0 _
 rw[hX];have zs:∀Y,(S.set q Y)[q]? = some Y:=fun Y=>List.getElem?_set_self (zaa s1);have hmw:IntKind.i64.wrap (many+1)=many+1:=zaW (by omega) (by omega);have fin1:K (.d (.bool true)) ((σ.set n (.map (zde sy2))).set q (.box (zna f cl t l time [] (.d .nilmap) ticks [ansD s m.rerr m.roff] (many+1)))) →
   EndsW σ.length K (some [.d (.bool true)]) (S.set q (.box [.d (.bool true),.d (.int .i64 f),.d (.int .i64 cl),.box t 0,.box l 0,.d (.int .i64 time),.exact [],.d .nilmap,.d (.int .i64 ticks),.exact [ansD s m.rerr m.roff],.d (.int .i64 (many+1))])):=fun hK=>by
  refine⟨S.set q (.box (zna f cl t l time [] (.d .nilmap) ticks [ansD s m.rerr m.roff] (many+1))),?_,?_⟩
  ·refine .dataB q 6 _ (.exact []) [] (zs _) rfl rfl ?_;rw[List.set_set];refine .dataB q 9 _ (.exact [ansD s m.rerr m.roff]) [ansD s m.rerr m.roff] (zs _) rfl rfl ?_;rw[List.set_set];exact .refl _ _
  ·have hS':S=σ.set n (.map (zde sy2))++[X]:=by rw[← hS,List.set_append_left _ _ hnl]
   rw[hS',List.set_append_left _ _ (by simpa using hql)];refine ends_take2 (by rw[List.take_append_of_le_length (by simp),List.take_of_length_le (by simp)]) (by simp[zhe,dmT,dm,dm1,zcm]) ((hl.setO (lowSays _ _)).setO ?_) hK;intro c hc;have hb:=hl q _ h c;simp only[List.mem_cons,List.not_mem_nil,or_false]at hc;rcases hc with rfl|rfl|rfl|rfl|rfl|rfl|rfl|rfl|rfl|rfl|rfl;all_goals first
    | exact .d _
    | exact hb (by simp)
 unfold zht at hsy2;cases hfs:fsay m.src sy 0 with
 | none=>
  rw[hfs]at hmf hsy2
  simp only at hsy2
  refine gq26 (zd hq (zd e6 (zd hn' (zd hx0 (zd hmf (zd @zzI (zd hsy2 (zd hS (zd s1 (zd s2 s3)))))))))) ?_
  refine zvq s1 s2 hlen2 ?_
  refine zm (zd hq (zd hx0 (zd @zzI (zd hsy2 (zd hS (zd s1 (zd s2 s3))))))) ?_
  refine c_quSmall ?_
  rw[e5]
  cases hlt:decide ((zqj sy2 m.rerr m.roff:Int)<f+1)
  ·refine zdB (zd hlt (zd s1 (zd s3 (zd zs (zd @List.set_set.{0} (zd @List.length_cons.{0} hmw)))))) ?_
   exact fin1 (hK1 (by simpa using hlt))
  ·refine zm hlt ?_
   refine ziO ?_
   rw[← hS,List.set_append_left _ _ hnl]
   exact zeP (by simp[zhe,dmT,dm,dm1,zcm]) hl (lowSays _ _) (hK0 (by simpa using hlt))
 | some o=>
  rw[hfs]at hmf hsy2
  simp only at hsy2
  refine gq26 (zd hq (zd e6 (zd hn' (zd hx0 (zd hmf (zd @says_set (zd hsy2 (zd hS (zd s1 (zd s2 s3)))))))))) ?_
  refine zvq s1 s2 hlen2 ?_
  refine zm (zd hq (zd hx0 (zd @says_set (zd hsy2 (zd hS (zd s1 (zd s2 s3))))))) ?_
  refine c_quSmall ?_
  rw[e5]
  cases hlt:decide ((zqj sy2 m.rerr m.roff:Int)<f+1)
  ·refine zdB (zd hlt (zd s1 (zd s3 (zd zs (zd @List.set_set.{0} (zd @List.length_cons.{0} hmw)))))) ?_
   exact fin1 (hK1 (by simpa using hlt))
  ·refine zm hlt ?_
   refine ziO ?_
   rw[← hS,List.set_append_left _ _ hnl]
   exact zeP (by simp[zhe,dmT,dm,dm1,zcm]) hl (lowSays _ _) (hK0 (by simpa using hlt))
end
structure smallPl (p:znA):Prop where
 off:zqp p.offset
 topic:p.topic.length<=16777216
 rec_:p.rec_.length<=16777216
structure smallBk (b:znJ):Prop where
 seq:zqp b.header.seq
 len:b.placed.length<=1048576
 each:∀p∈b.placed,smallPl p
variable {σ:List AObj}
def lastC:List (Int × Int × Int)->List AV
 | []=>[]
 | a::r=>.d (.int .i64 a.1)::.d (.int .i64 a.2.1)::.d (.int .i64 a.2.2)::lastC r
structure TopsAt (σ:List AObj) (id t g:Nat) (T:ztM):Prop where
 box:σ[id]? = some (.box (.rsl t g 4 0 T.l.length::lastC T.last))
 row:σ[t]? = some (.row g 4 (zcF (topsE T.l)))
 last:T.last.length=8
structure Stays (σ S:List AObj) (id:Nat):Prop where
 len:σ.length<=S.length
 get:∀(j:Nat) (x:AObj),σ[j]? = some x->j≠id->(∀g sz cs,x≠.row g sz cs)->S[j]? = some x
theorem Stays.app (σ τ:List AObj)(id:Nat):Stays σ (σ++τ) id:=⟨by simp,fun _ _ h _ _=>zi h⟩
theorem Stays.trans {σ S R:List AObj}{id:Nat}(h:Stays σ S id)(h':Stays S R id):Stays σ R id:=⟨Nat.le_trans h.len h'.len,fun j x hx hj hr=>h'.get j x (h.get j x hx hj hr) hj hr⟩
theorem TopsAt.app {id t g:Nat}{T:ztM}(h:TopsAt σ id t g T)(τ:List AObj):TopsAt (σ++τ) id t g T:=⟨zi h.box,zi h.row,h.last⟩
abbrev zeroH:zsN:=⟨0,0,0,0,0⟩
def genF (L:List (List UInt8)):zsN × Int × List (List UInt8):=
 let r:=rootF L []
 let L2:=zga r.2 (topsB ztX)
 if r.1=0∨zhY r.2 (topsB ztX)=0 then(zeroH,6,L2)else(⟨0,0,0,r.1,zhY r.2 (topsB ztX)⟩,0,L2)
variable {σ:List AObj}
structure ExecR where
 e:Int
 h:zsN
 p:List znA
 L:List (List UInt8)
 T:ztM
structure Stays2 (σ S:List AObj) (id tid:Nat):Prop where
 len:σ.length<=S.length
 get:∀(j:Nat) (x:AObj),σ[j]? = some x->j≠id->j≠tid->(∀g sz cs,x≠.row g sz cs)->S[j]? = some x
theorem Stays2.app {id tid:Nat}(X:AObj)(τ:List AObj):Stays2 σ (σ.set id X++τ) id tid:=
 ⟨by simp,fun j x hx h1 h2 h3=>zi ((List.getElem?_set_ne (Ne.symm h1)).trans hx)⟩
structure ExJ (σ:List AObj) (n tid:Nat) (H P:AObj) (A:List znA × ztM) (N:List (List D)) (S:List AObj) (t g:Nat):Prop where
 top:TopsAt S tid t g A.2
 hb:S[n]? = some H
 zb:S[n+1]? = some (.box [.d (.int .i64 0),.d (.int .i64 0),.d (.int .i64 0),.d (.int .i64 0),.d (.int .i64 0)])
 pb:S[n+2]? = some P
 m:S[n+3]? = some (.tok 3 A.1.length)
 k:S[n+4]? = some (.tok 5 N.length)
 rest:∀(j:Nat) (x:AObj),σ[j]? = some x->j≠tid->(∀g sz cs,x≠.row g sz cs)->S[j]? = some x
structure SeI (n m:Nat) (s:List (List UInt8) × List zI × List zr):Prop where
 tab:zmI s.1
 led:s.2.1.length<=n
 sz:∀x∈s.2.2,zmW x.op<=20971520
 len:s.2.2.length<=m
theorem sum_take {l:List (List UInt8)}{k:Nat}{x:List UInt8}(hn:l.Nodup)(hl0:l.length<=1048576)(hx:l[k]? = some x):zga (l.take k) x=l.take (k+1):=by
 have hk:=(List.getElem?_eq_some_iff.1 hx).1;have hnot:x∉l.take k:=fun hm=>by
  obtain⟨i,hi,he⟩:=List.mem_take_iff_getElem.1 hm;have:=(List.getElem_inj hn).1 (he.trans (List.getElem?_eq_some_iff.1 hx).2.symm);omega
 have hno:=zyz hnot;have h1:(l.take k).length=k:=by rw[List.length_take];omega
 rw[zga,hno];simp only[h1];rw[if_neg (by omega),List.take_add_one,hx];rfl
structure LedI (G:List zI):Prop where
 nd:G.Nodup
 ok:∀g∈G,zgX g.key g.dig=0
theorem LedI.sign {G:List zI}(h:LedI G)(k d:Int):LedI (zhs G k d):=by
 unfold zhs;split
 ·rename_i hs;unfold zzH;split
  ·exact h
  ·rename_i hn;refine⟨?_,fun g hg=>?_⟩
   ·rw[List.nodup_append];refine⟨h.nd,by simp,fun a ha b hb e=>?_⟩;simp only[List.mem_singleton]at hb;subst e hb;exact hn ha
   ·rcases List.mem_append.1 hg with hg|hg
    ·exact h.ok g hg
    ·simp only[List.mem_singleton]at hg;subst hg;exact hs
 ·exact h
structure zzh where
 L:List (List UInt8)
 G:List zI
 h:zsN
 T:ztM
 bs:List znJ
 cs:List zjy
def st0:zzh:=⟨(genF []).2.2,[],(genF []).1,ztX,[],[]⟩
structure StI (N m:Nat) (s:zzh):Prop where
 tab:zmI s.L
 led:s.G.length<=N
 ledI:LedI s.G
 tops:TopsI s.T
 last:LastI s.T.last
 last8:s.T.last.length=8
 bs:∀b∈s.bs,smallBk b
 bl:s.bs.length<=m
 cs:∀c∈s.cs,c.signs.length<=13
 cl:s.cs.length<=m
structure VoI (N m:Nat) (s:List (List UInt8) × List zI × List zI):Prop where
 tab:zmI s.1
 led:s.2.1.length<=N
 ledI:LedI s.2.1
 len:s.2.2.length<=m
theorem signG_len (G:List zI)(k d:Int):(zhs G k d).length<=G.length+1:=by
 unfold zhs zzH;repeat' split
 all_goals simp
theorem LastI.none:LastI ztX.last:=fun a ha=>by
 have:=List.eq_of_mem_replicate ha;subst this;simp
end Go.Proofs.YtdgcepphjnoalaaGreat
