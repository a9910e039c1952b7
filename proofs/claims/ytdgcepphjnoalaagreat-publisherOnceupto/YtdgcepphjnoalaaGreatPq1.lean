/- Contracts: publishers that no call made. -/
import Derived.Test.YtdgcepphjnoalaaGreatKr6
import Derived.Test.YtdgcepphjnoalaaGreatAwKeepX
import Derived.Test.YtdgcepphjnoalaaGreatOpC
import Derived.Test.YtdgcepphjnoalaaGreatId3
import Derived.Test.YtdgcepphjnoalaaGreatSh
import Derived.Test.YtdgcepphjnoalaaGreatSpTab
import Derived.Test.YtdgcepphjnoalaaGreatRc2
import Derived.Test.YtdgcepphjnoalaaGreatPp1
import Derived.Test.YtdgcepphjnoalaaGreatKr3
set_option linter.all false
set_option maxRecDepth 100000
namespace Go.Proofs.YtdgcepphjnoalaaGreat
open Go.AW
abbrev zsL:zp:=⟨0,0,⟨0,[],[],0,[]⟩,0,0⟩
section
variable {σ:List AObj} {x:AV} {K:KT}
end
abbrev zmX (f cl:Int) (t l:Nat) (time:Int) (w:List zp) (sy:AV) (ticks:Int) (la:List (List D)) (many:Int):List AV:=
 [.d (.bool true),.d (.int .i64 f),.d (.int .i64 cl),.box t 0,.box l 0,.d (.int .i64 time),.d (.slice (zbA w)),sy,.d (.int .i64 ticks),.d (.slice la),.d (.int .i64 many)]
theorem ztq {σ S:List AObj}{K:KT}{l:List AV}(h:S.take σ.length=σ)(h1:Low σ.length (dmT (zcm l)))(hl:zhl σ.length σ)(hK:K (dmT (zcm l)) σ):AW.Ends σ.length K (some l) S:=by
 unfold AW.Ends;rw[h];exact⟨h1,hl,hK⟩
section
variable {σ:List AObj} {K:KT}
theorem c_pNew {i:TGi}{f cl:Int}{L:List (List UInt8)}{G:List zI}(h:TG i σ L G)(hL:zmF L)(hg:G.length<=1073741824)(hf:zhg f=0)(h0:0<=cl)(h8:cl<8)
  (hK:∀S q,σ.length<=q->S[q]? = some (.box (zmX f cl i.id i.id2 0 [] (.d .nilmap) 0 [] 0))->(∀(j:Nat) (x:AObj),σ[j]? = some x->S[j]? = some x)->K (.tup [.box q 0,.d (.int .i64 0)]) S) :
  zP zfI [.d (.int .i64 f),.d (.int .i64 cl),.box i.id 0,.box i.id2 0] σ K:=by
 refine ACall.weaken ?_;refine zeP zkF.is rfl fun hl _=>zkF.goes ?_;simp only[zkO,iN,bT,bF,eN];have d1:decide (cl<0)=false:=by simp;omega
 have d2:decide (cl≥8)=false:=by simp;omega
 refine zG ?_;refine zvb h.tab hL.nd hL.len hL.each ?_;refine zG ?_;refine zAB (h.led.app _) hg fun g'=>?_;refine zG ?_;refine zwL ?_;rw[hf];refine zm (zd d1 (zd d2 (show((0:Int) != 0)=false from rfl))) ?_;obtain⟨R,hR⟩:∃R,σ++[AObj.map (tabM L),AObj.box [AV.own (σ.length+2) (zvp L),AV.map σ.length],AObj.tok 1 L.length,AObj.map (zxB g'),AObj.box [AV.own (σ.length+5) (ztW g'),AV.map (σ.length+3)],AObj.tok 2 g'.length]=R:=⟨_,rfl⟩;have hRl:R.length=σ.length+6:=by rw[← hR];simp
 have hRp:∀(j:Nat) (x:AObj),σ[j]? = some x->∀τ,(R++τ)[j]? = some x:=fun j x hx τ=>zi (by rw[← hR];exact zi hx);rw[show ∀X:AObj,σ++[AObj.map (tabM L),AObj.box [AV.own (σ.length+2) (zvp L),AV.map σ.length],AObj.tok 1 L.length,AObj.map (zxB g'),AObj.box [AV.own (σ.length+5) (ztW g'),AV.map (σ.length+3)],AObj.tok 2 g'.length,X]=R++[X]from fun X=>by rw[← hR];simp,← hRl];refine zld ⟨.tup [.box R.length 0,.d (.int .i64 0)],R++[.box (zmX f cl i.id i.id2 0 [] (.d .nilmap) 0 [] 0)],?_,hK _ R.length (by omega) (by rw[zC];rfl) fun j x hx=>hRp j x hx _⟩;refine .dataB R.length 6 _ (.exact []) [] (by rw[zC];rfl) rfl rfl ?_;rw[zad];refine .dataB R.length 9 _ (.exact []) [] (by rw[zC];rfl) rfl rfl ?_;rw[zad];exact .refl _ _
abbrev zdd (l:List (Int × Int × Int)):List (AV × AV):=l.map fun e=>(.d (.int .i64 e.1),.agg [.d (.int .i64 e.2.1),.d (.int .i64 e.2.2)])
theorem zfR {f cl:Int}{q t l:Nat}{time:Int}{w:List zp}{sy:AV}{ticks:Int}{la:List (List D)}{many:Int}(h:σ[q]? = some (.box (zmX f cl t l time w sy ticks la many)))(hK:K (.d (.bool false)) σ):zP zaa [.box q 0] σ K:=by
 refine zez zle fun hl=>?_;simp only[zgk,iN,bT,bF,eN];refine zm h ?_;refine zu hl ?_;exact hK
theorem says_get {l:List (Int × Int × Int)}{i:Nat}{e:AV × AV}(h:(zdd l)[i]? = some e):∃x,l[i]? = some x/\e=(.d (.int .i64 x.1),.agg [.d (.int .i64 x.2.1),.d (.int .i64 x.2.2)]):=by
 simp only[zdd,List.getElem?_map]at h;obtain⟨x,h1,h2⟩:=Option.map_eq_some_iff.1 h;exact⟨x,h1,h2.symm⟩
def zqf (l:List (Int × Int × Int)) (a b:Int):Nat:=l.countP fun e=>(a==e.2.1)&&(b==e.2.2)
theorem c_pVotes {f cl:Int}{q t l n:Nat}{time:Int}{w:List zp}{ticks:Int}{la:List (List D)}{many a b:Int}{sy:List (Int × Int × Int)}(h:σ[q]? = some (.box (zmX f cl t l time w (.map n) ticks la many)))(hn:σ[n]? = some (.map (zdd sy)))(hb:sy.length<=1000000)
  (hK:K (.d (.int .i64 (zqf sy a b))) σ):zP zdA [.box q 0,.agg [.d (.int .i64 a),.d (.int .i64 b)]] σ K:=by
 refine zec zkE fun hl=>?_;have hq:∀τ,(σ++τ)[q]? = some (.box (zmX f cl t l time w (.map n) ticks la many)):=fun τ=>zi h;have hn':∀τ,(σ++τ)[n]? = some (.map (zdd sy)):=fun τ=>zi hn;have hnl:=zY hn;have hlen:(zdd sy).length=sy.length:=List.length_map ..;simp only[zfV,iN,bT,bF,eN];refine zG ?_;refine zfR (hq _) ?_;refine zm hq ?_;simp only[zlI,hn'];intro c bs hbl hbn;rw[hlen]at hbl;obtain⟨X,hX⟩:∃X,AObj.box [.d (.int .i64 a),.d (.int .i64 b)]=X:=⟨_,rfl⟩;rw[hX];refine zn sy.length (fun k vs S=>∃seen ys T,vs=[.d (.int .i64 (zqf ys a b))]/\seen.length=k/\zls bs sy seen ys/\seen.Nodup/\S=(σ.set n (.mapr c bs (zdd sy))++X::.mit (some n) c seen::T)) ⟨[],[],[],rfl,rfl,.nil,.nil,by rw[List.set_append_left _ _ hnl];simp⟩ ?_;rintro k vs S hk ⟨seen,ys,T,rfl,rfl,hS,hsn,rfl⟩;obtain⟨ρ,hρ⟩:∃ρ,σ.set n (.mapr c bs (zdd sy))=ρ:=⟨_,rfl⟩;have hρl:ρ.length=σ.length:=by rw[← hρ];simp
 have r1:∀τ,(ρ++τ)[n]? = some (.mapr c bs (zdd sy)):=fun τ=>zi (by rw[← hρ];exact List.getElem?_set_self hnl);have r2:∀Y τ,(ρ++X::Y::τ)[σ.length+1]? = some Y:=fun Y τ=>by rw[← hρl,zA];rfl
 have r3:∀Y τ,(ρ++X::Y::τ)[σ.length]? = some X:=fun Y τ=>by rw[← hρl,zC];rfl
 have el:(σ++[X]).length=σ.length+1:=by simp
 rw[hρ];simp only[el,zqk,r1,r2,zL];refine⟨trivial,fun hall=>?_,fun j b1 e hb1 he hnb=>?_⟩
 ·have hp:=hS.perm hsn hbn hbl hall;have hc:zqf ys a b=zqf sy a b:=hp.countP_eq _;rw[hc];refine zG ?_;refine ztq ?_ (by simp[zha,dmT,dm,dm1,zcm]) hl hK;rw[List.set_append_left _ _ (by omega),List.take_append_of_le_length (by simp;omega),← hρ,List.set_set,zbS hn,List.take_length]
 ·obtain⟨⟨key,x1,x2⟩,hx,rfl⟩:=says_get he;have hlt:seen.length<sy.length:=by
   have:=hS.lt hsn hbl (List.mem_of_getElem? hb1) hnb;rw[hS.1];exact this
  have hs2:(ρ++X::AObj.mit (some n) c seen::T).set (σ.length+1) (AObj.mit (some n) c (seen++[b1]))=ρ++X::AObj.mit (some n) c (seen++[b1])::T:=by
   rw[← hρl,zZ];rfl
  have hS2:=hS.snoc hb1 hx;have hsn2:(seen++[b1]).Nodup:=by
   rw[List.nodup_append];exact⟨hsn,by simp,fun x hx y hy=>by simp at hy;subst hy;exact fun e=>hnb (e▸hx)⟩
  have hyl:ys.length<=1000000:=by have:=hS.1;omega
  have hcn:zqf ys a b<=ys.length:=List.countP_le_length;have hst:zqf (ys++[(key,x1,x2)]) a b=zqf ys a b+if ((a==x1)&&(b==x2))=true then 1 else 0:=by
   simp only[zqf,List.countP_append,List.countP_singleton]
  refine zG ?_;rw[hs2];simp only[znj,r1,r2];refine⟨trivial,j,b1,_,by simp,hb1,he,?_⟩;have r3':∀τ,(ρ++X::AObj.mit (some n) c (seen++[b1])::τ)[σ.length]? = some (.box [.d (.int .i64 a),.d (.int .i64 b)]):=fun τ=>by rw[hX];exact r3 _ _
  have hxy:zcl [AV.d (.int .i64 a),AV.d (.int .i64 b)] [AV.d (.int .i64 x1),AV.d (.int .i64 x2)]=some ((a==x1)&&(b==x2)):=by simp[zcl]
  cases hq2:((a==x1)&&(b==x2))
  ·rw[hq2]at hxy hst;refine zm (zd r3' hxy) ?_;refine zaK.next hlt ⟨seen++[b1],ys++[(key,x1,x2)],_,by rw[hst];simp,by simp,hS2,hsn2,rfl⟩
  ·rw[hq2]at hxy hst;refine zm (zd r3' (zd hxy (wk1 (zqf ys a b) (by omega)))) ?_;exact zaK.next hlt ⟨seen++[b1],ys++[(key,x1,x2)],_,by rw[hst];simp,by simp,hS2,hsn2,rfl⟩
end
def fsay (k:Int):List (Int × Int × Int)->Nat->Option (Nat × (Int × Int))
 | [],_=>none
 | e::r,i=>if k=e.1 then some (i,e.2)else fsay k r (i+1)
theorem ztd (s:Int):∀(l:List (Int × Int × Int)) (i:Nat),zoy .int (.d (.int .i64 s)) (zdd l) i=some ((fsay s l i).map fun q=>(q.1,.agg [.d (.int .i64 q.2.1),.d (.int .i64 q.2.2)]))
 | [],_=>rfl
 | e::r,i=>by
  simp only[zdd,List.map_cons,zoy,ziw,if_true,fsay];by_cases h:s=e.1
  ·simp[h]
  ·have:(s==e.1)=false:=by simpa using h
   simp only[this,if_neg h];exact ztd s r (i+1)
def zhp (l:List (Int × Int × Int)) (k a b:Int):List (Int × Int × Int):=match fsay k l 0 with
 | some q=>l.set q.1 (k,a,b)
 | none=>l++[(k,a,b)]
theorem says_set (l:List (Int × Int × Int))(i:Nat)(k a b:Int):(zdd l).set i (.d (.int .i64 k),.agg [.d (.int .i64 a),.d (.int .i64 b)])=zdd (l.set i (k,a,b)):=by
 simp only[zdd,List.map_set]
theorem zzF (l:List (Int × Int × Int))(k a b:Int):zdd l++[(.d (.int .i64 k),.agg [.d (.int .i64 a),.d (.int .i64 b)])]=zdd (l++[(k,a,b)]):=by simp
theorem lowSays (n:Nat)(l:List (Int × Int × Int)):ztL n (.map (zdd l)):=by
 intro e he;obtain⟨x,_,rfl⟩:=List.mem_map.1 he;refine⟨.d _,.agg _ fun c hc=>?_⟩;simp only[List.mem_cons,List.not_mem_nil,or_false]at hc;rcases hc with rfl|rfl<;>exact .d _
abbrev ansD (s:zp) (a b:Int):List D:=[.int .i64 s.client,.int .i64 s.time,.int .i64 s.op.kind,.str s.op.topic,.str s.op.group,.int .i64 s.op.offset,.slice (zdQ s.op.recs),.int .i64 a,.int .i64 b]
theorem ends_take2 {n:Nat}{σ' S:List AObj}{K:KT}{l:List AV}(h:S.take n=σ')(h1:Low n (dmT (zcm l)))(hl:zhl n σ')(hK:K (dmT (zcm l)) σ'):AW.Ends n K (some l) S:=by
 unfold AW.Ends;rw[h];exact⟨h1,hl,hK⟩
section
variable {σ:List AObj} {K:KT}
theorem c_quSmall {f:Int}(hK:K (.d (.int .i64 (zgu 1 f))) σ):zP zlN [.d (.int .i64 f)] σ K:=by
 refine zez zxS fun hl=>?_;simp only[zqD,iN,bT,bF,eN];refine zG ?_;refine c_times (by omega) ?_;refine zG ?_;refine zu hl ?_;exact hK
theorem c_pTake {f cl:Int}{q t l n:Nat}{time:Int}{s:zp}{ticks:Int}{la:List (List D)}{many:Int}{sy:List (Int × Int × Int)}{m:zbD}
  (h:σ[q]? = some (.box (zmX f cl t l time [s] (.map n) ticks la many))) (hn:σ[n]? = some (.map (zdd sy))) (hb:sy.length<=900000)
  (hv:∀τ (K:KT),K (.d (.bool true)) (σ++τ)->zP zhd [.box t 0,.box l 0,zge m] (σ++τ) K)
  (hk:m.kind=5) (hcl:m.client=cl) (htm:m.time=time) (hf:1<=f/\f<=4) (hsr:m.src<3*f+1) (hmn:0<=many/\many<=1000000)
  (hK0:(zqf (zhp sy m.src m.rerr m.roff) m.rerr m.roff:Int)<f+1->K (.d (.bool false)) (σ.set n (.map (zdd (zhp sy m.src m.rerr m.roff)))))
  (hK1:¬(zqf (zhp sy m.src m.rerr m.roff) m.rerr m.roff:Int)<f+1->K (.d (.bool true)) ((σ.set n (.map (zdd (zhp sy m.src m.rerr m.roff)))).set q (.box (zmX f cl t l time [] (.d .nilmap) ticks [ansD s m.rerr m.roff] (many+1))))) :
  zP zaG [.box q 0,zge m] σ K:=by
 refine zja zcI.is rfl fun hl _=>zcI.goes ?_;have hq:∀τ,(σ++τ)[q]? = some (.box (zmX f cl t l time [s] (.map n) ticks la many)):=fun τ=>zi h;have hn':∀τ,(σ++τ)[n]? = some (.map (zdd sy)):=fun τ=>zi hn;have hnl:=zY hn;have hql:=zY h;have hqn:q≠n:=fun e=>by rw[e,hn]at h;cases h
 have hmf:=ztd m.src sy 0;simp only[zcK,iN,bT,bF,eN,zl1];refine zG ?_;refine zfR (hq _) ?_;refine zkZ (zd hq (zd (show((1:Int)==0)=false from rfl) @List.length_cons.{0})) ?_;refine hv _ _ ?_;have e1:(m.kind != 5)=false:=by rw[hk];rfl
 have e2:(m.client != cl)=false:=by rw[hcl];simp
 have e3:(m.time != time)=false:=by rw[htm];simp
 have e4:zgu 3 f=3*f+1:=by rw[zgu,if_neg (by omega)]
 have e5:zgu 1 f=f+1:=by rw[zgu,if_neg (by omega),Int.one_mul]
 have e6:decide (m.src≥3*f+1)=false:=by simp;omega
 refine zm (zd hq (zd e1 (zd e2 (zd e3 (show(false==false)=true from rfl))))) ?_;refine zwM ?_;rw[e4];obtain⟨sy2,hsy2⟩:∃s,zhp sy m.src m.rerr m.roff=s:=⟨_,rfl⟩;rw[hsy2]at hK0 hK1;have hlen2:sy2.length<=1000000:=by
  rw[← hsy2];unfold zhp;split<;>simp<;>omega
 obtain⟨X,hX⟩:∃X,AObj.box (msgL m)=X:=⟨_,rfl⟩;obtain⟨S,hS⟩:∃S,(σ++[X]).set n (.map (zdd sy2))=S:=⟨_,rfl⟩;have hx0:∀τ,(σ++X::τ)[σ.length]? = some (.box (msgL m)):=fun τ=>by rw[hX,zC];rfl
 have s1:S[q]? = some (.box (zmX f cl t l time [s] (.map n) ticks la many)):=by rw[← hS,List.getElem?_set_ne (Ne.symm hqn)];exact hq _
 have s2:S[n]? = some (.map (zdd sy2)):=by rw[← hS];exact List.getElem?_set_self (by simp;omega)
 have s3:S[σ.length]? = some (.box (msgL m)):=by rw[← hS,List.getElem?_set_ne (by omega)];exact hx0 _
 rw[hX];have zs:∀Y,(S.set q Y)[q]? = some Y:=fun Y=>List.getElem?_set_self (zY s1);have hmw:IntKind.i64.wrap (many+1)=many+1:=zaQ (by omega) (by omega);have fin1:K (.d (.bool true)) ((σ.set n (.map (zdd sy2))).set q (.box (zmX f cl t l time [] (.d .nilmap) ticks [ansD s m.rerr m.roff] (many+1)))) →
   EndsW σ.length K (some [.d (.bool true)]) (S.set q (.box [.d (.bool true),.d (.int .i64 f),.d (.int .i64 cl),.box t 0,.box l 0,.d (.int .i64 time),.exact [],.d .nilmap,.d (.int .i64 ticks),.exact [ansD s m.rerr m.roff],.d (.int .i64 (many+1))])):=fun hK=>by
  refine⟨S.set q (.box (zmX f cl t l time [] (.d .nilmap) ticks [ansD s m.rerr m.roff] (many+1))),?_,?_⟩
  ·refine .dataB q 6 _ (.exact []) [] (zs _) rfl rfl ?_;rw[List.set_set];refine .dataB q 9 _ (.exact [ansD s m.rerr m.roff]) [ansD s m.rerr m.roff] (zs _) rfl rfl ?_;rw[List.set_set];exact .refl _ _
  ·have hS':S=σ.set n (.map (zdd sy2))++[X]:=by rw[← hS,List.set_append_left _ _ hnl]
   rw[hS',List.set_append_left _ _ (by simpa using hql)];refine ends_take2 (by rw[List.take_append_of_le_length (by simp),List.take_of_length_le (by simp)]) (by simp[zha,dmT,dm,dm1,zcm]) ((hl.setO (lowSays _ _)).setO ?_) hK;intro c hc;have hb:=hl q _ h c;simp only[List.mem_cons,List.not_mem_nil,or_false]at hc;rcases hc with rfl|rfl|rfl|rfl|rfl|rfl|rfl|rfl|rfl|rfl|rfl;all_goals first
    | exact .d _
    | exact hb (by simp)
 unfold zhp at hsy2;cases hfs:fsay m.src sy 0 with
 | none=>
  rw[hfs]at hmf hsy2
  simp only at hsy2
  refine gq26 (zd hq (zd e6 (zd hn' (zd hx0 (zd hmf (zd @zzF (zd hsy2 (zd hS (zd s1 (zd s2 s3)))))))))) ?_
  refine c_pVotes s1 s2 hlen2 ?_
  refine zm (zd hq (zd hx0 (zd @zzF (zd hsy2 (zd hS (zd s1 (zd s2 s3))))))) ?_
  refine c_quSmall ?_
  rw[e5]
  cases hlt:decide ((zqf sy2 m.rerr m.roff:Int)<f+1)
  ·refine zdy (zd hlt (zd s1 (zd s3 (zd zs (zd @List.set_set.{0} (zd @List.length_cons.{0} hmw)))))) ?_
   exact fin1 (hK1 (by simpa using hlt))
  ·refine zm hlt ?_
   refine ziL ?_
   rw[← hS,List.set_append_left _ _ hnl]
   exact zeL (by simp[zha,dmT,dm,dm1,zcm]) hl (lowSays _ _) (hK0 (by simpa using hlt))
 | some o=>
  rw[hfs]at hmf hsy2
  simp only at hsy2
  refine gq26 (zd hq (zd e6 (zd hn' (zd hx0 (zd hmf (zd @says_set (zd hsy2 (zd hS (zd s1 (zd s2 s3)))))))))) ?_
  refine c_pVotes s1 s2 hlen2 ?_
  refine zm (zd hq (zd hx0 (zd @says_set (zd hsy2 (zd hS (zd s1 (zd s2 s3))))))) ?_
  refine c_quSmall ?_
  rw[e5]
  cases hlt:decide ((zqf sy2 m.rerr m.roff:Int)<f+1)
  ·refine zdy (zd hlt (zd s1 (zd s3 (zd zs (zd @List.set_set.{0} (zd @List.length_cons.{0} hmw)))))) ?_
   exact fin1 (hK1 (by simpa using hlt))
  ·refine zm hlt ?_
   refine ziL ?_
   rw[← hS,List.set_append_left _ _ hnl]
   exact zeL (by simp[zha,dmT,dm,dm1,zcm]) hl (lowSays _ _) (hK0 (by simpa using hlt))
end
structure smallPl (p:znx):Prop where
 off:zqm p.offset
 topic:p.topic.length<=16777216
 rec_:p.rec_.length<=16777216
structure smallBk (b:znG):Prop where
 seq:zqm b.header.seq
 len:b.placed.length<=1048576
 each:∀p∈b.placed,smallPl p
variable {σ:List AObj}
def lastC:List (Int × Int × Int)->List AV
 | []=>[]
 | a::r=>.d (.int .i64 a.1)::.d (.int .i64 a.2.1)::.d (.int .i64 a.2.2)::lastC r
structure TopsAt (σ:List AObj) (id t g:Nat) (T:ztJ):Prop where
 box:σ[id]? = some (.box (.rsl t g 4 0 T.l.length::lastC T.last))
 row:σ[t]? = some (.row g 4 (zcG (topsE T.l)))
 last:T.last.length=8
structure Stays (σ S:List AObj) (id:Nat):Prop where
 len:σ.length<=S.length
 get:∀(j:Nat) (x:AObj),σ[j]? = some x->j≠id->(∀g sz cs,x≠.row g sz cs)->S[j]? = some x
theorem Stays.app (σ τ:List AObj)(id:Nat):Stays σ (σ++τ) id:=⟨by simp,fun _ _ h _ _=>zi h⟩
theorem Stays.trans {σ S R:List AObj}{id:Nat}(h:Stays σ S id)(h':Stays S R id):Stays σ R id:=⟨Nat.le_trans h.len h'.len,fun j x hx hj hr=>h'.get j x (h.get j x hx hj hr) hj hr⟩
theorem TopsAt.app {id t g:Nat}{T:ztJ}(h:TopsAt σ id t g T)(τ:List AObj):TopsAt (σ++τ) id t g T:=⟨zi h.box,zi h.row,h.last⟩
abbrev zeroH:zsJ:=⟨0,0,0,0,0⟩
def genF (L:List (List UInt8)):zsJ × Int × List (List UInt8):=
 let r:=rootF L []
 let L2:=zfX r.2 (topsB ztU)
 if r.1=0∨zhT r.2 (topsB ztU)=0 then(zeroH,6,L2)else(⟨0,0,0,r.1,zhT r.2 (topsB ztU)⟩,0,L2)
variable {σ:List AObj}
structure ExecR where
 e:Int
 h:zsJ
 p:List znx
 L:List (List UInt8)
 T:ztJ
structure Stays2 (σ S:List AObj) (id tid:Nat):Prop where
 len:σ.length<=S.length
 get:∀(j:Nat) (x:AObj),σ[j]? = some x->j≠id->j≠tid->(∀g sz cs,x≠.row g sz cs)->S[j]? = some x
theorem Stays2.app {id tid:Nat}(X:AObj)(τ:List AObj):Stays2 σ (σ.set id X++τ) id tid:=
 ⟨by simp,fun j x hx h1 h2 h3=>zi ((List.getElem?_set_ne (Ne.symm h1)).trans hx)⟩
structure ExJ (σ:List AObj) (n tid:Nat) (H P:AObj) (A:List znx × ztJ) (N:List (List D)) (S:List AObj) (t g:Nat):Prop where
 top:TopsAt S tid t g A.2
 hb:S[n]? = some H
 zb:S[n+1]? = some (.box [.d (.int .i64 0),.d (.int .i64 0),.d (.int .i64 0),.d (.int .i64 0),.d (.int .i64 0)])
 pb:S[n+2]? = some P
 m:S[n+3]? = some (.tok 3 A.1.length)
 k:S[n+4]? = some (.tok 5 N.length)
 rest:∀(j:Nat) (x:AObj),σ[j]? = some x->j≠tid->(∀g sz cs,x≠.row g sz cs)->S[j]? = some x
structure SeI (n m:Nat) (s:List (List UInt8) × List zI × List zp):Prop where
 tab:zmF s.1
 led:s.2.1.length<=n
 sz:∀x∈s.2.2,zmT x.op<=20971520
 len:s.2.2.length<=m
theorem sum_take {l:List (List UInt8)}{k:Nat}{x:List UInt8}(hn:l.Nodup)(hl0:l.length<=1048576)(hx:l[k]? = some x):zfX (l.take k) x=l.take (k+1):=by
 have hk:=(List.getElem?_eq_some_iff.1 hx).1;have hnot:x∉l.take k:=fun hm=>by
  obtain⟨i,hi,he⟩:=List.mem_take_iff_getElem.1 hm;have:=(List.getElem_inj hn).1 (he.trans (List.getElem?_eq_some_iff.1 hx).2.symm);omega
 have hno:=zyx hnot;have h1:(l.take k).length=k:=by rw[List.length_take];omega
 rw[zfX,hno];simp only[h1];rw[if_neg (by omega),List.take_add_one,hx];rfl
structure LedI (G:List zI):Prop where
 nd:G.Nodup
 ok:∀g∈G,zgS g.key g.dig=0
theorem LedI.sign {G:List zI}(h:LedI G)(k d:Int):LedI (zhn G k d):=by
 unfold zhn;split
 ·rename_i hs;unfold zzE;split
  ·exact h
  ·rename_i hn;refine⟨?_,fun g hg=>?_⟩
   ·rw[List.nodup_append];refine⟨h.nd,by simp,fun a ha b hb e=>?_⟩;simp only[List.mem_singleton]at hb;subst e hb;exact hn ha
   ·rcases List.mem_append.1 hg with hg|hg
    ·exact h.ok g hg
    ·simp only[List.mem_singleton]at hg;subst hg;exact hs
 ·exact h
structure zze where
 L:List (List UInt8)
 G:List zI
 h:zsJ
 T:ztJ
 bs:List znG
 cs:List zjs
def st0:zze:=⟨(genF []).2.2,[],(genF []).1,ztU,[],[]⟩
structure StI (N m:Nat) (s:zze):Prop where
 tab:zmF s.L
 led:s.G.length<=N
 ledI:LedI s.G
 tops:TopsI s.T
 last:LastI s.T.last
 last8:s.T.last.length=8
 bs:∀b∈s.bs,smallBk b
 bl:s.bs.length<=m
 cs:∀c∈s.cs,c.signs.length<=13
 cl:s.cs.length<=m
structure VoI (N m:Nat) (s:List (List UInt8) × List zI × List zI):Prop where
 tab:zmF s.1
 led:s.2.1.length<=N
 ledI:LedI s.2.1
 len:s.2.2.length<=m
theorem signG_len (G:List zI)(k d:Int):(zhn G k d).length<=G.length+1:=by
 unfold zhn zzE;repeat' split
 all_goals simp
theorem LastI.none:LastI ztU.last:=fun a ha=>by
 have:=List.eq_of_mem_replicate ha;subst this;simp
end Go.Proofs.YtdgcepphjnoalaaGreat
