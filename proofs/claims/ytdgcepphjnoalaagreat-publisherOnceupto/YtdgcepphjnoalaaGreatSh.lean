/- All conditions. -/
import Derived.Test.YtdgcepphjnoalaaGreatSh1
import Derived.Test.YtdgcepphjnoalaaGreatSh2
import Derived.Test.YtdgcepphjnoalaaGreatSh3
import Derived.Test.YtdgcepphjnoalaaGreatSh4
import Derived.Test.YtdgcepphjnoalaaGreatSh5
import Derived.Test.YtdgcepphjnoalaaGreatAwLoop
import Derived.Test.YtdgcepphjnoalaaGreatSpNum
set_option linter.all false

/- Contracts: bytes.Clone. -/
set_option maxRecDepth 100000
namespace Go.Proofs.YtdgcepphjnoalaaGreat
open Go.AW
variable {σ:List AObj}
theorem zjS {es:List (List D)}{K:KT}(he:∀e∈es,e.length=1)(hn:es.length<=1073741824)(hK:K (.own σ.length es) (σ++[.tok 1 es.length])):zP zcV [.d (.slice es)] σ K:=by
 refine ACall.tok he ?_ hK;refine zbO zno.is rfl (fun s=>if s.length=σ.length then []else [σ.length]) fun hl _=>zno.goes ?_;simp only[zny,iN,bT,bF,eN,zaC,zgE];cases es with
 | nil=>
  refine⟨?_,?_⟩
  ·simp only[zaE,zap,zH]
   exact znk (by simp) hl rfl (by simp)
  ·simp only[zaE,zR,zH,zK,rep,zr,zil,zaD,zN,ziD]
   refine⟨by simp,by simp,by simp,?_⟩
   exact zmx hl (by simp) (by simp)
 | cons e es=>
  simp only[zaE,zR,zH,zK,rep,zr,zil,zaD,zN,ziD]
  refine⟨he,by simp,by simp at hn ⊢;omega,?_⟩
  exact zmx hl (by simp) (by simp)
variable {σ:List AObj}
theorem zAt {es:List (List D)}{K:KT}(he:∀e∈es,e.length=1)(hK:K (.exact es) σ):zP zeU [.d (.slice es)] σ K:=by
 refine zbO zhH.is rfl (fun _=>[]) fun hl _=>zhH.goes ?_;simp only[zhP,iN,bT,bF,eN,gF,gT,gFm,gTm,fl,nfl,gFl,gTl,il,cp,orC,anC,cA,bP,z1,z2,m1,List.map_cons,List.map_nil,zah,zgE,zgR,bnd,zjr,zH];refine⟨rfl,trivial,by omega,by omega,by omega,he,?_⟩;simp only[zsH,zAK,getL,zvA,zcm,zeH];simpa using ⟨hl,hK⟩
theorem znu {a b:List UInt8}{K:KT}(hK:K (.d (.bool (a==b))) σ):zP zhD [.d (.slice (bcs a)),.d (.slice (bcs b))] σ K:=by
 refine zec zAm fun hl=>?_;simp only[zsE,iN,bT,bF,eN,gF,gT,gFm,gTm,fl,nfl,gFl,gTl,il,cp,orC,anC,cA,bP,z1,z2,m1,List.map_cons,List.map_nil,zaz,zgE,ziz,zeO,zhS,zdS,zH];exact zwi (by simp[zha,dmT,dm,dm1,zcm]) hl hK
variable {σ:List AObj}
def bva (bs:List UInt8):List AV:=bs.map fun b=>.d (.int .u8 (b.toNat:Int))
def zio (bs:List UInt8):List AV:=bva bs++List.replicate (10-bs.length) (.d (.int .u8 0))
theorem zyd {pre:List UInt8}{b:UInt8}(h:pre.length<10):zaq (zio pre) pre.length [.d (.int .u8 (b.toNat:Int))]=zio (pre++[b]):=by
 simp only[zaq,zio,bva,List.length_singleton];obtain⟨m,hm⟩:∃m,10-pre.length=m+1:=⟨9-pre.length,by omega⟩;rw[hm,List.take_left' (by simp),List.drop_append];simp only[List.length_map];rw[List.drop_eq_nil_of_le (by simp),show pre.length+1-pre.length=1 by omega,List.replicate_succ];simp[List.length_append,show 10-(pre.length+1)=m by omega]
theorem byte_or (m:Nat):IntKind.u8.wrap ↑(BitVec.ofInt IntKind.u8.bits (IntKind.u8.wrap (m:Int)) ||| BitVec.ofInt IntKind.u8.bits 128).toNat=((UInt8.ofNat (m % 128+128)).toNat:Int):=by
 rw[wrap8 m,show IntKind.u8.bits=8 from rfl,or128 ⟨m % 256,by omega⟩,zuP (by simp;omega),zpK (by omega)];simp
theorem byte_wrap {m:Nat}(h:m<128):IntKind.u8.wrap (m:Int)=((UInt8.ofNat m).toNat:Int):=by
 rw[zuP (by omega),zpK (by omega)]
theorem shr7 (m:Nat):((m:Int)).fdiv (2 ^ min 7 IntKind.u64.bits)=((m / 128:Nat):Int):=by
 rw[show min 7 IntKind.u64.bits=7 from rfl,Int.fdiv_eq_ediv_of_nonneg _ (by decide)];rfl
theorem zrO {pre:List UInt8}(h:pre.length<=10):(zio pre).length=10:=by simp[zio,bva];omega
theorem pad10_sc (pre:List UInt8):(zio pre).all sc=true:=by
 simp only[zio,bva,List.all_append,List.all_map,List.all_replicate,Bool.and_eq_true];refine⟨by simp[sc],?_⟩;cases 10-pre.length<;>simp[sc]
theorem pad10_d (pre:List UInt8):zio pre=((pre.map fun b=>D.int .u8 (b.toNat:Int))++List.replicate (10-pre.length) (D.int .u8 0)).map AV.d:=by
 simp[zio,bva,Function.comp_def]
theorem gq1 {P Q:Prop}(h:Q)(e:P=Q:=by simp -dsimp only[↓zmg,↓zcf,↓zep,↓zmh,↓zmb,↓zlZ,↓zmc,↓zma,↓zeu,↓zeq,↓zev,↓zer,↓zmd,↓zeo,↓zew,↓zes,↓zex,↓zet,↓zlY,↓zmf,↓zen,↓zey,↓zlW,↓zlV,↓zlX,iN,bT,bF,eN,↓zeO,↓unC,↓zaE,↓zan,↓zao,↓zaA,↓zbf,↓zah,↓zgR,↓zaz,↓zbe,↓zae,↓ze,↓zl,↓zbc,↓zc,↓zaY,↓zM,↓zce,↓zcB,↓zf,↓zF,↓zr,↓zN,↓zaC,↓zgY,↓zhU,↓zbi,↓zbJ,↓zcj,↓zcM,↓zdG,↓zL,↓zbh,↓zap,↓zR,↓zbb,zhS,zdY,zdS,unA,zgE,bnd,zjr,zaP,zK,ziD,dm,dm1,zH,zaI,zkw,zkv,keepO,Q0,Q1,Q2,Q3,Q4,Q5,zbg,zA,zC,zZ,zad,Q6,Q7,Q8,Q9,Q10,Q11,Q12,Q13,Q14,Nat.reduceAdd,Q15,Int.reduceToNat,Q16,Q17,Q18,Q19,Q20,reduceIte,Q21,Q22];rfl):P:=e.mpr h
theorem gq2 {A P Q:Prop}(a:A)(h:Q)(e:A->P=Q:=by intro a;simp -dsimp only[↓zmg,↓zcf,↓zep,↓zmh,↓zmb,↓zlZ,↓zmc,↓zma,↓zeu,↓zeq,↓zev,↓zer,↓zmd,↓zeo,↓zew,↓zes,↓zex,↓zet,↓zlY,↓zmf,↓zen,↓zey,↓zlW,↓zlV,↓zlX,iN,bT,bF,eN,↓zeO,↓unC,↓zaE,↓zan,↓zao,↓zaA,↓zbf,↓zah,↓zgR,↓zaz,↓zbe,↓zae,↓ze,↓zl,↓zbc,↓zc,↓zaY,↓zM,↓zce,↓zcB,↓zf,↓zF,↓zr,↓zN,↓zaC,↓zgY,↓zhU,↓zbi,↓zbJ,↓zcj,↓zcM,↓zdG,↓zL,↓zbh,↓zap,↓zR,↓zbb,zhS,zdY,zdS,unA,zgE,bnd,zjr,zaP,zK,ziD,dm,dm1,zH,zaI,zkw,zkv,keepO,Q0,Q1,Q2,Q3,Q4,Q5,zbg,zA,zC,zZ,zad,Q6,Q7,Q8,Q9,Q10,Q11,Q12,Q13,Q14,Nat.reduceAdd,Q15,Int.reduceToNat,Q16,Q17,Q18,Q19,Q20,reduceIte,Q21,Q22,a];rfl):P:=(e a).mpr h
theorem c_form {n:Nat}(hn:n<18446744073709551616){K:KT}(hK:K (.tup [.agg (zio (zbx n)),.d (.int .i64 (zbx n).length)]) σ):zP zox [.d (.int .u64 n)] σ K:=by
 refine zez e_codec_form fun hl=>?_;simp only[zus,iN,bT,bF,eN,zae];have hlen:=zj hn;refine zn 10 (fun k vs s=>∃(m:Nat) (pre:List UInt8),k=pre.length/\vs=[.d (.int .u64 m),.d (.int .i64 k)]/\zbx n=pre++zbx m/\m<18446744073709551616 ∧
   s=σ++[.box (zio []),.box (zio pre)]) ⟨n,[],rfl,rfl,rfl,hn,by simp[zio,bva]⟩ ?_
 rintro k vs s hk ⟨m,pre,rfl,rfl,hpre,hm,rfl⟩;have hm10:=zj hm;have hpl:pre.length+(zbx m).length<=10:=by rw[hpre]at hlen;simpa using hlen.2
 have hp:pre.length<10:=by omega
 (refine gq1 ?_;try with_reducible exact True.intro);refine zV (fun h=>?_) (fun h=>?_);all_goals(try(refine gq2 h ?_;try with_reducible exact True.intro))
 ·have h1:¬m<128:=by simp at h;omega
  have h2:=zzP h1;rw[h2]at hpl;simp at hpl;rw[byte_or,shr7,zyd hp];refine⟨by omega,by omega,by have:=zrO (pre:=pre) (by omega);omega,by simp[sc],by omega,?_⟩;refine zaK.next (by omega) ⟨m / 128,pre++[UInt8.ofNat (m % 128+128)],by simp,?_,by rw[hpre,h2];simp,by omega,rfl⟩;rw[zaQ (by omega) (by omega)];rfl
 ·have h1:m<128:=by simp at h;omega
  have h2:=zpv h1;rw[byte_wrap h1,zyd hp];have hp1:(zio (pre++[UInt8.ofNat m])).length=10:=zrO (by simp;omega);have hsp:zaq (zio []) 0 (zio (pre++[UInt8.ofNat m]))=zio (pre++[UInt8.ofNat m]):=by
   simp only[zaq,Nat.zero_add,List.take_zero,List.nil_append];rw[hp1,List.drop_eq_nil_of_le (by simp[zio,bva]),List.append_nil]
  have htk:List.take 10 (List.drop 0 (zio (pre++[UInt8.ofNat m])))=zio (pre++[UInt8.ofNat m]):=by
   rw[List.drop_zero,List.take_of_length_le (by omega)]
  rw[htk,hsp,htk,if_pos (by omega)];refine⟨by omega,by omega,by have:=zrO (pre:=pre) (by omega);omega,by simp[sc],by omega,by omega,by simp[zio,bva],pad10_sc _,?_⟩;have hd:dmT (zcm [.agg (zio (pre++[UInt8.ofNat m])),.d (.int .i64 (IntKind.i64.wrap (↑pre.length+1)))])=.tup [.agg (zio (pre++[UInt8.ofNat m])),.d (.int .i64 (zbx n).length)]:=by
   rw[zaQ (by omega) (by omega),hpre,h2];simp only[zcm,dmT,List.map_cons,List.map_nil,dm,pad10_d,map_dm1_d,dm1];rw[List.length_append];rfl
  refine ztr ?_ hl ?_
  ·rw[hd,pad10_d,zbw];intro c hc;rcases List.mem_cons.1 hc with rfl|hc
   ·exact .agg _ (zms _ _)
   ·have hc:=List.mem_singleton.1 hc;subst hc;exact .d _
  ·rw[hd];rw[hpre,h2]at hK ⊢;exact hK
theorem toDs_bva (bs:List UInt8)(r:List AV)(ds:List D)(h:zil r=some ds):zil (bva bs++r)=some ((bs.map fun b=>D.int .u8 (b.toNat:Int))++ds):=by
 induction bs with
 | nil=>simpa [bva] using h
 | cons b bs ih=>simp only[bva,List.map_cons,List.cons_append,zil,toD]at ih ⊢;rw[ih]
theorem chunks1 (bs:List UInt8):zaD 1 bs.length (bs.map fun b=>D.int .u8 (b.toNat:Int))=bcs bs:=by
 induction bs with
 | nil=>rfl
 | cons b bs ih=>simp only[List.length_cons,List.map_cons,zaD,bcs,List.take_succ_cons,List.take_zero,List.drop_succ_cons,List.drop_zero]at ih ⊢;rw[ih];rfl
theorem zfv {b:List UInt8}{n:Nat}(hn:n<18446744073709551616)(hb:b.length<=1073741824){K:KT}(hK:K (.own σ.length (bcs (b++zbx n))) (σ++[.tok 1 (b++zbx n).length])) :
  zP zaS [.d (.slice (bcs b)),.d (.int .u64 n)] σ K:=by
 refine zbO zqp.is rfl (fun s=>[σ.length+1]) fun hl _=>zqp.goes ?_;have hlen:=zj hn;simp only[zqJ,iN,bT,bF,eN,gF,gT,gFm,gTm,fl,nfl,gFl,gTl,il,cp,orC,anC,cA,bP,z1,z2,m1,List.map_cons,List.map_nil];simp only[dm,dm1];refine c_form hn ?_;have hp:=zrO hlen.2;have hsp:zaq (List.replicate 10 (AV.d (D.int .u8 0))) 0 (zio (zbx n))=zio (zbx n):=by
  simp only[zaq,Nat.zero_add,List.take_zero,List.nil_append];rw[hp,List.drop_eq_nil_of_le (by simp),List.append_nil]
 have hrep:[AV.d (D.int .u8 0),.d (.int .u8 0),.d (.int .u8 0),.d (.int .u8 0),.d (.int .u8 0),.d (.int .u8 0),.d (.int .u8 0),.d (.int .u8 0),.d (.int .u8 0),.d (.int .u8 0)]=List.replicate 10 (AV.d (D.int .u8 0)):=rfl;(refine gq1 ?_;try with_reducible exact True.intro);refine⟨hp,by omega,pad10_sc _,by omega,by omega,by omega,by omega,?_⟩;refine zAt ziA ?_;rw[hrep,hsp];(refine gq1 ?_;try with_reducible exact True.intro);have htk:zil (List.take ((zbx n).length-Int.toNat 0) (List.drop (Int.toNat 0) (zio (zbx n))))=some ((zbx n).map fun b=>D.int .u8 (b.toNat:Int)):=by
  simp only[Int.toNat_zero,Nat.sub_zero,List.drop_zero];rw[zio,List.take_left' (by simp[bva])];have:=toDs_bva (zbx n) [] [] rfl;simpa using this
 simp only[Int.toNat_zero]at htk;rw[htk,if_pos (by omega),Nat.sub_zero];simp only[Option.map_some,chunks1];refine⟨ziA,ziA,by simp[bcs];omega,?_⟩;rw[ztI];refine zoE rfl hl (by omega) (by rw[zA];rfl) ?_;simpa [bcs] using hK
theorem zpJ {b x:List UInt8}(hx:x.length<=1073741824)(hb:b.length<=1073741800){K:KT}(hK:K (.own σ.length (bcs (b++(zbx x.length++x)))) (σ++[.tok 1 (b++(zbx x.length++x)).length])) :
  zP zdf [.d (.slice (bcs b)),.d (.slice (bcs x))] σ K:=by
 refine zbO znE.is rfl (fun s=>[σ.length]) fun hl _=>znE.goes ?_;have hlen:=zj (n:=x.length) (by omega);(simp only[znR];refine gq1 ?_;try with_reducible exact True.intro);have hw:IntKind.u64.wrap ((bcs x).length:Int)=(x.length:Int):=by rw[zdR (by simp[bcs];omega)];simp[bcs]
 rw[hw];refine zfv (by omega) (by omega) ?_;(refine gq1 ?_;try with_reducible exact True.intro);refine⟨ziA,by simp[bcs];omega,by simp[bcs],?_⟩;rw[ztI];simp only[List.append_assoc];refine zmx hl rfl ?_;simpa [bcs,Nat.add_assoc] using hK
theorem div128 {m:Nat}(h:m<18446744073709551616):IntKind.u64.wrap ((m:Int).tdiv 128)=((m / 128:Nat):Int):=by
 rw[show((m:Int).tdiv 128)=((m / 128:Nat):Int)from by rw[Int.tdiv_eq_ediv_of_nonneg (by omega)];rfl,zdR (by omega)]
theorem rem128 (m:Nat):(m:Int).tmod 128=((m % 128:Nat):Int):=by
 rw[Int.tmod_eq_emod_of_nonneg (by omega)];rfl
theorem gq3 {P Q:Prop}(h:Q)(e:P=Q:=by simp -dsimp only[↓zmg,↓zcf,↓zep,↓zmh,↓zmb,↓zlZ,↓zmc,↓zma,↓zeu,↓zeq,↓zev,↓zer,↓zmd,↓zeo,↓zew,↓zes,↓zex,↓zet,↓zlY,↓zmf,↓zen,↓zey,↓zlW,↓zlV,↓zlX,iN,bT,bF,eN,↓zeO,↓unC,↓zaE,↓zan,↓zao,↓zaA,↓zbf,↓zah,↓zgR,↓zaz,↓zbe,↓zae,↓ze,↓zl,↓zbc,↓zc,↓zaY,↓zM,↓zce,↓zcB,↓zf,↓zF,↓zr,↓zN,↓zaC,↓zgY,↓zhU,↓zbi,↓zbJ,↓zcj,↓zcM,↓zdG,↓zL,↓zbh,↓zap,↓zR,↓zbb,zhS,zdY,zdS,unA,zgE,bnd,zjr,zaP,zK,ziD,dm,dm1,zH,zaI,zkw,zkv,keepO,Q0,Q1,Q2,Q3,Q4,Q5,zbg,zA,zC,zZ,zad,Q6,Q7,Q8,Q9,Q10,Q11,Q12,Q13,Q14,Nat.reduceAdd,Q15,Int.reduceToNat,Q16,Q17,Q18,Q19,Q20,reduceIte,Q21,Q22,rep,zaq,zil,toD,zaD,Q23,Q24,Q25,Q26,Q27,Q28,Nat.reduceLeDiff,Q29,Nat.reduceSub,Q30,Q31,Q32,sc,Q33,Q34,Q35];rfl):P:=e.mpr h
theorem zeM {b:List UInt8}{n:Nat}(hn:n<18446744073709551616)(hb:b.length<=1073741824){K:KT}(hK:K (.own σ.length (bcs (b++zbx n))) (σ++[.tok 1 (b++zbx n).length])) :
  zP zbF [.d (.slice (bcs b)),.d (.int .u64 n)] σ K:=by
 refine zbO zuf.is rfl (fun s=>[σ.length]) fun hl _=>zuf.goes ?_;have hlen:=zj hn;(simp only[zup];refine gq1 ?_;try with_reducible exact True.intro);refine⟨ziA,by simp,by simp[bcs];omega,?_⟩;refine zn 10 (fun k vs s=>∃(m:Nat) (pre:List UInt8),k=pre.length/\vs=[.d (.int .u64 m),.own σ.length (bcs (b++pre))]/\zbx n=pre++zbx m/\m<18446744073709551616 ∧
   s=σ++[.tok 1 (b++pre).length]) ⟨n,[],rfl,by simp,rfl,hn,by simp[bcs]⟩ ?_
 rintro k vs s hk ⟨m,pre,rfl,rfl,hpre,hm,rfl⟩;have hm10:=zj hm;have hpl:pre.length+(zbx m).length<=10:=by rw[hpre]at hlen;simpa using hlen.2
 (refine gq1 ?_;try with_reducible exact True.intro);refine zV (fun h=>?_) (fun h=>?_);all_goals(try(refine gq2 h ?_;try with_reducible exact True.intro))
 ·have h1:¬m<128:=by simp at h;omega
  have h2:=zzP h1;rw[h2]at hpl;simp at hpl;have hc:IntKind.u8.wrap (IntKind.u8.wrap ((m:Int).tmod 128)+128)=((UInt8.ofNat (m % 128+128)).toNat:Int):=by
   rw[rem128,zuP (by omega),zpK (by omega),show((m % 128:Nat):Int)+128=((m % 128+128:Nat):Int)from rfl];exact zuP (by omega)
  (refine gq3 ?_;try with_reducible exact True.intro);rw[hc,div128 hm];refine⟨by decide,by simp,by simp[bcs];omega,by simp[bcs],by decide,?_⟩;refine zaK.next (by omega) ⟨m / 128,pre++[UInt8.ofNat (m % 128+128)],by simp,?_,by rw[hpre,h2];simp,by omega,?_⟩
  ·simp[bcs,zch]
  ·simp[bcs,Nat.add_assoc]
 ·have h1:m<128:=by simp at h;omega
  have h2:=zpv h1;(refine gq3 ?_;try with_reducible exact True.intro);rw[byte_wrap h1];refine⟨by simp,by simp[bcs];omega,by simp[bcs],?_⟩;rw[hpre,h2]at hK;have e:bcs (b++pre)++[[D.int .u8 ((UInt8.ofNat m).toNat:Int)]]=bcs (b++(pre++[UInt8.ofNat m])):=by simp[bcs,zch]
  rw[e];refine zmx hl rfl ?_;simpa [bcs,Nat.add_assoc] using hK
theorem zgZ {b x:List UInt8}(hx:x.length<=1073741824)(hb:b.length<=1073741800){K:KT}(hK:K (.own σ.length (bcs (b++(zbx x.length++x)))) (σ++[.tok 1 (b++(zbx x.length++x)).length])) :
  zP zcn [.d (.slice (bcs b)),.d (.slice (bcs x))] σ K:=by
 refine zbO zqo.is rfl (fun s=>[σ.length]) fun hl _=>zqo.goes ?_;have hlen:=zj (n:=x.length) (by omega);(simp only[zqB];refine gq1 ?_;try with_reducible exact True.intro);have hw:IntKind.u64.wrap ((bcs x).length:Int)=(x.length:Int):=by rw[zdR (by simp[bcs];omega)];simp[bcs]
 rw[hw];refine zeM (by omega) (by omega) ?_;(refine gq1 ?_;try with_reducible exact True.intro);refine⟨ziA,by simp[bcs];omega,by simp[bcs],?_⟩;rw[ztI];simp only[List.append_assoc];refine zmx hl rfl ?_;simpa [bcs,Nat.add_assoc] using hK
variable {σ:List AObj}
theorem gq4 {P Q:Prop}(h:Q)(e:P=Q:=by simp -dsimp only[↓zmg,↓zcf,↓zep,↓zmh,↓zmb,↓zlZ,↓zmc,↓zma,↓zeu,↓zeq,↓zev,↓zer,↓zmd,↓zeo,↓zew,↓zes,↓zex,↓zet,↓zlY,↓zmf,↓zen,↓zey,↓zlW,↓zlV,↓zlX,iN,bT,bF,eN,↓zeO,↓unC,↓zaE,↓zan,↓zao,↓zaA,↓zbf,↓zah,↓zgR,↓zaz,↓zbe,↓zae,↓ze,↓zl,↓zbc,↓zc,↓zaY,↓zM,↓zce,↓zcB,↓zf,↓zF,↓zr,↓zN,↓zaC,↓zgY,↓zhU,↓zbi,↓zbJ,↓zcj,↓zcM,↓zdG,↓zL,↓zbh,↓zap,↓zR,↓zbb,zhS,zdY,zdS,unA,zgE,bnd,zjr,zaP,zK,ziD,dm,dm1,zH,zaI,zkw,zkv,keepO,Q0,Q1,Q2,Q3,Q4,Q5,zbg,zA,zC,zZ,zad,Q6,Q7,Q8,Q9,Q10,Q11,Q12,Q13,Q14,Nat.reduceAdd,Q15,Int.reduceToNat,Q16,Q17,Q18,Q19,Q20,reduceIte,Q21,Q22,zy,rep,zaq,zil,toD,zaD,Q23,Q24,Q25,Q26,Q27,Q28,Nat.reduceLeDiff,Q29,Nat.reduceSub,Q30,Q31,Q32,sc,Q33,Q34,Q35];rfl):P:=e.mpr h
theorem c_only {o:TOp}{K:KT}(hK:K (.tup [opA (zoo o),.d (.bool (ziF o))]) σ):zP zvI [opA o] σ K:=by
 refine zez e_op_only fun hl=>?_;simp only[S_op_only,iN,bT,bF,eN,zl2,opA];(repeat'(first|(refine gq4 ?_;try with_reducible exact True.intro)|(refine zV (fun h=>?_) (fun h=>?_)<;>(try rw[h]))|((with_reducible refine And.intro ?_ ?_);focus(first|omega|rfl|decide))));all_goals refine zu hl ?_
 all_goals simp only[beq_iff_eq,beq_eq_false_iff_ne,ne_eq]at *
 all_goals simp_all[zcm,dmT,dm,dm1,zoo,noOp,opA,ziF,zdQ]
 have e:(decide (0<=o.kind)&&decide (o.kind<=4))=false:=by simp;omega
 rw[e]at hK;exact hK
theorem c_Same_1 {a b:List UInt8}{K:KT}(hK:K (.d (.bool (a==b))) σ):zP zne [.d (.slice (bcs a)),.d (.slice (bcs b))] σ K:=by
 refine zec e_op_Same_1 fun hl=>?_;(simp only[zxr];refine gq2 @zy ?_;try with_reducible exact True.intro);refine znu ?_;refine zu hl ?_;exact hK
theorem zd {A B:Prop}(a:A)(b:B):A/\B:=⟨a,b⟩
theorem gq5 {A P Q:Prop}(a:A)(h:Q)(e:A->P=Q:=by intro a;simp -dsimp only[↓zmg,↓zcf,↓zep,↓zmh,↓zmb,↓zlZ,↓zmc,↓zma,↓zeu,↓zeq,↓zev,↓zer,↓zmd,↓zeo,↓zew,↓zes,↓zex,↓zet,↓zlY,↓zmf,↓zen,↓zey,↓zlW,↓zlV,↓zlX,iN,bT,bF,eN,↓zeO,↓unC,↓zaE,↓zan,↓zao,↓zaA,↓zbf,↓zah,↓zgR,↓zaz,↓zbe,↓zae,↓ze,↓zl,↓zbc,↓zc,↓zaY,↓zM,↓zce,↓zcB,↓zf,↓zF,↓zr,↓zN,↓zaC,↓zgY,↓zhU,↓zbi,↓zbJ,↓zcj,↓zcM,↓zdG,↓zL,↓zbh,↓zap,↓zR,↓zbb,zhS,zdY,zdS,unA,zgE,bnd,zjr,zaP,zK,ziD,dm,dm1,zH,zaI,zkw,zkv,keepO,Q0,Q1,Q2,Q3,Q4,Q5,zbg,zA,zC,zZ,zad,Q6,Q7,Q8,Q9,Q10,Q11,Q12,Q13,Q14,Nat.reduceAdd,Q15,Int.reduceToNat,Q16,Q17,Q18,Q19,Q20,reduceIte,Q21,Q22,Bool.and_false,Bool.and_self,Bool.false_and,Bool.not_false,Bool.not_true,Bool.true_and,Int.toNat_natCast,Int.toNat_zero,List.drop_zero,List.length_map,List.length_nil,List.nil_append,List.take_length,Nat.sub_zero,Nat.zero_add,Option.isSome_none,Option.isSome_some,Option.map_none,Option.map_some,zaj,beq_self_eq_true,bne_self_eq_false,a];rfl):P:=(e a).mpr h
theorem zst {a b:List (List UInt8)}(ha:a.length<=1073741824)(hb:b.length<=1073741824){K:KT}(hK:K (.d (.bool (a==b))) σ) :
  zP zak [.d (.slice (zdQ a)),.d (.slice (zdQ b)),.fn (.func zne) [] []] σ K:=by
 refine acE3 zcC fun hl=>?_;(simp only[zaZ];refine gq2 @zy ?_;try with_reducible exact True.intro);refine zV (fun h=>?_) (fun h=>?_);all_goals(try(refine gq2 (zd h @zy) ?_;try with_reducible exact True.intro))
 ·refine zu hl ?_;have:(a==b)=false:=by
   rw[beq_eq_false_iff_ne];rintro rfl;simp at h
  rw[this]at hK;exact hK
 have hl2:a.length=b.length:=by simp at h;omega
 refine zn a.length (fun k vs s=>vs=[.d (.int .i64 k)]/\s=σ/\a.take k=b.take k) ⟨rfl,rfl,by simp⟩ ?_;rintro k vs s hk ⟨rfl,rfl,htk⟩;(refine gq2 @zy ?_;try with_reducible exact True.intro);refine zV (fun h=>?_) (fun h=>?_);all_goals(try(refine gq2 (zd h @zy) ?_;try with_reducible exact True.intro))
 ·have hka:k<a.length:=by simp at h;omega
  have hx:a[k]? = some a[k]:=by simp[hka]
  have hy:b[k]? = some (b[k]'(by omega)):=List.getElem?_eq_getElem _;(refine gq5 (zd (zgx hx) (zd (zgx hy) @zy)) ?_;try with_reducible exact True.intro);refine⟨by omega,by omega,c_Same_1 ?_⟩;(refine gq2 (zd @zy @zbb) ?_;try with_reducible exact True.intro);refine zV (fun h=>?_) (fun h=>?_);all_goals(try(refine gq2 (zd h @zy) ?_;try with_reducible exact True.intro))
  ·refine zaK.next hka ⟨?_,rfl,zbs hx hy htk (by simpa using h)⟩;rw[zaQ (by omega) (by omega)];rfl
  ·refine zu hl ?_;have:(a==b)=false:=by
    rw[beq_eq_false_iff_ne];rintro rfl;simp at h
   rw[this]at hK;exact hK
 ·refine zu hl ?_;have:(a==b)=true:=by
   rw[beq_iff_eq];exact zcv hl2 (k:=k) (by simp at h;omega) htk
  rw[this]at hK;exact hK
theorem c_Same {a b:TOp}(ha:a.recs.length<=1073741824)(hb:b.recs.length<=1073741824){K:KT}(hK:K (.d (.bool (decide (a=b)))) σ):zP zrU [opA a,opA b] σ K:=by
 refine zec e_op_Same fun hl=>?_;simp only[S_op_Same,iN,bT,bF,eN,opA];repeat' first
  | (refine gq4 ?_;try with_reducible exact True.intro)
  | (refine zV (fun h=>?_) (fun h=>?_)<;>(try rw[h]))
  | refine zst ha hb ?_
 all_goals refine zu hl ?_
 all_goals simp only[beq_iff_eq,beq_eq_false_iff_ne,ne_eq]at *
 ·have e:decide (a=b)=(a.recs==b.recs):=by
   rw[Bool.eq_iff_iff];cases a;cases b;simp_all
  rw[e]at hK;exact hK
 all_goals
  have e:decide (a=b)=false:=by
   cases a;cases b;simp_all
  rw[e]at hK;exact hK
variable {σ:List AObj}
theorem c_Runes {s:List UInt8}(hs:s.length<=1073741824){K:KT}(hK:K (.d (.int .i64 (ziN s))) σ):zP zta [.d (.str s)] σ K:=by
 refine zez e_op_Runes fun hl=>?_;simp only[zzq,iN,bT,bF,eN,zbh];refine zn s.length (fun pos vs s'=>∃cnt:Nat,vs=[.d (.int .i64 cnt)]/\s'=σ++[.iter s pos]/\pos<=s.length/\cnt<=pos/\zfh (s.length+1) s=(zfh (s.length+1) (s.drop pos)).map (· + cnt)) ⟨0,rfl,rfl,by omega,by omega,by simp⟩ ?_;rintro pos vs s' hp ⟨cnt,rfl,rfl,hps,hc,hr⟩;simp only[zL,zrS,zC,List.getElem?_cons_zero];split
 ·rename_i hlt;have hd:s.drop pos≠[]:=by intro e;have:=congrArg List.length e;simp at this;omega
  have hw:=goDec_width _ hd;have hw2:=zmD (s.drop pos);simp only[decode_eq s pos hlt];have hcount:zfh (s.length+1) (s.drop pos)=if (zme (s.drop pos)).2=0∨badF (zme (s.drop pos)).1=true then none else(zfh s.length ((s.drop pos).drop (zme (s.drop pos)).2)).map (· + 1):=by
   rw[zfh,if_neg hd]
  (repeat'(first|(refine gq4 ?_;try with_reducible exact True.intro)|(refine zV (fun h=>?_) (fun h=>?_)<;>(try rw[h]))|((with_reducible refine And.intro ?_ ?_);focus(first|omega|rfl|decide))));all_goals first
   | (
    refine zu hl ?_
    have hb:badF (zrZ (s.drop pos)).1=true:=by
     simp only[badF];exact zop
    rw[goDec_bad]at hb
    have:zfh (s.length+1) (s.drop pos)=none:=by rw[hcount,if_pos (by simpa using hb)]
    have h0:ziN s=0:=by simp[ziN,hr,this]
    rw[h0]at hK;exact hK)
   | skip
  all_goals
   have hb:badF (zrZ (s.drop pos)).1=false:=by
    simp only[badF];exact zop
   obtain⟨g1,g2,g3⟩:=goDec_good hb
   rw[zaQ (by omega) (by omega)]
   refine zaK.to (pos+(zrZ (s.drop pos)).2) (by omega) (by simp at hw;omega) ⟨cnt+1,rfl,rfl,by simp at hw;omega,by omega,?_⟩
   rw[hr,hcount,if_neg (by simp[g2,g3]),g1,List.drop_drop,zrq s.length (s.length+1) _ (by simp at *;omega) (by simp;omega)]
   cases zfh (s.length+1) (List.drop (pos+(zme (s.drop pos)).2) s)<;>simp
   omega
 ·rename_i hlt;have e:s.drop pos=[]:=List.drop_eq_nil_of_le (by omega);have hcnt:zfh (s.length+1) s=some cnt:=by rw[hr,e];simp[zfh]
  (refine gq2 @zy ?_;try with_reducible exact True.intro);refine zV (fun h=>?_) (fun h=>?_);all_goals(try(refine gq2 (zd h @zy) ?_;try with_reducible exact True.intro))
  ·refine zu hl ?_;have h0:ziN s=0:=by simp[ziN,hcnt];simp at h;omega
   rw[h0]at hK;exact hK
  ·refine zu hl ?_;have h0:ziN s=cnt:=by simp[ziN,hcnt];simp at h;omega
   rw[h0]at hK;exact hK
theorem c_Name {s:List UInt8}(hs:s.length<=1073741824){K:KT}(hK:K (.d (.bool (zef s))) σ):zP zov [.d (.str s)] σ K:=by
 refine zez e_op_Name fun hl=>?_;(simp only[S_op_Name];refine gq2 @zy ?_;try with_reducible exact True.intro);refine c_Runes hs ?_;(refine gq2 @zy ?_;try with_reducible exact True.intro);refine zu hl ?_;have:decide ((ziN s:Int)>0)=zef s:=by simp[zef]
 rw[this];exact hK
variable {σ:List AObj}
theorem c_rsize {c:Nat}{K:KT}(hK:K (.d (.int .i64 (znV c))) σ):zP zsX [.d (.int .u8 c)] σ K:=by
 refine zez e_r06_size fun hl=>?_;simp only[zzm,iN,bT,bF,eN];(repeat'(first|(refine gq4 ?_;try with_reducible exact True.intro)|(refine zV (fun h=>?_) (fun h=>?_)<;>(try rw[h]))|((with_reducible refine And.intro ?_ ?_);focus(first|omega|rfl|decide))));all_goals refine zu hl ?_
 all_goals(try simp only[decide_eq_true_eq,decide_eq_false_iff_not,beq_iff_eq,beq_eq_false_iff_ne,bne_iff_ne,ne_eq,Bool.not_eq_true',Bool.not_eq_false',bne_eq_false_iff_eq]at *)
 all_goals
  simp only[zcm,dmT,dm,dm1]
  have e:∀z:Nat,znV c=z->K (.d (.int .i64 z)) σ:=fun z hz=>by rw[← hz];exact hK
  first
  | exact e 0 (by unfold znV;rw[if_neg (by omega),if_neg (by omega),if_neg (by omega),if_neg (by omega)])
  | exact e 1 (by unfold znV;rw[if_pos (by omega)])
  | exact e 2 (by unfold znV;rw[if_neg (by omega),if_pos (by omega)])
  | exact e 3 (by unfold znV;rw[if_neg (by omega),if_neg (by omega),if_pos (by omega)])
  | exact e 4 (by unfold znV;rw[if_neg (by omega),if_neg (by omega),if_neg (by omega),if_pos (by omega)])
theorem mask_eq (z:Nat)(hz:z=2∨z=3∨z=4)(b:Nat)(hb:b<256) :
  IntKind.i64.wrap ↑(BitVec.ofInt IntKind.i64.bits (b:Int) &&& BitVec.ofInt IntKind.i64.bits (IntKind.i64.wrap (IntKind.i64.wrap (1*2 ^ (min (IntKind.i64.wrap (7-(z:Int))).toNat IntKind.i64.bits))-1))).toNat=((b % 2 ^ (7-z):Nat):Int):=by
 have h0:(BitVec.ofInt 64 (b:Int)).toNat=b:=by simp;omega
 have key:∀m:Nat,(m=3∨m=4∨m=5)->IntKind.i64.wrap ↑(BitVec.ofInt 64 (b:Int) &&& BitVec.ofInt 64 ((2:Int) ^ m-1)).toNat=((b % 2 ^ m:Nat):Int):=fun m hm=>by
  have:(BitVec.ofInt 64 (b:Int) &&& BitVec.ofInt 64 ((2:Int) ^ m-1)).toNat=b % 2 ^ m:=by
   rw[BitVec.toNat_and,h0];rcases hm with rfl|rfl|rfl
   ·exact Nat.and_two_pow_sub_one_eq_mod b 3
   ·exact Nat.and_two_pow_sub_one_eq_mod b 4
   ·exact Nat.and_two_pow_sub_one_eq_mod b 5
  rw[this];have:b % 2 ^ m<256:=Nat.lt_of_le_of_lt (Nat.mod_le _ _) hb;exact zaQ (by omega) (by omega)
 rcases hz with rfl|rfl|rfl
 ·exact key 5 (by omega)
 ·exact key 4 (by omega)
 ·exact key 3 (by omega)
theorem partF_lt (s:List UInt8)(z:Nat)(hz:2<=z):∀i,zin s z i<32*64 ^ i
 | 0=>by
  simp only[zin];have:2 ^ (7-z)<=2 ^ 5:=Nat.pow_le_pow_right (by omega) (by omega);have:=Nat.mod_lt (at8 s 0) (y:=2 ^ (7-z)) (Nat.pos_of_ne_zero (by simp));omega
 | i+1=>by
  simp only[zin,Nat.pow_succ];have:=partF_lt s z hz i;omega
theorem at8_some {s:List UInt8}{i:Nat}(h:i<s.length):s[i]? = some s[i]/\(s[i].toNat:Int)=(at8 s i:Int):=by
 have:s[i]? = some s[i]:=List.getElem?_eq_getElem h;exact⟨this,by simp[at8,this]⟩
theorem gq6 {A P Q:Prop}(a:A)(h:Q)(e:A->P=Q:=by intro a;simp -dsimp only[↓zmg,↓zcf,↓zep,↓zmh,↓zmb,↓zlZ,↓zmc,↓zma,↓zeu,↓zeq,↓zev,↓zer,↓zmd,↓zeo,↓zew,↓zes,↓zex,↓zet,↓zlY,↓zmf,↓zen,↓zey,↓zlW,↓zlV,↓zlX,iN,bT,bF,eN,↓zeO,↓unC,↓zaE,↓zan,↓zao,↓zaA,↓zbf,↓zah,↓zgR,↓zaz,↓zbe,↓zae,↓ze,↓zl,↓zbc,↓zc,↓zaY,↓zM,↓zce,↓zcB,↓zf,↓zF,↓zr,↓zN,↓zaC,↓zgY,↓zhU,↓zbi,↓zbJ,↓zcj,↓zcM,↓zdG,↓zL,↓zbh,↓zap,↓zR,↓zbb,zhS,zdY,zdS,unA,zgE,bnd,zjr,zaP,zK,ziD,dm,dm1,zH,zaI,zkw,zkv,keepO,Q0,Q1,Q2,Q3,Q4,Q5,zbg,zA,zC,zZ,zad,Q6,Q7,Q8,Q9,Q10,Q11,Q12,Q13,Q14,Nat.reduceAdd,Q15,Int.reduceToNat,Q16,Q17,Q18,Q19,Q20,reduceIte,Q21,Q22,zy,rep,zaq,zil,toD,zaD,Q23,Q24,Q25,Q26,Q27,Q28,Nat.reduceLeDiff,Q29,Nat.reduceSub,Q30,Q31,Q32,sc,Q33,Q34,Q35,a];rfl):P:=(e a).mpr h
theorem c_rune1 {s:List UInt8}(hs:s.length<=1073741824)(hne:s≠[]){K:KT}(hK:K (.tup [.d (.int .i64 (zme s).1),.d (.int .i64 (zme s).2)]) σ):zP zqU [.d (.str s)] σ K:=by
 refine zez e_r06_rune1 fun hl=>?_;have hpos:0<s.length:=List.length_pos_iff.2 hne;obtain⟨g1,g2⟩:=at8_some hpos;have hb0:=zwW s 0;(simp only[zxo];refine gq2 (zd @zy (zd g1 g2)) ?_;try with_reducible exact True.intro);refine⟨by omega,c_rsize ?_⟩;have hz4:znV (at8 s 0)=0∨znV (at8 s 0)=1∨znV (at8 s 0)=2∨znV (at8 s 0)=3∨znV (at8 s 0)=4:=by
  unfold znV;split<;>(try split)<;>(try split)<;>(try split)<;>omega
 obtain⟨z,hz⟩:∃z,z=znV (at8 s 0):=⟨_,rfl⟩;rw[← hz]at hz4 ⊢;have bad:z=0∨z>s.length->K (.tup [.d (.int .i64 0),.d (.int .i64 0)]) σ:=fun h=>by
  have:zme s=(0,0):=by simp only[zme,← hz];rw[if_pos h]
  rw[this]at hK;exact hK
 (refine gq2 @zy ?_;try with_reducible exact True.intro);refine zV (fun h=>?_) (fun h=>?_);all_goals(try(refine gq2 (zd h (zd @zy (zd g1 g2))) ?_;try with_reducible exact True.intro))
 ·refine zu hl ?_;exact bad (.inl (by exact zop))
 have hz0:z≠0:=by exact zop
 refine zV (fun h=>?_) (fun h=>?_);all_goals(try(refine gq2 (zd h (zd @zy (zd g1 g2))) ?_;try with_reducible exact True.intro))
 ·refine zu hl ?_;exact bad (.inr (by exact zop))
 have hzl:z<=s.length:=by exact zop
 have hnb:¬(z=0∨z>s.length):=by omega
 refine zV (fun h=>?_) (fun h=>?_);all_goals(try(refine gq2 (zd h (zd @zy (zd g1 g2))) ?_;try with_reducible exact True.intro))
 ·have h1:z=1:=by exact zop
  refine⟨by omega,?_⟩;refine zu hl ?_;have:zme s=(at8 s 0,1):=by simp only[zme,← hz];rw[if_neg hnb,if_pos h1]
  rw[this]at hK;simp only[zcm,dmT,dm,dm1,List.map_cons,List.map_nil];rw[zaQ (by omega) (by omega)];exact hK
 have hz2:z=2∨z=3∨z=4:=by exact zop
 have h1:¬z=1:=by omega
 refine⟨by omega,?_⟩;have hw:IntKind.i64.wrap (at8 s 0:Int)=(at8 s 0:Int):=zaQ (by omega) (by omega);have hsh:(0:Int)<=IntKind.i64.wrap (7-(z:Int)):=by rw[zaQ (by omega) (by omega)];omega
 refine⟨hsh,?_⟩;rw[hw,mask_eq z hz2 _ hb0];refine zn z (fun k vs s'=>s'=σ/\k+1<=z/\vs=[.d (.int .i64 (zin s z k)),.d (.int .i64 (k+1:Nat))]/\∀i,i<k+1→1<=i->ztC s i=true) ⟨rfl,by omega,rfl,fun i h1 h2=>by omega⟩ ?_;rintro k vs s' hk ⟨rfl,hk1,rfl,hcont⟩;have hpl:=partF_lt s z (by omega) k;have hpow:64 ^ k<=64 ^ 3:=Nat.pow_le_pow_right (by omega) (by omega);(refine gq2 @zy ?_;try with_reducible exact True.intro);have fail:(¬ ∀i,i<z→1<=i->ztC s i=true)->K (.tup [.d (.int .i64 0),.d (.int .i64 0)]) s':=fun h=>by
  have:zme s=(0,0):=by simp only[zme,← hz];rw[if_neg hnb,if_neg h1,if_neg h]
  rw[this]at hK;exact hK
 refine zV (fun h=>?_) (fun h=>?_)
 ·have hkz:k+1<z:=by exact zop
  obtain⟨f1,f2⟩:=at8_some (s:=s) (i:=k+1) (by omega);have hb:=zwW s (k+1);repeat' first
   | (refine gq6 (zd f1 f2) ?_;try with_reducible exact True.intro)
   | (refine zV (fun h=>?_) (fun h=>?_)<;>(try rw[h]))
   | ((with_reducible refine And.intro ?_ ?_);focus(first|omega|rfl|decide))
  ·refine zu hl ?_;exact fail fun h'=>by
    have:=h' (k+1) hkz (by omega);simp only[ztC]at this;exact zop
  ·refine zu hl ?_;exact fail fun h'=>by
    have:=h' (k+1) hkz (by omega);simp only[ztC]at this;exact zop
  have hv:IntKind.i64.wrap (IntKind.i64.wrap (↑(zin s z k)*64)+(IntKind.i64.wrap ↑(at8 s (k+1))).tmod 64)=((zin s z (k+1):Nat):Int):=by
   have hp2:zin s z k<32*64 ^ 3:=by omega
   have e1:IntKind.i64.wrap ((zin s z k:Int)*64)=(zin s z k:Int)*64:=zaQ (by omega) (by omega);have e2:IntKind.i64.wrap (at8 s (k+1):Int)=(at8 s (k+1):Int):=zaQ (by omega) (by omega);have e3:((at8 s (k+1):Int)).tmod 64=((at8 s (k+1) % 64:Nat):Int):=by rw[Int.tmod_eq_emod_of_nonneg (by omega)];rfl
   rw[e1,e2,e3,zaQ (by omega) (by omega)];simp only[zin];omega
  have hw2:IntKind.i64.wrap (((k+1:Nat):Int)+1)=((k+1+1:Nat):Int):=by rw[zaQ (by omega) (by omega)];rfl
  rw[hv,hw2];refine zaK.next (by omega) ⟨rfl,by omega,rfl,fun i hi1 hi2=>?_⟩;by_cases hi:i<k+1
  ·exact hcont i hi hi2
  ·obtain rfl:i=k+1:=by omega
   simp only[ztC];exact zop
 ·have hkz:k+1=z:=by exact zop
  have hall:∀i,i<z→1<=i->ztC s i=true:=by rw[← hkz];exact hcont
  have hdec:zme s=if zin s z k<zhe z∨zin s z k>1114111∨(55296<=zin s z k/\zin s z k<57344)then(0,0)else(zin s z k,z):=by
   have e:z-1=k:=by omega
   simp only[zme,← hz];rw[if_neg hnb,if_neg h1,if_pos hall,e]
  have hget:∃l:Nat,l=zhe z/\([[D.int .i64 0],[D.int .i64 0],[D.int .i64 128],[D.int .i64 2048],[D.int .i64 65536]]:List (List D))[z]? = some [D.int .i64 l]:=by
   rcases hz2 with rfl|rfl|rfl<;>exact⟨_,rfl,rfl⟩
  obtain⟨l,hl1,hl2⟩:=hget;rw[← hl1]at hdec;repeat' first
   | (refine gq6 hl2 ?_;try with_reducible exact True.intro)
   | (refine zV (fun h=>?_) (fun h=>?_)<;>(try rw[h]))
   | ((with_reducible refine And.intro ?_ ?_);focus(first|omega|rfl|decide))
  all_goals refine zu hl ?_
  all_goals(try simp only[decide_eq_true_eq,decide_eq_false_iff_not,beq_iff_eq,beq_eq_false_iff_ne,bne_iff_ne,ne_eq,Bool.not_eq_true',Bool.not_eq_false',bne_eq_false_iff_eq]at *)
  all_goals simp only[zcm,dmT,dm,dm1,List.map_cons,List.map_nil]
  all_goals first
   | (rw[if_pos (by omega)]at hdec;rw[hdec]at hK;exact hK)
   | (rw[if_neg (by omega)]at hdec;rw[hdec]at hK;exact hK)
theorem badF_ref (v:Nat):badF v=decide (v<33∨127<=v/\v<160∨v=47∨v=65533):=by
 simp only[badF];congr 1;apply propext;omega
theorem c_rRunes {s:List UInt8}(hs:s.length<=1073741824){K:KT}(hK:K (.d (.int .i64 (ziN s))) σ):zP zqV [.d (.str s)] σ K:=by
 refine zez e_r06_Runes fun hl=>?_;simp only[zxp,iN,bT,bF,eN];refine zn s.length (fun pos vs s'=>∃(cnt:Nat) (t:List UInt8),t.length+pos=s.length/\vs=[.d (.str t),.d (.int .i64 cnt)]/\s'=σ/\cnt<=pos/\cnt<=16/\zfh (s.length+1) s=(zfh (s.length+1) t).map (· + cnt)) ⟨0,s,rfl,rfl,rfl,by omega,by omega,by simp⟩ ?_;rintro pos vs s' hp ⟨cnt,t,hlen,rfl,rfl,hc,hc16,hr⟩;(refine gq2 @zy ?_;try with_reducible exact True.intro);refine zV (fun h=>?_) (fun h=>?_)
 ·have ht:t≠[]:=by rintro rfl;simp at h
  have htl:0<t.length:=List.length_pos_iff.2 ht;have hw2:=zmD t;have hcount:zfh (s.length+1) t=if (zme t).2=0∨badF (zme t).1=true then none else(zfh s.length (t.drop (zme t).2)).map (· + 1):=by
   rw[zfh,if_neg ht]
  refine c_rune1 (by omega) ht ?_;have stop:(zme t).2=0∨badF (zme t).1=true∨cnt=16->K (.d (.int .i64 0)) s':=fun hb=>by
   have h0:ziN s=0:=by
    by_cases hq:(zme t).2=0∨badF (zme t).1=true
    ·simp[ziN,hr,hcount,if_pos hq]
    ·have hcn:cnt=16:=by
      rcases hb with hb|hb|hb
      ·exact absurd (.inl hb) hq
      ·exact absurd (.inr hb) hq
      ·exact hb
     simp only[ziN,hr,hcount,if_neg hq];cases zfh s.length (t.drop (zme t).2)with
     | none=>simp
     | some m=>simp;omega
   rw[h0]at hK;exact hK
  (repeat'(first|(refine gq4 ?_;try with_reducible exact True.intro)|(refine zV (fun h=>?_) (fun h=>?_)<;>(try rw[h]))|((with_reducible refine And.intro ?_ ?_);focus(first|omega|rfl|decide))));all_goals first
   | (
    refine zu hl ?_
    refine stop ?_
    rw[badF_ref,decide_eq_true_eq]
    exact zop)
   | skip
  all_goals
   have hb:badF (zme t).1=false:=by
    rw[badF_ref,decide_eq_false_iff_not];exact zop
   have h2:(zme t).2≠0:=by exact zop
   have hcl:cnt<16:=by exact zop
   rw[zaQ (by omega) (by omega)]
   refine zaK.to (pos+(zme t).2) (by omega) (by omega) ⟨cnt+1,t.drop (zme t).2,by simp;omega,?_,rfl,by omega,by omega,?_⟩
   ·simp
   ·rw[hr,hcount,if_neg (by simp[h2,hb]),zrq s.length (s.length+1) _ (by simp;omega) (by simp;omega)]
    cases zfh (s.length+1) (t.drop (zme t).2)<;>simp
    omega
 ·refine zu hl ?_;have ht:t=[]:=by
   have:¬0<t.length:=by exact zop
   exact List.length_eq_zero_iff.1 (by omega)
  have h0:ziN s=cnt:=by
   simp only[ziN,hr,ht];simp[zfh];omega
  rw[h0]at hK;exact hK
theorem c_rName {s:List UInt8}(hs:s.length<=1073741824){K:KT}(hK:K (.d (.bool (zef s))) σ):zP zmq [.d (.str s)] σ K:=by
 refine zez e_r06_Name fun hl=>?_;simp only[zzo,iN,bT,bF,eN];(refine gq2 @zy ?_;try with_reducible exact True.intro);refine c_rRunes hs ?_;(refine gq2 @zy ?_;try with_reducible exact True.intro);refine zu hl ?_;have:decide ((ziN s:Int)>0)=zef s:=by simp[zef]
 rw[this];exact hK
variable {σ:List AObj}
theorem c_Check_1 {r:List UInt8}{K:KT}(hK:K (.d (.bool (decide (r.length>64)))) σ):zP zll [.d (.slice (bcs r))] σ K:=by
 refine zez e_op_Check_1 fun hl=>?_;simp only[zuq,iN,bT,bF,eN];(refine gq2 @zy ?_;try with_reducible exact True.intro);refine zu hl ?_;have:decide (((bcs r).length:Int)>64)=decide (r.length>64):=by simp[bcs];omega
 rw[this];exact hK
theorem gq7 {A P Q:Prop}(a:A)(h:Q)(e:A->P=Q:=by intro a;simp -dsimp only[↓zmg,↓zcf,↓zep,↓zmh,↓zmb,↓zlZ,↓zmc,↓zma,↓zeu,↓zeq,↓zev,↓zer,↓zmd,↓zeo,↓zew,↓zes,↓zex,↓zet,↓zlY,↓zmf,↓zen,↓zey,↓zlW,↓zlV,↓zlX,iN,bT,bF,eN,↓zeO,↓unC,↓zaE,↓zan,↓zao,↓zaA,↓zbf,↓zah,↓zgR,↓zaz,↓zbe,↓zae,↓ze,↓zl,↓zbc,↓zc,↓zaY,↓zM,↓zce,↓zcB,↓zf,↓zF,↓zr,↓zN,↓zaC,↓zgY,↓zhU,↓zbi,↓zbJ,↓zcj,↓zcM,↓zdG,↓zL,↓zbh,↓zap,↓zR,↓zbb,zhS,zdY,zdS,unA,zgE,bnd,zjr,zaP,zK,ziD,dm,dm1,zH,zaI,zkw,zkv,keepO,Q0,Q1,Q2,Q3,Q4,Q5,zbg,zA,zC,zZ,zad,Q6,Q7,Q8,Q9,Q10,Q11,Q12,Q13,Q14,Nat.reduceAdd,Q15,Int.reduceToNat,Q16,Q17,Q18,Q19,Q20,reduceIte,Q21,Q22,dmT,zcm,a];rfl):P:=(e a).mpr h
theorem zoM {a:List (List UInt8)}(ha:a.length<=1073741824){K:KT}(hK:K (.d (.bool (a.any fun r=>decide (r.length>64)))) σ) :
  zP zbm [.d (.slice (zdQ a)),.fn (.func zll) [] []] σ K:=by
 refine zec zfb fun hl=>?_;simp only[zct,iN,bT,bF,eN];(refine gq2 @zy ?_;try with_reducible exact True.intro);refine zec zfy fun hl=>?_;simp only[zcT,iN,bT,bF,eN];(refine gq2 @zy ?_;try with_reducible exact True.intro);refine zn a.length (fun k vs s=>vs=[.d (.int .i64 k)]/\s=σ/\∀r∈a.take k,¬r.length>64) ⟨rfl,rfl,by simp⟩ ?_;rintro k vs s hk ⟨rfl,rfl,htk⟩;(refine gq2 @zy ?_;try with_reducible exact True.intro);refine zV (fun h=>?_) (fun h=>?_)
 ·have hka:k<a.length:=by exact zop
  have hx:a[k]? = some a[k]:=by simp[hka]
  (refine gq2 (zd (zgx hx) @zy) ?_;try with_reducible exact True.intro);refine And.intro (by omega) (c_Check_1 ?_);(refine gq2 @zy ?_;try with_reducible exact True.intro);refine zV (fun h=>?_) (fun h=>?_)
  ·refine zu hl ?_;(refine gq7 @zy ?_;try with_reducible exact True.intro);refine zu hl ?_;have e1:decide ((k:Int)≥0)=true:=by simp
   have e2:(a.any fun r=>decide (r.length>64))=true:=by
    rw[List.any_eq_true];exact⟨a[k],List.getElem_mem _,h⟩
   rw[e2]at hK;simp only[zcm,dmT,dm,dm1];rw[e1];exact hK
  ·(refine gq2 @zy ?_;try with_reducible exact True.intro);refine zaK.next hka ⟨?_,rfl,fun r hr=>?_⟩
   ·rw[zaQ (by omega) (by omega)];rfl
   ·rw[List.take_add_one,hx]at hr;rcases List.mem_append.1 hr with hr|hr
    ·exact htk r hr
    ·have:r=a[k]:=by simpa using hr
     subst this;simpa using h
 ·refine zu hl ?_;(refine gq7 @zy ?_;try with_reducible exact True.intro);refine zu hl ?_;have e2:(a.any fun r=>decide (r.length>64))=false:=by
   rw[List.any_eq_false];intro r hr;have hk':k=a.length:=by exact zop
   rw[hk',List.take_length]at htk;simpa using htk r hr
  rw[e2]at hK;exact hK
theorem gq8 {P Q:Prop}(h:Q)(e:P=Q:=by simp -dsimp only[↓zmg,↓zcf,↓zep,↓zmh,↓zmb,↓zlZ,↓zmc,↓zma,↓zeu,↓zeq,↓zev,↓zer,↓zmd,↓zeo,↓zew,↓zes,↓zex,↓zet,↓zlY,↓zmf,↓zen,↓zey,↓zlW,↓zlV,↓zlX,iN,bT,bF,eN,↓zeO,↓unC,↓zaE,↓zan,↓zao,↓zaA,↓zbf,↓zah,↓zgR,↓zaz,↓zbe,↓zae,↓ze,↓zl,↓zbc,↓zc,↓zaY,↓zM,↓zce,↓zcB,↓zf,↓zF,↓zr,↓zN,↓zaC,↓zgY,↓zhU,↓zbi,↓zbJ,↓zcj,↓zcM,↓zdG,↓zL,↓zbh,↓zap,↓zR,↓zbb,zhS,zdY,zdS,unA,zgE,bnd,zjr,zaP,zK,ziD,dm,dm1,zH,zaI,zkw,zkv,keepO,Q0,Q1,Q2,Q3,Q4,Q5,zbg,zA,zC,zZ,zad,Q6,Q7,Q8,Q9,Q10,Q11,Q12,Q13,Q14,Nat.reduceAdd,Q15,Int.reduceToNat,Q16,Q17,Q18,Q19,Q20,reduceIte,Q21,Q22,zy,rep,zaq,zil,toD,zaD,Q23,Q24,Q25,Q26,Q27,Q28,Nat.reduceLeDiff,Q29,Nat.reduceSub,Q30,Q31,Q32,sc,Q33,Q34,Q35,Bool.and_false,Bool.and_self,Bool.false_and,Bool.not_false,Bool.not_true,Bool.true_and,Int.toNat_natCast,Int.toNat_zero,List.drop_zero,List.length_map,List.length_nil,List.nil_append,List.take_length,Nat.sub_zero,Nat.zero_add,Option.isSome_none,Option.isSome_some,Option.map_none,Option.map_some,zaj,beq_self_eq_true,bne_self_eq_false,zck,zhJ,zag,zdg,zrY,zcl,zor,opA,opD,zfx,zgo,zaw];rfl):P:=e.mpr h
theorem zwU {o:TOp}(ht:o.topic.length<=1073741824)(hg:o.group.length<=1073741824)(hr:o.recs.length<=1073741824){K:KT}(hK:K (.d (.int .i64 (zaN zef o))) σ):zP zmr [opA o] σ K:=by
 refine zez e_op_Check fun hl=>?_;simp only[zzs,iN,bT,bF,eN,zl2,opA];(refine gq4 ?_;try with_reducible exact True.intro);refine c_only (o:=o) ?_;have honly:(zoo o).recs.length<=1073741824:=by unfold zoo noOp;split<;>(try split)<;>(try split)<;>(try split)<;>simp<;>omega
 (refine gq8 ?_;try with_reducible exact True.intro);repeat' first
  | (refine gq4 ?_;try with_reducible exact True.intro)
  | refine c_Same (a:=o) (b:=zoo o) hr honly ?_
  | refine c_Name ht ?_
  | refine c_Name hg ?_
  | refine zoM hr ?_
  | (refine zV (fun h=>?_) (fun h=>?_)<;>(try rw[h]))
  | ((with_reducible refine And.intro ?_ ?_);focus(first|omega|rfl|decide))
 all_goals refine zu hl ?_
 all_goals(try simp only[decide_eq_true_eq,decide_eq_false_iff_not,beq_iff_eq,beq_eq_false_iff_ne,bne_iff_ne,ne_eq,Bool.not_eq_true',Bool.not_eq_false',bne_eq_false_iff_eq]at *)
 all_goals
  simp only[zcm,dmT,dm,dm1]
  have e:∀z:Int,zaN zef o=z->K (.d (.int .i64 z)) σ:=fun z hz=>by rw[← hz];exact hK
  clear hK
  apply e
  first
  | grind [zaN]
  | skip
variable {σ:List AObj}
def zoC (k:Int):Bool:=decide (1<=k/\k<=4)
def zsd (k:Int):Bool:=decide (k=3)
def fOff (k:Int):Bool:=decide (k=3∨k=4)
def zAe (k:Int):Bool:=decide (k=2)
theorem c_fields {k:Int}{K:KT}(hK:K (.tup [.d (.bool (zoC k)),.d (.bool (zsd k)),.d (.bool (fOff k)),.d (.bool (zAe k))]) σ):zP zlk [.d (.int .i64 k)] σ K:=by
 refine zez e_r06_fields fun hl=>?_;simp only[zuo,iN,bT,bF,eN];(repeat'(first|(refine gq4 ?_;try with_reducible exact True.intro)|(refine zV (fun h=>?_) (fun h=>?_)<;>(try rw[h]))|((with_reducible refine And.intro ?_ ?_);focus(first|omega|rfl|decide))));all_goals refine zu hl ?_
 all_goals(try simp only[decide_eq_true_eq,decide_eq_false_iff_not,beq_iff_eq,beq_eq_false_iff_ne,bne_iff_ne,ne_eq,Bool.not_eq_true',Bool.not_eq_false',bne_eq_false_iff_eq]at *)
 all_goals
  simp only[zcm,dmT,dm,dm1,List.map_cons,List.map_nil]
  have e:∀a b c d:Bool,zoC k=a->zsd k=b->fOff k=c->zAe k=d->K (.tup [.d (.bool a),.d (.bool b),.d (.bool c),.d (.bool d)]) σ:=fun a b c d h1 h2 h3 h4=>by rw[← h1,← h2,← h3,← h4];exact hK
  clear hK
  apply e<;>simp[zoC,zsd,fOff,zAe]<;>omega
theorem onlyF_iff (o:TOp):o=zoo o↔(zoC o.kind=false->o.topic=[])/\(zsd o.kind=false->o.group=[])/\(fOff o.kind=false->o.offset=0)/\(zAe o.kind=false->o.recs=[]):=by
 obtain⟨k,t,g,f,r⟩:=o;simp only[zoo,noOp,zoC,zsd,fOff,zAe,decide_eq_false_iff_not];by_cases h1:k=1
 ·subst h1;simp
 by_cases h2:k=2
 ·subst h2;simp
 by_cases h3:k=3
 ·subst h3;simp
 by_cases h4:k=4
 ·subst h4;simp
 ·have:¬(1<=k/\k<=4):=by omega
  simp[h1,h2,h3,h4,this]
set_option maxHeartbeats 2000000 in
theorem zAw {σ:List AObj}{o:TOp}(ht:o.topic.length<=1073741824)(hg:o.group.length<=1073741824)(hr:o.recs.length<=1073741824){K:KT}(hK:K (.d (.int .i64 (zaN zef o))) σ):zP zko [opA o] σ K:=by
 refine zez e_r06_Check fun hl=>?_;simp only[zxq,iN,bT,bF,eN,opA];(refine gq4 ?_;try with_reducible exact True.intro);refine c_fields ?_;have fin:∀z:Int,zaN zef o=z->K (.d (.int .i64 z)) σ:=fun z hz=>by rw[← hz];exact hK
 have honly:=onlyF_iff o;have hkind:zoC o.kind=true->ziF o=true:=by simp[zoC,ziF];omega
 have hk1:zoC o.kind=true↔(ziF o=true/\o.kind≠0):=by simp[zoC,ziF];omega
 have hk2:zsd o.kind=true↔o.kind=3:=by simp[zsd]
 have hk3:zAe o.kind=true↔o.kind=2:=by simp[zAe]
 have hk4:ziF o=true↔(0<=o.kind/\o.kind<=4):=by simp[ziF]
 have hnil:o.recs=[]↔o.recs.length=0:=List.length_eq_zero_iff.symm;clear hK;repeat' first
  | (refine gq4 ?_;try with_reducible exact True.intro)
  | refine c_rName ht ?_
  | refine c_rName hg ?_
  | (refine zV (fun h=>?_) (fun h=>?_)<;>(try rw[h]))
  | ((with_reducible refine And.intro ?_ ?_);focus(first|omega|rfl|decide))
 all_goals first
  | (
   refine zu hl ?_
   (try simp only[decide_eq_true_eq,decide_eq_false_iff_not,beq_iff_eq,beq_eq_false_iff_ne,bne_iff_ne,ne_eq,Bool.not_eq_true',Bool.not_eq_false',bne_eq_false_iff_eq]at *)
   simp only[zcm,dmT,dm,dm1]
   apply fin
   grind [zaN])
  | skip
 all_goals
  refine zn o.recs.length (fun k vs s=>vs=[.d (.int .i64 k)]/\s=σ++[.box [.d (.int .i64 o.kind),.d (.str o.topic),.d (.str o.group),.d (.int .i64 o.offset),.d (.slice (zdQ o.recs))]]/\∀r∈o.recs.take k,¬r.length>64) ⟨rfl,rfl,by simp⟩ ?_
  rintro k vs s hk ⟨rfl,rfl,htk⟩
  (refine gq2 @zy ?_;try with_reducible exact True.intro)
  refine zV (fun h=>?_) (fun h=>?_)
  ·have hka:k<o.recs.length:=by exact zop
   have hx:o.recs[k]? = some o.recs[k]:=by simp[hka]
   have hmem:o.recs[k]∈o.recs:=List.getElem_mem _
   have hbl:(bcs o.recs[k]).length=o.recs[k].length:=by simp[bcs]
   (refine gq2 (zd (zgx hx) @zy) ?_;try with_reducible exact True.intro)
   refine And.intro (by omega) ?_
   refine zV (fun h=>?_) (fun h=>?_)
   ·have hany:(o.recs.any fun r=>decide (r.length>64))=true:=by
     rw[List.any_eq_true];exact⟨_,hmem,by exact zop⟩
    refine zu hl ?_
    (try simp only[decide_eq_true_eq,decide_eq_false_iff_not,beq_iff_eq,beq_eq_false_iff_ne,bne_iff_ne,ne_eq,Bool.not_eq_true',Bool.not_eq_false',bne_eq_false_iff_eq]at *)
    simp only[zcm,dmT,dm,dm1]
    apply fin
    grind [zaN]
   ·(refine gq2 @zy ?_;try with_reducible exact True.intro)
    refine zaK.next hka ⟨?_,rfl,fun r hr=>?_⟩
    ·rw[zaQ (by omega) (by omega)];rfl
    ·rw[List.take_add_one,hx]at hr
     rcases List.mem_append.1 hr with hr|hr
     ·exact htk r hr
     ·have:r=o.recs[k]:=by simpa using hr
      subst this
      exact zop
  ·have hany:(o.recs.any fun r=>decide (r.length>64))=false:=by
    rw[List.any_eq_false];intro r hr;have hk':k=o.recs.length:=by exact zop
    rw[hk',List.take_length]at htk;simpa using htk r hr
   clear htk
   (repeat'(first|(refine gq4 ?_;try with_reducible exact True.intro)|(refine zV (fun h=>?_) (fun h=>?_)<;>(try rw[h]))|((with_reducible refine And.intro ?_ ?_);focus(first|omega|rfl|decide))))
   all_goals
    refine zu hl ?_
    (try simp only[decide_eq_true_eq,decide_eq_false_iff_not,beq_iff_eq,beq_eq_false_iff_ne,bne_iff_ne,ne_eq,Bool.not_eq_true',Bool.not_eq_false',bne_eq_false_iff_eq]at *)
    simp only[zcm,dmT,dm,dm1]
    apply fin
    grind [zaN]
end Go.Proofs.YtdgcepphjnoalaaGreat
