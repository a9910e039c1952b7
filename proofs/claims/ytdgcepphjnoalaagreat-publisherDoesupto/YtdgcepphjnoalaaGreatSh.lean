/- All conditions. -/
import Derived.Test.YtdgcepphjnoalaaGreatSh1
import Derived.Test.YtdgcepphjnoalaaGreatSh2
import Derived.Test.YtdgcepphjnoalaaGreatSh3
import Derived.Test.YtdgcepphjnoalaaGreatSh4
import Derived.Test.YtdgcepphjnoalaaGreatSh5
import Derived.Test.YtdgcepphjnoalaaGreatAwLoop
import Derived.Test.YtdgcepphjnoalaaGreatSpNum
set_option linter.all false

/- Contracts: bytes.Clone. -/
set_option maxRecDepth 100000
namespace Go.Proofs.YtdgcepphjnoalaaGreat
open Go.AW
variable {σ:List AObj}
theorem zkb {es:List (List D)}{K:KT}(he:∀e∈es,e.length=1)(hn:es.length<=1073741824)(hK:K (.own σ.length es) (σ++[.tok 1 es.length])):zP zcV [.d (.slice es)] σ K:=by
 refine ACall.tok he ?_ hK;refine zbN znr.is rfl (fun s=>if s.length=σ.length then []else [σ.length]) fun hl _=>znr.goes ?_;simp only[znB,iN,bT,bF,eN,zaB,zgy];cases es with
 | nil=>
  refine⟨?_,?_⟩
  ·simp only[zaC,zak,zH]
   exact znn (by simp) hl rfl (by simp)
  ·simp only[zaC,zO,zH,zL,rep,zp,zhX,zaD,zM,zid]
   refine⟨by simp,by simp,by simp,?_⟩
   exact zmA hl (by simp) (by simp)
 | cons e es=>
  simp only[zaC,zO,zH,zL,rep,zp,zhX,zaD,zM,zid]
  refine⟨he,by simp,by simp at hn ⊢;omega,?_⟩
  exact zmA hl (by simp) (by simp)
variable {σ:List AObj}
theorem zAw {es:List (List D)}{K:KT}(he:∀e∈es,e.length=1)(hK:K (.exact es) σ):zP zeW [.d (.slice es)] σ K:=by
 refine zbN zhM.is rfl (fun _=>[]) fun hl _=>zhM.goes ?_;simp only[zhU,iN,bT,bF,eN,gF,gT,gFm,gTm,fl,nfl,gFl,gTl,il,cp,orC,anC,cA,bP,z1,z2,m1,List.map_cons,List.map_nil,zah,zgy,zgB,bnd,ziT,zH];refine⟨rfl,trivial,by omega,by omega,by omega,he,?_⟩;simp only[zsK,zAM,getL,zvS,zcm,zeL];simpa using ⟨hl,hK⟩
theorem znx {a b:List UInt8}{K:KT}(hK:K (.d (.bool (a==b))) σ):zP zhH [.d (.slice (bcs a)),.d (.slice (bcs b))] σ K:=by
 refine zeq zAp fun hl=>?_;simp only[zsH,iN,bT,bF,eN,gF,gT,gFm,gTm,fl,nfl,gFl,gTl,il,cp,orC,anC,cA,bP,z1,z2,m1,List.map_cons,List.map_nil,zaw,zgy,ziD,zes,zhr,zdD,zH];exact zwq (by simp[zhe,dmT,dm,dm1,zcm]) hl hK
variable {σ:List AObj}
def bva (bs:List UInt8):List AV:=bs.map fun b=>.d (.int .u8 (b.toNat:Int))
def ziu (bs:List UInt8):List AV:=bva bs++List.replicate (10-bs.length) (.d (.int .u8 0))
theorem zyf {pre:List UInt8}{b:UInt8}(h:pre.length<10):zaq (ziu pre) pre.length [.d (.int .u8 (b.toNat:Int))]=ziu (pre++[b]):=by
 simp only[zaq,ziu,bva,List.length_singleton];obtain⟨m,hm⟩:∃m,10-pre.length=m+1:=⟨9-pre.length,by omega⟩;rw[hm,List.take_left' (by simp),List.drop_append];simp only[List.length_map];rw[List.drop_eq_nil_of_le (by simp),show pre.length+1-pre.length=1 by omega,List.replicate_succ];simp[List.length_append,show 10-(pre.length+1)=m by omega]
theorem byte_or (m:Nat):IntKind.u8.wrap ↑(BitVec.ofInt IntKind.u8.bits (IntKind.u8.wrap (m:Int)) ||| BitVec.ofInt IntKind.u8.bits 128).toNat=((UInt8.ofNat (m % 128+128)).toNat:Int):=by
 rw[wrap8 m,show IntKind.u8.bits=8 from rfl,or128 ⟨m % 256,by omega⟩,zvc (by simp;omega),zpO (by omega)];simp
theorem byte_wrap {m:Nat}(h:m<128):IntKind.u8.wrap (m:Int)=((UInt8.ofNat m).toNat:Int):=by
 rw[zvc (by omega),zpO (by omega)]
theorem shr7 (m:Nat):((m:Int)).fdiv (2 ^ min 7 IntKind.u64.bits)=((m / 128:Nat):Int):=by
 rw[show min 7 IntKind.u64.bits=7 from rfl,Int.fdiv_eq_ediv_of_nonneg _ (by decide)];rfl
theorem zrR {pre:List UInt8}(h:pre.length<=10):(ziu pre).length=10:=by simp[ziu,bva];omega
theorem pad10_sc (pre:List UInt8):(ziu pre).all sc=true:=by
 simp only[ziu,bva,List.all_append,List.all_map,List.all_replicate,Bool.and_eq_true];refine⟨by simp[sc],?_⟩;cases 10-pre.length<;>simp[sc]
theorem pad10_d (pre:List UInt8):ziu pre=((pre.map fun b=>D.int .u8 (b.toNat:Int))++List.replicate (10-pre.length) (D.int .u8 0)).map AV.d:=by
 simp[ziu,bva,Function.comp_def]
theorem gq1 {P Q:Prop}(h:Q)(e:P=Q:=by simp -dsimp only[↓zlH,↓zbS,↓zee,↓zlI,↓zlz,↓zlx,↓zlA,↓zly,↓zej,↓zef,↓zek,↓zeg,↓zlB,↓zeb,↓zel,↓zeh,↓zem,↓zei,↓zlw,↓zlF,↓zea,↓zep,↓zlo,↓zln,↓zlu,iN,bT,bF,eN,↓zes,↓unC,↓zaC,↓zai,↓zaj,↓zav,↓zaX,↓zah,↓zgB,↓zaw,↓zbf,↓zad,↓ze,↓zj,↓zaR,↓zc,↓zaV,↓zN,↓zbT,↓zcl,↓zf,↓zF,↓zp,↓zM,↓zaB,↓zgI,↓zhI,↓zbc,↓zby,↓zcf,↓zcA,↓zdp,↓zJ,↓zbb,↓zak,↓zO,↓zaU,zhr,zdV,zdD,unA,zgy,bnd,ziT,zaO,zL,zid,dm,dm1,zH,zaF,zjX,zjW,keepO,Q0,Q1,Q2,Q3,Q4,Q5,zba,zA,zB,zY,zab,Q6,Q7,Q8,Q9,Q10,Q11,Q12,Q13,Q14,Nat.reduceAdd,Q15,Int.reduceToNat,Q16,Q17,Q18,Q19,Q20,reduceIte,Q21,Q22];rfl):P:=e.mpr h
theorem gq2 {A P Q:Prop}(a:A)(h:Q)(e:A->P=Q:=by intro a;simp -dsimp only[↓zlH,↓zbS,↓zee,↓zlI,↓zlz,↓zlx,↓zlA,↓zly,↓zej,↓zef,↓zek,↓zeg,↓zlB,↓zeb,↓zel,↓zeh,↓zem,↓zei,↓zlw,↓zlF,↓zea,↓zep,↓zlo,↓zln,↓zlu,iN,bT,bF,eN,↓zes,↓unC,↓zaC,↓zai,↓zaj,↓zav,↓zaX,↓zah,↓zgB,↓zaw,↓zbf,↓zad,↓ze,↓zj,↓zaR,↓zc,↓zaV,↓zN,↓zbT,↓zcl,↓zf,↓zF,↓zp,↓zM,↓zaB,↓zgI,↓zhI,↓zbc,↓zby,↓zcf,↓zcA,↓zdp,↓zJ,↓zbb,↓zak,↓zO,↓zaU,zhr,zdV,zdD,unA,zgy,bnd,ziT,zaO,zL,zid,dm,dm1,zH,zaF,zjX,zjW,keepO,Q0,Q1,Q2,Q3,Q4,Q5,zba,zA,zB,zY,zab,Q6,Q7,Q8,Q9,Q10,Q11,Q12,Q13,Q14,Nat.reduceAdd,Q15,Int.reduceToNat,Q16,Q17,Q18,Q19,Q20,reduceIte,Q21,Q22,a];rfl):P:=(e a).mpr h
theorem c_form {n:Nat}(hn:n<18446744073709551616){K:KT}(hK:K (.tup [.agg (ziu (zbv n)),.d (.int .i64 (zbv n).length)]) σ):zP zoB [.d (.int .u64 n)] σ K:=by
 refine zeA e_codec_form fun hl=>?_;simp only[zuv,iN,bT,bF,eN,zad];have hlen:=zl hn;refine zn 10 (fun k vs s=>∃(m:Nat) (pre:List UInt8),k=pre.length/\vs=[.d (.int .u64 m),.d (.int .i64 k)]/\zbv n=pre++zbv m/\m<18446744073709551616 ∧
   s=σ++[.box (ziu []),.box (ziu pre)]) ⟨n,[],rfl,rfl,rfl,hn,by simp[ziu,bva]⟩ ?_
 rintro k vs s hk ⟨m,pre,rfl,rfl,hpre,hm,rfl⟩;have hm10:=zl hm;have hpl:pre.length+(zbv m).length<=10:=by rw[hpre]at hlen;simpa using hlen.2
 have hp:pre.length<10:=by omega
 (refine gq1 ?_;try with_reducible exact True.intro);refine zW (fun h=>?_) (fun h=>?_);all_goals(try(refine gq2 h ?_;try with_reducible exact True.intro))
 ·have h1:¬m<128:=by simp at h;omega
  have h2:=zzS h1;rw[h2]at hpl;simp at hpl;rw[byte_or,shr7,zyf hp];refine⟨by omega,by omega,by have:=zrR (pre:=pre) (by omega);omega,by simp[sc],by omega,?_⟩;refine zaK.next (by omega) ⟨m / 128,pre++[UInt8.ofNat (m % 128+128)],by simp,?_,by rw[hpre,h2];simp,by omega,rfl⟩;rw[zaW (by omega) (by omega)];rfl
 ·have h1:m<128:=by simp at h;omega
  have h2:=zpz h1;rw[byte_wrap h1,zyf hp];have hp1:(ziu (pre++[UInt8.ofNat m])).length=10:=zrR (by simp;omega);have hsp:zaq (ziu []) 0 (ziu (pre++[UInt8.ofNat m]))=ziu (pre++[UInt8.ofNat m]):=by
   simp only[zaq,Nat.zero_add,List.take_zero,List.nil_append];rw[hp1,List.drop_eq_nil_of_le (by simp[ziu,bva]),List.append_nil]
  have htk:List.take 10 (List.drop 0 (ziu (pre++[UInt8.ofNat m])))=ziu (pre++[UInt8.ofNat m]):=by
   rw[List.drop_zero,List.take_of_length_le (by omega)]
  rw[htk,hsp,htk,if_pos (by omega)];refine⟨by omega,by omega,by have:=zrR (pre:=pre) (by omega);omega,by simp[sc],by omega,by omega,by simp[ziu,bva],pad10_sc _,?_⟩;have hd:dmT (zcm [.agg (ziu (pre++[UInt8.ofNat m])),.d (.int .i64 (IntKind.i64.wrap (↑pre.length+1)))])=.tup [.agg (ziu (pre++[UInt8.ofNat m])),.d (.int .i64 (zbv n).length)]:=by
   rw[zaW (by omega) (by omega),hpre,h2];simp only[zcm,dmT,List.map_cons,List.map_nil,dm,pad10_d,map_dm1_d,dm1];rw[List.length_append];rfl
  refine ztu ?_ hl ?_
  ·rw[hd,pad10_d,zbu];intro c hc;rcases List.mem_cons.1 hc with rfl|hc
   ·exact .agg _ (zmv _ _)
   ·have hc:=List.mem_singleton.1 hc;subst hc;exact .d _
  ·rw[hd];rw[hpre,h2]at hK ⊢;exact hK
theorem toDs_bva (bs:List UInt8)(r:List AV)(ds:List D)(h:zhX r=some ds):zhX (bva bs++r)=some ((bs.map fun b=>D.int .u8 (b.toNat:Int))++ds):=by
 induction bs with
 | nil=>simpa [bva] using h
 | cons b bs ih=>simp only[bva,List.map_cons,List.cons_append,zhX,toD]at ih ⊢;rw[ih]
theorem chunks1 (bs:List UInt8):zaD 1 bs.length (bs.map fun b=>D.int .u8 (b.toNat:Int))=bcs bs:=by
 induction bs with
 | nil=>rfl
 | cons b bs ih=>simp only[List.length_cons,List.map_cons,zaD,bcs,List.take_succ_cons,List.take_zero,List.drop_succ_cons,List.drop_zero]at ih ⊢;rw[ih];rfl
theorem zfy {b:List UInt8}{n:Nat}(hn:n<18446744073709551616)(hb:b.length<=1073741824){K:KT}(hK:K (.own σ.length (bcs (b++zbv n))) (σ++[.tok 1 (b++zbv n).length])) :
  zP zaS [.d (.slice (bcs b)),.d (.int .u64 n)] σ K:=by
 refine zbN zqs.is rfl (fun s=>[σ.length+1]) fun hl _=>zqs.goes ?_;have hlen:=zl hn;simp only[zqN,iN,bT,bF,eN,gF,gT,gFm,gTm,fl,nfl,gFl,gTl,il,cp,orC,anC,cA,bP,z1,z2,m1,List.map_cons,List.map_nil];simp only[dm,dm1];refine c_form hn ?_;have hp:=zrR hlen.2;have hsp:zaq (List.replicate 10 (AV.d (D.int .u8 0))) 0 (ziu (zbv n))=ziu (zbv n):=by
  simp only[zaq,Nat.zero_add,List.take_zero,List.nil_append];rw[hp,List.drop_eq_nil_of_le (by simp),List.append_nil]
 have hrep:[AV.d (D.int .u8 0),.d (.int .u8 0),.d (.int .u8 0),.d (.int .u8 0),.d (.int .u8 0),.d (.int .u8 0),.d (.int .u8 0),.d (.int .u8 0),.d (.int .u8 0),.d (.int .u8 0)]=List.replicate 10 (AV.d (D.int .u8 0)):=rfl;(refine gq1 ?_;try with_reducible exact True.intro);refine⟨hp,by omega,pad10_sc _,by omega,by omega,by omega,by omega,?_⟩;refine zAw ziE ?_;rw[hrep,hsp];(refine gq1 ?_;try with_reducible exact True.intro);have htk:zhX (List.take ((zbv n).length-Int.toNat 0) (List.drop (Int.toNat 0) (ziu (zbv n))))=some ((zbv n).map fun b=>D.int .u8 (b.toNat:Int)):=by
  simp only[Int.toNat_zero,Nat.sub_zero,List.drop_zero];rw[ziu,List.take_left' (by simp[bva])];have:=toDs_bva (zbv n) [] [] rfl;simpa using this
 simp only[Int.toNat_zero]at htk;rw[htk,if_pos (by omega),Nat.sub_zero];simp only[Option.map_some,chunks1];refine⟨ziE,ziE,by simp[bcs];omega,?_⟩;rw[ztL];refine zoI rfl hl (by omega) (by rw[zA];rfl) ?_;simpa [bcs] using hK
theorem zpN {b x:List UInt8}(hx:x.length<=1073741824)(hb:b.length<=1073741800){K:KT}(hK:K (.own σ.length (bcs (b++(zbv x.length++x)))) (σ++[.tok 1 (b++(zbv x.length++x)).length])) :
  zP zdg [.d (.slice (bcs b)),.d (.slice (bcs x))] σ K:=by
 refine zbN znH.is rfl (fun s=>[σ.length]) fun hl _=>znH.goes ?_;have hlen:=zl (n:=x.length) (by omega);(simp only[znU];refine gq1 ?_;try with_reducible exact True.intro);have hw:IntKind.u64.wrap ((bcs x).length:Int)=(x.length:Int):=by rw[zdW (by simp[bcs];omega)];simp[bcs]
 rw[hw];refine zfy (by omega) (by omega) ?_;(refine gq1 ?_;try with_reducible exact True.intro);refine⟨ziE,by simp[bcs];omega,by simp[bcs],?_⟩;rw[ztL];simp only[List.append_assoc];refine zmA hl rfl ?_;simpa [bcs,Nat.add_assoc] using hK
theorem div128 {m:Nat}(h:m<18446744073709551616):IntKind.u64.wrap ((m:Int).tdiv 128)=((m / 128:Nat):Int):=by
 rw[show((m:Int).tdiv 128)=((m / 128:Nat):Int)from by rw[Int.tdiv_eq_ediv_of_nonneg (by omega)];rfl,zdW (by omega)]
theorem rem128 (m:Nat):(m:Int).tmod 128=((m % 128:Nat):Int):=by
 rw[Int.tmod_eq_emod_of_nonneg (by omega)];rfl
theorem gq3 {P Q:Prop}(h:Q)(e:P=Q:=by simp -dsimp only[↓zlH,↓zbS,↓zee,↓zlI,↓zlz,↓zlx,↓zlA,↓zly,↓zej,↓zef,↓zek,↓zeg,↓zlB,↓zeb,↓zel,↓zeh,↓zem,↓zei,↓zlw,↓zlF,↓zea,↓zep,↓zlo,↓zln,↓zlu,iN,bT,bF,eN,↓zes,↓unC,↓zaC,↓zai,↓zaj,↓zav,↓zaX,↓zah,↓zgB,↓zaw,↓zbf,↓zad,↓ze,↓zj,↓zaR,↓zc,↓zaV,↓zN,↓zbT,↓zcl,↓zf,↓zF,↓zp,↓zM,↓zaB,↓zgI,↓zhI,↓zbc,↓zby,↓zcf,↓zcA,↓zdp,↓zJ,↓zbb,↓zak,↓zO,↓zaU,zhr,zdV,zdD,unA,zgy,bnd,ziT,zaO,zL,zid,dm,dm1,zH,zaF,zjX,zjW,keepO,Q0,Q1,Q2,Q3,Q4,Q5,zba,zA,zB,zY,zab,Q6,Q7,Q8,Q9,Q10,Q11,Q12,Q13,Q14,Nat.reduceAdd,Q15,Int.reduceToNat,Q16,Q17,Q18,Q19,Q20,reduceIte,Q21,Q22,rep,zaq,zhX,toD,zaD,Q23,Q24,Q25,Q26,Q27,Q28,Nat.reduceLeDiff,Q29,Nat.reduceSub,Q30,Q31,Q32,sc,Q33,Q34,Q35];rfl):P:=e.mpr h
theorem zeQ {b:List UInt8}{n:Nat}(hn:n<18446744073709551616)(hb:b.length<=1073741824){K:KT}(hK:K (.own σ.length (bcs (b++zbv n))) (σ++[.tok 1 (b++zbv n).length])) :
  zP zbE [.d (.slice (bcs b)),.d (.int .u64 n)] σ K:=by
 refine zbN zui.is rfl (fun s=>[σ.length]) fun hl _=>zui.goes ?_;have hlen:=zl hn;(simp only[zus];refine gq1 ?_;try with_reducible exact True.intro);refine⟨ziE,by simp,by simp[bcs];omega,?_⟩;refine zn 10 (fun k vs s=>∃(m:Nat) (pre:List UInt8),k=pre.length/\vs=[.d (.int .u64 m),.own σ.length (bcs (b++pre))]/\zbv n=pre++zbv m/\m<18446744073709551616 ∧
   s=σ++[.tok 1 (b++pre).length]) ⟨n,[],rfl,by simp,rfl,hn,by simp[bcs]⟩ ?_
 rintro k vs s hk ⟨m,pre,rfl,rfl,hpre,hm,rfl⟩;have hm10:=zl hm;have hpl:pre.length+(zbv m).length<=10:=by rw[hpre]at hlen;simpa using hlen.2
 (refine gq1 ?_;try with_reducible exact True.intro);refine zW (fun h=>?_) (fun h=>?_);all_goals(try(refine gq2 h ?_;try with_reducible exact True.intro))
 ·have h1:¬m<128:=by simp at h;omega
  have h2:=zzS h1;rw[h2]at hpl;simp at hpl;have hc:IntKind.u8.wrap (IntKind.u8.wrap ((m:Int).tmod 128)+128)=((UInt8.ofNat (m % 128+128)).toNat:Int):=by
   rw[rem128,zvc (by omega),zpO (by omega),show((m % 128:Nat):Int)+128=((m % 128+128:Nat):Int)from rfl];exact zvc (by omega)
  (refine gq3 ?_;try with_reducible exact True.intro);rw[hc,div128 hm];refine⟨by decide,by simp,by simp[bcs];omega,by simp[bcs],by decide,?_⟩;refine zaK.next (by omega) ⟨m / 128,pre++[UInt8.ofNat (m % 128+128)],by simp,?_,by rw[hpre,h2];simp,by omega,?_⟩
  ·simp[bcs,zci]
  ·simp[bcs,Nat.add_assoc]
 ·have h1:m<128:=by simp at h;omega
  have h2:=zpz h1;(refine gq3 ?_;try with_reducible exact True.intro);rw[byte_wrap h1];refine⟨by simp,by simp[bcs];omega,by simp[bcs],?_⟩;rw[hpre,h2]at hK;have e:bcs (b++pre)++[[D.int .u8 ((UInt8.ofNat m).toNat:Int)]]=bcs (b++(pre++[UInt8.ofNat m])):=by simp[bcs,zci]
  rw[e];refine zmA hl rfl ?_;simpa [bcs,Nat.add_assoc] using hK
theorem zhd {b x:List UInt8}(hx:x.length<=1073741824)(hb:b.length<=1073741800){K:KT}(hK:K (.own σ.length (bcs (b++(zbv x.length++x)))) (σ++[.tok 1 (b++(zbv x.length++x)).length])) :
  zP zcn [.d (.slice (bcs b)),.d (.slice (bcs x))] σ K:=by
 refine zbN zqr.is rfl (fun s=>[σ.length]) fun hl _=>zqr.goes ?_;have hlen:=zl (n:=x.length) (by omega);(simp only[zqF];refine gq1 ?_;try with_reducible exact True.intro);have hw:IntKind.u64.wrap ((bcs x).length:Int)=(x.length:Int):=by rw[zdW (by simp[bcs];omega)];simp[bcs]
 rw[hw];refine zeQ (by omega) (by omega) ?_;(refine gq1 ?_;try with_reducible exact True.intro);refine⟨ziE,by simp[bcs];omega,by simp[bcs],?_⟩;rw[ztL];simp only[List.append_assoc];refine zmA hl rfl ?_;simpa [bcs,Nat.add_assoc] using hK
variable {σ:List AObj}
theorem gq4 {P Q:Prop}(h:Q)(e:P=Q:=by simp -dsimp only[↓zlH,↓zbS,↓zee,↓zlI,↓zlz,↓zlx,↓zlA,↓zly,↓zej,↓zef,↓zek,↓zeg,↓zlB,↓zeb,↓zel,↓zeh,↓zem,↓zei,↓zlw,↓zlF,↓zea,↓zep,↓zlo,↓zln,↓zlu,iN,bT,bF,eN,↓zes,↓unC,↓zaC,↓zai,↓zaj,↓zav,↓zaX,↓zah,↓zgB,↓zaw,↓zbf,↓zad,↓ze,↓zj,↓zaR,↓zc,↓zaV,↓zN,↓zbT,↓zcl,↓zf,↓zF,↓zp,↓zM,↓zaB,↓zgI,↓zhI,↓zbc,↓zby,↓zcf,↓zcA,↓zdp,↓zJ,↓zbb,↓zak,↓zO,↓zaU,zhr,zdV,zdD,unA,zgy,bnd,ziT,zaO,zL,zid,dm,dm1,zH,zaF,zjX,zjW,keepO,Q0,Q1,Q2,Q3,Q4,Q5,zba,zA,zB,zY,zab,Q6,Q7,Q8,Q9,Q10,Q11,Q12,Q13,Q14,Nat.reduceAdd,Q15,Int.reduceToNat,Q16,Q17,Q18,Q19,Q20,reduceIte,Q21,Q22,zy,rep,zaq,zhX,toD,zaD,Q23,Q24,Q25,Q26,Q27,Q28,Nat.reduceLeDiff,Q29,Nat.reduceSub,Q30,Q31,Q32,sc,Q33,Q34,Q35];rfl):P:=e.mpr h
theorem c_only {o:TOp}{K:KT}(hK:K (.tup [opA (zor o),.d (.bool (ziI o))]) σ):zP zwa [opA o] σ K:=by
 refine zeA e_op_only fun hl=>?_;simp only[S_op_only,iN,bT,bF,eN,zl2,opA];(repeat'(first|(refine gq4 ?_;try with_reducible exact True.intro)|(refine zW (fun h=>?_) (fun h=>?_)<;>(try rw[h]))|((with_reducible refine And.intro ?_ ?_);focus(first|omega|rfl|decide))));all_goals refine zu hl ?_
 all_goals simp only[beq_iff_eq,beq_eq_false_iff_ne,ne_eq]at *
 all_goals simp_all[zcm,dmT,dm,dm1,zor,noOp,opA,ziI,zdU]
 have e:(decide (0<=o.kind)&&decide (o.kind<=4))=false:=by simp;omega
 rw[e]at hK;exact hK
theorem c_Same_1 {a b:List UInt8}{K:KT}(hK:K (.d (.bool (a==b))) σ):zP znh [.d (.slice (bcs a)),.d (.slice (bcs b))] σ K:=by
 refine zeq e_op_Same_1 fun hl=>?_;(simp only[zxv];refine gq2 @zy ?_;try with_reducible exact True.intro);refine znx ?_;refine zu hl ?_;exact hK
theorem zd {A B:Prop}(a:A)(b:B):A/\B:=⟨a,b⟩
theorem gq5 {A P Q:Prop}(a:A)(h:Q)(e:A->P=Q:=by intro a;simp -dsimp only[↓zlH,↓zbS,↓zee,↓zlI,↓zlz,↓zlx,↓zlA,↓zly,↓zej,↓zef,↓zek,↓zeg,↓zlB,↓zeb,↓zel,↓zeh,↓zem,↓zei,↓zlw,↓zlF,↓zea,↓zep,↓zlo,↓zln,↓zlu,iN,bT,bF,eN,↓zes,↓unC,↓zaC,↓zai,↓zaj,↓zav,↓zaX,↓zah,↓zgB,↓zaw,↓zbf,↓zad,↓ze,↓zj,↓zaR,↓zc,↓zaV,↓zN,↓zbT,↓zcl,↓zf,↓zF,↓zp,↓zM,↓zaB,↓zgI,↓zhI,↓zbc,↓zby,↓zcf,↓zcA,↓zdp,↓zJ,↓zbb,↓zak,↓zO,↓zaU,zhr,zdV,zdD,unA,zgy,bnd,ziT,zaO,zL,zid,dm,dm1,zH,zaF,zjX,zjW,keepO,Q0,Q1,Q2,Q3,Q4,Q5,zba,zA,zB,zY,zab,Q6,Q7,Q8,Q9,Q10,Q11,Q12,Q13,Q14,Nat.reduceAdd,Q15,Int.reduceToNat,Q16,Q17,Q18,Q19,Q20,reduceIte,Q21,Q22,Bool.and_false,Bool.and_self,Bool.false_and,Bool.not_false,Bool.not_true,Bool.true_and,Int.toNat_natCast,Int.toNat_zero,List.drop_zero,List.length_map,List.length_nil,List.nil_append,List.take_length,Nat.sub_zero,Nat.zero_add,Option.isSome_none,Option.isSome_some,Option.map_none,Option.map_some,zam,beq_self_eq_true,bne_self_eq_false,a];rfl):P:=(e a).mpr h
theorem zsw {a b:List (List UInt8)}(ha:a.length<=1073741824)(hb:b.length<=1073741824){K:KT}(hK:K (.d (.bool (a==b))) σ) :
  zP zan [.d (.slice (zdU a)),.d (.slice (zdU b)),.fn (.func znh) [] []] σ K:=by
 refine acE3 zcB fun hl=>?_;(simp only[zbd];refine gq2 @zy ?_;try with_reducible exact True.intro);refine zW (fun h=>?_) (fun h=>?_);all_goals(try(refine gq2 (zd h @zy) ?_;try with_reducible exact True.intro))
 ·refine zu hl ?_;have:(a==b)=false:=by
   rw[beq_eq_false_iff_ne];rintro rfl;simp at h
  rw[this]at hK;exact hK
 have hl2:a.length=b.length:=by simp at h;omega
 refine zn a.length (fun k vs s=>vs=[.d (.int .i64 k)]/\s=σ/\a.take k=b.take k) ⟨rfl,rfl,by simp⟩ ?_;rintro k vs s hk ⟨rfl,rfl,htk⟩;(refine gq2 @zy ?_;try with_reducible exact True.intro);refine zW (fun h=>?_) (fun h=>?_);all_goals(try(refine gq2 (zd h @zy) ?_;try with_reducible exact True.intro))
 ·have hka:k<a.length:=by simp at h;omega
  have hx:a[k]? = some a[k]:=by simp[hka]
  have hy:b[k]? = some (b[k]'(by omega)):=List.getElem?_eq_getElem _;(refine gq5 (zd (zgD hx) (zd (zgD hy) @zy)) ?_;try with_reducible exact True.intro);refine⟨by omega,by omega,c_Same_1 ?_⟩;(refine gq2 (zd @zy @zaU) ?_;try with_reducible exact True.intro);refine zW (fun h=>?_) (fun h=>?_);all_goals(try(refine gq2 (zd h @zy) ?_;try with_reducible exact True.intro))
  ·refine zaK.next hka ⟨?_,rfl,zbq hx hy htk (by simpa using h)⟩;rw[zaW (by omega) (by omega)];rfl
  ·refine zu hl ?_;have:(a==b)=false:=by
    rw[beq_eq_false_iff_ne];rintro rfl;simp at h
   rw[this]at hK;exact hK
 ·refine zu hl ?_;have:(a==b)=true:=by
   rw[beq_iff_eq];exact zcu hl2 (k:=k) (by simp at h;omega) htk
  rw[this]at hK;exact hK
theorem c_Same {a b:TOp}(ha:a.recs.length<=1073741824)(hb:b.recs.length<=1073741824){K:KT}(hK:K (.d (.bool (decide (a=b)))) σ):zP zrX [opA a,opA b] σ K:=by
 refine zeq e_op_Same fun hl=>?_;simp only[S_op_Same,iN,bT,bF,eN,opA];repeat' first
  | (refine gq4 ?_;try with_reducible exact True.intro)
  | (refine zW (fun h=>?_) (fun h=>?_)<;>(try rw[h]))
  | refine zsw ha hb ?_
 all_goals refine zu hl ?_
 all_goals simp only[beq_iff_eq,beq_eq_false_iff_ne,ne_eq]at *
 ·have e:decide (a=b)=(a.recs==b.recs):=by
   rw[Bool.eq_iff_iff];cases a;cases b;simp_all
  rw[e]at hK;exact hK
 all_goals
  have e:decide (a=b)=false:=by
   cases a;cases b;simp_all
  rw[e]at hK;exact hK
variable {σ:List AObj}
theorem c_Runes {s:List UInt8}(hs:s.length<=1073741824){K:KT}(hK:K (.d (.int .i64 (ziQ s))) σ):zP ztd [.d (.str s)] σ K:=by
 refine zeA e_op_Runes fun hl=>?_;simp only[zzt,iN,bT,bF,eN,zbb];refine zn s.length (fun pos vs s'=>∃cnt:Nat,vs=[.d (.int .i64 cnt)]/\s'=σ++[.iter s pos]/\pos<=s.length/\cnt<=pos/\zfk (s.length+1) s=(zfk (s.length+1) (s.drop pos)).map (· + cnt)) ⟨0,rfl,rfl,by omega,by omega,by simp⟩ ?_;rintro pos vs s' hp ⟨cnt,rfl,rfl,hps,hc,hr⟩;simp only[zJ,zrV,zB,List.getElem?_cons_zero];split
 ·rename_i hlt;have hd:s.drop pos≠[]:=by intro e;have:=congrArg List.length e;simp at this;omega
  have hw:=goDec_width _ hd;have hw2:=zmG (s.drop pos);simp only[decode_eq s pos hlt];have hcount:zfk (s.length+1) (s.drop pos)=if (zmm (s.drop pos)).2=0∨badF (zmm (s.drop pos)).1=true then none else(zfk s.length ((s.drop pos).drop (zmm (s.drop pos)).2)).map (· + 1):=by
   rw[zfk,if_neg hd]
  (repeat'(first|(refine gq4 ?_;try with_reducible exact True.intro)|(refine zW (fun h=>?_) (fun h=>?_)<;>(try rw[h]))|((with_reducible refine And.intro ?_ ?_);focus(first|omega|rfl|decide))));all_goals first
   | (
    refine zu hl ?_
    have hb:badF (zsc (s.drop pos)).1=true:=by
     simp only[badF];exact zos
    rw[goDec_bad]at hb
    have:zfk (s.length+1) (s.drop pos)=none:=by rw[hcount,if_pos (by simpa using hb)]
    have h0:ziQ s=0:=by simp[ziQ,hr,this]
    rw[h0]at hK;exact hK)
   | skip
  all_goals
   have hb:badF (zsc (s.drop pos)).1=false:=by
    simp only[badF];exact zos
   obtain⟨g1,g2,g3⟩:=goDec_good hb
   rw[zaW (by omega) (by omega)]
   refine zaK.to (pos+(zsc (s.drop pos)).2) (by omega) (by simp at hw;omega) ⟨cnt+1,rfl,rfl,by simp at hw;omega,by omega,?_⟩
   rw[hr,hcount,if_neg (by simp[g2,g3]),g1,List.drop_drop,zru s.length (s.length+1) _ (by simp at *;omega) (by simp;omega)]
   cases zfk (s.length+1) (List.drop (pos+(zmm (s.drop pos)).2) s)<;>simp
   omega
 ·rename_i hlt;have e:s.drop pos=[]:=List.drop_eq_nil_of_le (by omega);have hcnt:zfk (s.length+1) s=some cnt:=by rw[hr,e];simp[zfk]
  (refine gq2 @zy ?_;try with_reducible exact True.intro);refine zW (fun h=>?_) (fun h=>?_);all_goals(try(refine gq2 (zd h @zy) ?_;try with_reducible exact True.intro))
  ·refine zu hl ?_;have h0:ziQ s=0:=by simp[ziQ,hcnt];simp at h;omega
   rw[h0]at hK;exact hK
  ·refine zu hl ?_;have h0:ziQ s=cnt:=by simp[ziQ,hcnt];simp at h;omega
   rw[h0]at hK;exact hK
theorem c_Name {s:List UInt8}(hs:s.length<=1073741824){K:KT}(hK:K (.d (.bool (zev s))) σ):zP zoz [.d (.str s)] σ K:=by
 refine zeA e_op_Name fun hl=>?_;(simp only[S_op_Name];refine gq2 @zy ?_;try with_reducible exact True.intro);refine c_Runes hs ?_;(refine gq2 @zy ?_;try with_reducible exact True.intro);refine zu hl ?_;have:decide ((ziQ s:Int)>0)=zev s:=by simp[zev]
 rw[this];exact hK
variable {σ:List AObj}
theorem c_rsize {c:Nat}{K:KT}(hK:K (.d (.int .i64 (znY c))) σ):zP zta [.d (.int .u8 c)] σ K:=by
 refine zeA e_r06_size fun hl=>?_;simp only[zzp,iN,bT,bF,eN];(repeat'(first|(refine gq4 ?_;try with_reducible exact True.intro)|(refine zW (fun h=>?_) (fun h=>?_)<;>(try rw[h]))|((with_reducible refine And.intro ?_ ?_);focus(first|omega|rfl|decide))));all_goals refine zu hl ?_
 all_goals(try simp only[decide_eq_true_eq,decide_eq_false_iff_not,beq_iff_eq,beq_eq_false_iff_ne,bne_iff_ne,ne_eq,Bool.not_eq_true',Bool.not_eq_false',bne_eq_false_iff_eq]at *)
 all_goals
  simp only[zcm,dmT,dm,dm1]
  have e:∀z:Nat,znY c=z->K (.d (.int .i64 z)) σ:=fun z hz=>by rw[← hz];exact hK
  first
  | exact e 0 (by unfold znY;rw[if_neg (by omega),if_neg (by omega),if_neg (by omega),if_neg (by omega)])
  | exact e 1 (by unfold znY;rw[if_pos (by omega)])
  | exact e 2 (by unfold znY;rw[if_neg (by omega),if_pos (by omega)])
  | exact e 3 (by unfold znY;rw[if_neg (by omega),if_neg (by omega),if_pos (by omega)])
  | exact e 4 (by unfold znY;rw[if_neg (by omega),if_neg (by omega),if_neg (by omega),if_pos (by omega)])
theorem mask_eq (z:Nat)(hz:z=2∨z=3∨z=4)(b:Nat)(hb:b<256) :
  IntKind.i64.wrap ↑(BitVec.ofInt IntKind.i64.bits (b:Int) &&& BitVec.ofInt IntKind.i64.bits (IntKind.i64.wrap (IntKind.i64.wrap (1*2 ^ (min (IntKind.i64.wrap (7-(z:Int))).toNat IntKind.i64.bits))-1))).toNat=((b % 2 ^ (7-z):Nat):Int):=by
 have h0:(BitVec.ofInt 64 (b:Int)).toNat=b:=by simp;omega
 have key:∀m:Nat,(m=3∨m=4∨m=5)->IntKind.i64.wrap ↑(BitVec.ofInt 64 (b:Int) &&& BitVec.ofInt 64 ((2:Int) ^ m-1)).toNat=((b % 2 ^ m:Nat):Int):=fun m hm=>by
  have:(BitVec.ofInt 64 (b:Int) &&& BitVec.ofInt 64 ((2:Int) ^ m-1)).toNat=b % 2 ^ m:=by
   rw[BitVec.toNat_and,h0];rcases hm with rfl|rfl|rfl
   ·exact Nat.and_two_pow_sub_one_eq_mod b 3
   ·exact Nat.and_two_pow_sub_one_eq_mod b 4
   ·exact Nat.and_two_pow_sub_one_eq_mod b 5
  rw[this];have:b % 2 ^ m<256:=Nat.lt_of_le_of_lt (Nat.mod_le _ _) hb;exact zaW (by omega) (by omega)
 rcases hz with rfl|rfl|rfl
 ·exact key 5 (by omega)
 ·exact key 4 (by omega)
 ·exact key 3 (by omega)
theorem partF_lt (s:List UInt8)(z:Nat)(hz:2<=z):∀i,zit s z i<32*64 ^ i
 | 0=>by
  simp only[zit];have:2 ^ (7-z)<=2 ^ 5:=Nat.pow_le_pow_right (by omega) (by omega);have:=Nat.mod_lt (at8 s 0) (y:=2 ^ (7-z)) (Nat.pos_of_ne_zero (by simp));omega
 | i+1=>by
  simp only[zit,Nat.pow_succ];have:=partF_lt s z hz i;omega
theorem at8_some {s:List UInt8}{i:Nat}(h:i<s.length):s[i]? = some s[i]/\(s[i].toNat:Int)=(at8 s i:Int):=by
 have:s[i]? = some s[i]:=List.getElem?_eq_getElem h;exact⟨this,by simp[at8,this]⟩
theorem gq6 {A P Q:Prop}(a:A)(h:Q)(e:A->P=Q:=by intro a;simp -dsimp only[↓zlH,↓zbS,↓zee,↓zlI,↓zlz,↓zlx,↓zlA,↓zly,↓zej,↓zef,↓zek,↓zeg,↓zlB,↓zeb,↓zel,↓zeh,↓zem,↓zei,↓zlw,↓zlF,↓zea,↓zep,↓zlo,↓zln,↓zlu,iN,bT,bF,eN,↓zes,↓unC,↓zaC,↓zai,↓zaj,↓zav,↓zaX,↓zah,↓zgB,↓zaw,↓zbf,↓zad,↓ze,↓zj,↓zaR,↓zc,↓zaV,↓zN,↓zbT,↓zcl,↓zf,↓zF,↓zp,↓zM,↓zaB,↓zgI,↓zhI,↓zbc,↓zby,↓zcf,↓zcA,↓zdp,↓zJ,↓zbb,↓zak,↓zO,↓zaU,zhr,zdV,zdD,unA,zgy,bnd,ziT,zaO,zL,zid,dm,dm1,zH,zaF,zjX,zjW,keepO,Q0,Q1,Q2,Q3,Q4,Q5,zba,zA,zB,zY,zab,Q6,Q7,Q8,Q9,Q10,Q11,Q12,Q13,Q14,Nat.reduceAdd,Q15,Int.reduceToNat,Q16,Q17,Q18,Q19,Q20,reduceIte,Q21,Q22,zy,rep,zaq,zhX,toD,zaD,Q23,Q24,Q25,Q26,Q27,Q28,Nat.reduceLeDiff,Q29,Nat.reduceSub,Q30,Q31,Q32,sc,Q33,Q34,Q35,a];rfl):P:=(e a).mpr h
theorem c_rune1 {s:List UInt8}(hs:s.length<=1073741824)(hne:s≠[]){K:KT}(hK:K (.tup [.d (.int .i64 (zmm s).1),.d (.int .i64 (zmm s).2)]) σ):zP zqY [.d (.str s)] σ K:=by
 refine zeA e_r06_rune1 fun hl=>?_;have hpos:0<s.length:=List.length_pos_iff.2 hne;obtain⟨g1,g2⟩:=at8_some hpos;have hb0:=zxc s 0;(simp only[zxs];refine gq2 (zd @zy (zd g1 g2)) ?_;try with_reducible exact True.intro);refine⟨by omega,c_rsize ?_⟩;have hz4:znY (at8 s 0)=0∨znY (at8 s 0)=1∨znY (at8 s 0)=2∨znY (at8 s 0)=3∨znY (at8 s 0)=4:=by
  unfold znY;split<;>(try split)<;>(try split)<;>(try split)<;>omega
 obtain⟨z,hz⟩:∃z,z=znY (at8 s 0):=⟨_,rfl⟩;rw[← hz]at hz4 ⊢;have bad:z=0∨z>s.length->K (.tup [.d (.int .i64 0),.d (.int .i64 0)]) σ:=fun h=>by
  have:zmm s=(0,0):=by simp only[zmm,← hz];rw[if_pos h]
  rw[this]at hK;exact hK
 (refine gq2 @zy ?_;try with_reducible exact True.intro);refine zW (fun h=>?_) (fun h=>?_);all_goals(try(refine gq2 (zd h (zd @zy (zd g1 g2))) ?_;try with_reducible exact True.intro))
 ·refine zu hl ?_;exact bad (.inl (by exact zos))
 have hz0:z≠0:=by exact zos
 refine zW (fun h=>?_) (fun h=>?_);all_goals(try(refine gq2 (zd h (zd @zy (zd g1 g2))) ?_;try with_reducible exact True.intro))
 ·refine zu hl ?_;exact bad (.inr (by exact zos))
 have hzl:z<=s.length:=by exact zos
 have hnb:¬(z=0∨z>s.length):=by omega
 refine zW (fun h=>?_) (fun h=>?_);all_goals(try(refine gq2 (zd h (zd @zy (zd g1 g2))) ?_;try with_reducible exact True.intro))
 ·have h1:z=1:=by exact zos
  refine⟨by omega,?_⟩;refine zu hl ?_;have:zmm s=(at8 s 0,1):=by simp only[zmm,← hz];rw[if_neg hnb,if_pos h1]
  rw[this]at hK;simp only[zcm,dmT,dm,dm1,List.map_cons,List.map_nil];rw[zaW (by omega) (by omega)];exact hK
 have hz2:z=2∨z=3∨z=4:=by exact zos
 have h1:¬z=1:=by omega
 refine⟨by omega,?_⟩;have hw:IntKind.i64.wrap (at8 s 0:Int)=(at8 s 0:Int):=zaW (by omega) (by omega);have hsh:(0:Int)<=IntKind.i64.wrap (7-(z:Int)):=by rw[zaW (by omega) (by omega)];omega
 refine⟨hsh,?_⟩;rw[hw,mask_eq z hz2 _ hb0];refine zn z (fun k vs s'=>s'=σ/\k+1<=z/\vs=[.d (.int .i64 (zit s z k)),.d (.int .i64 (k+1:Nat))]/\∀i,i<k+1→1<=i->ztF s i=true) ⟨rfl,by omega,rfl,fun i h1 h2=>by omega⟩ ?_;rintro k vs s' hk ⟨rfl,hk1,rfl,hcont⟩;have hpl:=partF_lt s z (by omega) k;have hpow:64 ^ k<=64 ^ 3:=Nat.pow_le_pow_right (by omega) (by omega);(refine gq2 @zy ?_;try with_reducible exact True.intro);have fail:(¬ ∀i,i<z→1<=i->ztF s i=true)->K (.tup [.d (.int .i64 0),.d (.int .i64 0)]) s':=fun h=>by
  have:zmm s=(0,0):=by simp only[zmm,← hz];rw[if_neg hnb,if_neg h1,if_neg h]
  rw[this]at hK;exact hK
 refine zW (fun h=>?_) (fun h=>?_)
 ·have hkz:k+1<z:=by exact zos
  obtain⟨f1,f2⟩:=at8_some (s:=s) (i:=k+1) (by omega);have hb:=zxc s (k+1);repeat' first
   | (refine gq6 (zd f1 f2) ?_;try with_reducible exact True.intro)
   | (refine zW (fun h=>?_) (fun h=>?_)<;>(try rw[h]))
   | ((with_reducible refine And.intro ?_ ?_);focus(first|omega|rfl|decide))
  ·refine zu hl ?_;exact fail fun h'=>by
    have:=h' (k+1) hkz (by omega);simp only[ztF]at this;exact zos
  ·refine zu hl ?_;exact fail fun h'=>by
    have:=h' (k+1) hkz (by omega);simp only[ztF]at this;exact zos
  have hv:IntKind.i64.wrap (IntKind.i64.wrap (↑(zit s z k)*64)+(IntKind.i64.wrap ↑(at8 s (k+1))).tmod 64)=((zit s z (k+1):Nat):Int):=by
   have hp2:zit s z k<32*64 ^ 3:=by omega
   have e1:IntKind.i64.wrap ((zit s z k:Int)*64)=(zit s z k:Int)*64:=zaW (by omega) (by omega);have e2:IntKind.i64.wrap (at8 s (k+1):Int)=(at8 s (k+1):Int):=zaW (by omega) (by omega);have e3:((at8 s (k+1):Int)).tmod 64=((at8 s (k+1) % 64:Nat):Int):=by rw[Int.tmod_eq_emod_of_nonneg (by omega)];rfl
   rw[e1,e2,e3,zaW (by omega) (by omega)];simp only[zit];omega
  have hw2:IntKind.i64.wrap (((k+1:Nat):Int)+1)=((k+1+1:Nat):Int):=by rw[zaW (by omega) (by omega)];rfl
  rw[hv,hw2];refine zaK.next (by omega) ⟨rfl,by omega,rfl,fun i hi1 hi2=>?_⟩;by_cases hi:i<k+1
  ·exact hcont i hi hi2
  ·obtain rfl:i=k+1:=by omega
   simp only[ztF];exact zos
 ·have hkz:k+1=z:=by exact zos
  have hall:∀i,i<z→1<=i->ztF s i=true:=by rw[← hkz];exact hcont
  have hdec:zmm s=if zit s z k<zhh z∨zit s z k>1114111∨(55296<=zit s z k/\zit s z k<57344)then(0,0)else(zit s z k,z):=by
   have e:z-1=k:=by omega
   simp only[zmm,← hz];rw[if_neg hnb,if_neg h1,if_pos hall,e]
  have hget:∃l:Nat,l=zhh z/\([[D.int .i64 0],[D.int .i64 0],[D.int .i64 128],[D.int .i64 2048],[D.int .i64 65536]]:List (List D))[z]? = some [D.int .i64 l]:=by
   rcases hz2 with rfl|rfl|rfl<;>exact⟨_,rfl,rfl⟩
  obtain⟨l,hl1,hl2⟩:=hget;rw[← hl1]at hdec;repeat' first
   | (refine gq6 hl2 ?_;try with_reducible exact True.intro)
   | (refine zW (fun h=>?_) (fun h=>?_)<;>(try rw[h]))
   | ((with_reducible refine And.intro ?_ ?_);focus(first|omega|rfl|decide))
  all_goals refine zu hl ?_
  all_goals(try simp only[decide_eq_true_eq,decide_eq_false_iff_not,beq_iff_eq,beq_eq_false_iff_ne,bne_iff_ne,ne_eq,Bool.not_eq_true',Bool.not_eq_false',bne_eq_false_iff_eq]at *)
  all_goals simp only[zcm,dmT,dm,dm1,List.map_cons,List.map_nil]
  all_goals first
   | (rw[if_pos (by omega)]at hdec;rw[hdec]at hK;exact hK)
   | (rw[if_neg (by omega)]at hdec;rw[hdec]at hK;exact hK)
theorem badF_ref (v:Nat):badF v=decide (v<33∨127<=v/\v<160∨v=47∨v=65533):=by
 simp only[badF];congr 1;apply propext;omega
theorem c_rRunes {s:List UInt8}(hs:s.length<=1073741824){K:KT}(hK:K (.d (.int .i64 (ziQ s))) σ):zP zqZ [.d (.str s)] σ K:=by
 refine zeA e_r06_Runes fun hl=>?_;simp only[zxt,iN,bT,bF,eN];refine zn s.length (fun pos vs s'=>∃(cnt:Nat) (t:List UInt8),t.length+pos=s.length/\vs=[.d (.str t),.d (.int .i64 cnt)]/\s'=σ/\cnt<=pos/\cnt<=16/\zfk (s.length+1) s=(zfk (s.length+1) t).map (· + cnt)) ⟨0,s,rfl,rfl,rfl,by omega,by omega,by simp⟩ ?_;rintro pos vs s' hp ⟨cnt,t,hlen,rfl,rfl,hc,hc16,hr⟩;(refine gq2 @zy ?_;try with_reducible exact True.intro);refine zW (fun h=>?_) (fun h=>?_)
 ·have ht:t≠[]:=by rintro rfl;simp at h
  have htl:0<t.length:=List.length_pos_iff.2 ht;have hw2:=zmG t;have hcount:zfk (s.length+1) t=if (zmm t).2=0∨badF (zmm t).1=true then none else(zfk s.length (t.drop (zmm t).2)).map (· + 1):=by
   rw[zfk,if_neg ht]
  refine c_rune1 (by omega) ht ?_;have stop:(zmm t).2=0∨badF (zmm t).1=true∨cnt=16->K (.d (.int .i64 0)) s':=fun hb=>by
   have h0:ziQ s=0:=by
    by_cases hq:(zmm t).2=0∨badF (zmm t).1=true
    ·simp[ziQ,hr,hcount,if_pos hq]
    ·have hcn:cnt=16:=by
      rcases hb with hb|hb|hb
      ·exact absurd (.inl hb) hq
      ·exact absurd (.inr hb) hq
      ·exact hb
     simp only[ziQ,hr,hcount,if_neg hq];cases zfk s.length (t.drop (zmm t).2)with
     | none=>simp
     | some m=>simp;omega
   rw[h0]at hK;exact hK
  (repeat'(first|(refine gq4 ?_;try with_reducible exact True.intro)|(refine zW (fun h=>?_) (fun h=>?_)<;>(try rw[h]))|((with_reducible refine And.intro ?_ ?_);focus(first|omega|rfl|decide))));all_goals first
   | (
    refine zu hl ?_
    refine stop ?_
    rw[badF_ref,decide_eq_true_eq]
    exact zos)
   | skip
  all_goals
   have hb:badF (zmm t).1=false:=by
    rw[badF_ref,decide_eq_false_iff_not];exact zos
   have h2:(zmm t).2≠0:=by exact zos
   have hcl:cnt<16:=by exact zos
   rw[zaW (by omega) (by omega)]
   refine zaK.to (pos+(zmm t).2) (by omega) (by omega) ⟨cnt+1,t.drop (zmm t).2,by simp;omega,?_,rfl,by omega,by omega,?_⟩
   ·simp
   ·rw[hr,hcount,if_neg (by simp[h2,hb]),zru s.length (s.length+1) _ (by simp;omega) (by simp;omega)]
    cases zfk (s.length+1) (t.drop (zmm t).2)<;>simp
    omega
 ·refine zu hl ?_;have ht:t=[]:=by
   have:¬0<t.length:=by exact zos
   exact List.length_eq_zero_iff.1 (by omega)
  have h0:ziQ s=cnt:=by
   simp only[ziQ,hr,ht];simp[zfk];omega
  rw[h0]at hK;exact hK
theorem c_rName {s:List UInt8}(hs:s.length<=1073741824){K:KT}(hK:K (.d (.bool (zev s))) σ):zP zmt [.d (.str s)] σ K:=by
 refine zeA e_r06_Name fun hl=>?_;simp only[zzr,iN,bT,bF,eN];(refine gq2 @zy ?_;try with_reducible exact True.intro);refine c_rRunes hs ?_;(refine gq2 @zy ?_;try with_reducible exact True.intro);refine zu hl ?_;have:decide ((ziQ s:Int)>0)=zev s:=by simp[zev]
 rw[this];exact hK
variable {σ:List AObj}
theorem c_Check_1 {r:List UInt8}{K:KT}(hK:K (.d (.bool (decide (r.length>64)))) σ):zP zlt [.d (.slice (bcs r))] σ K:=by
 refine zeA e_op_Check_1 fun hl=>?_;simp only[zut,iN,bT,bF,eN];(refine gq2 @zy ?_;try with_reducible exact True.intro);refine zu hl ?_;have:decide (((bcs r).length:Int)>64)=decide (r.length>64):=by simp[bcs];omega
 rw[this];exact hK
theorem gq7 {A P Q:Prop}(a:A)(h:Q)(e:A->P=Q:=by intro a;simp -dsimp only[↓zlH,↓zbS,↓zee,↓zlI,↓zlz,↓zlx,↓zlA,↓zly,↓zej,↓zef,↓zek,↓zeg,↓zlB,↓zeb,↓zel,↓zeh,↓zem,↓zei,↓zlw,↓zlF,↓zea,↓zep,↓zlo,↓zln,↓zlu,iN,bT,bF,eN,↓zes,↓unC,↓zaC,↓zai,↓zaj,↓zav,↓zaX,↓zah,↓zgB,↓zaw,↓zbf,↓zad,↓ze,↓zj,↓zaR,↓zc,↓zaV,↓zN,↓zbT,↓zcl,↓zf,↓zF,↓zp,↓zM,↓zaB,↓zgI,↓zhI,↓zbc,↓zby,↓zcf,↓zcA,↓zdp,↓zJ,↓zbb,↓zak,↓zO,↓zaU,zhr,zdV,zdD,unA,zgy,bnd,ziT,zaO,zL,zid,dm,dm1,zH,zaF,zjX,zjW,keepO,Q0,Q1,Q2,Q3,Q4,Q5,zba,zA,zB,zY,zab,Q6,Q7,Q8,Q9,Q10,Q11,Q12,Q13,Q14,Nat.reduceAdd,Q15,Int.reduceToNat,Q16,Q17,Q18,Q19,Q20,reduceIte,Q21,Q22,dmT,zcm,a];rfl):P:=(e a).mpr h
theorem zoQ {a:List (List UInt8)}(ha:a.length<=1073741824){K:KT}(hK:K (.d (.bool (a.any fun r=>decide (r.length>64)))) σ) :
  zP zbk [.d (.slice (zdU a)),.fn (.func zlt) [] []] σ K:=by
 refine zeq zfd fun hl=>?_;simp only[zcs,iN,bT,bF,eN];(refine gq2 @zy ?_;try with_reducible exact True.intro);refine zeq zfD fun hl=>?_;simp only[zcT,iN,bT,bF,eN];(refine gq2 @zy ?_;try with_reducible exact True.intro);refine zn a.length (fun k vs s=>vs=[.d (.int .i64 k)]/\s=σ/\∀r∈a.take k,¬r.length>64) ⟨rfl,rfl,by simp⟩ ?_;rintro k vs s hk ⟨rfl,rfl,htk⟩;(refine gq2 @zy ?_;try with_reducible exact True.intro);refine zW (fun h=>?_) (fun h=>?_)
 ·have hka:k<a.length:=by exact zos
  have hx:a[k]? = some a[k]:=by simp[hka]
  (refine gq2 (zd (zgD hx) @zy) ?_;try with_reducible exact True.intro);refine And.intro (by omega) (c_Check_1 ?_);(refine gq2 @zy ?_;try with_reducible exact True.intro);refine zW (fun h=>?_) (fun h=>?_)
  ·refine zu hl ?_;(refine gq7 @zy ?_;try with_reducible exact True.intro);refine zu hl ?_;have e1:decide ((k:Int)≥0)=true:=by simp
   have e2:(a.any fun r=>decide (r.length>64))=true:=by
    rw[List.any_eq_true];exact⟨a[k],List.getElem_mem _,h⟩
   rw[e2]at hK;simp only[zcm,dmT,dm,dm1];rw[e1];exact hK
  ·(refine gq2 @zy ?_;try with_reducible exact True.intro);refine zaK.next hka ⟨?_,rfl,fun r hr=>?_⟩
   ·rw[zaW (by omega) (by omega)];rfl
   ·rw[List.take_add_one,hx]at hr;rcases List.mem_append.1 hr with hr|hr
    ·exact htk r hr
    ·have:r=a[k]:=by simpa using hr
     subst this;simpa using h
 ·refine zu hl ?_;(refine gq7 @zy ?_;try with_reducible exact True.intro);refine zu hl ?_;have e2:(a.any fun r=>decide (r.length>64))=false:=by
   rw[List.any_eq_false];intro r hr;have hk':k=a.length:=by exact zos
   rw[hk',List.take_length]at htk;simpa using htk r hr
  rw[e2]at hK;exact hK
theorem gq8 {P Q:Prop}(h:Q)(e:P=Q:=by simp -dsimp only[↓zlH,↓zbS,↓zee,↓zlI,↓zlz,↓zlx,↓zlA,↓zly,↓zej,↓zef,↓zek,↓zeg,↓zlB,↓zeb,↓zel,↓zeh,↓zem,↓zei,↓zlw,↓zlF,↓zea,↓zep,↓zlo,↓zln,↓zlu,iN,bT,bF,eN,↓zes,↓unC,↓zaC,↓zai,↓zaj,↓zav,↓zaX,↓zah,↓zgB,↓zaw,↓zbf,↓zad,↓ze,↓zj,↓zaR,↓zc,↓zaV,↓zN,↓zbT,↓zcl,↓zf,↓zF,↓zp,↓zM,↓zaB,↓zgI,↓zhI,↓zbc,↓zby,↓zcf,↓zcA,↓zdp,↓zJ,↓zbb,↓zak,↓zO,↓zaU,zhr,zdV,zdD,unA,zgy,bnd,ziT,zaO,zL,zid,dm,dm1,zH,zaF,zjX,zjW,keepO,Q0,Q1,Q2,Q3,Q4,Q5,zba,zA,zB,zY,zab,Q6,Q7,Q8,Q9,Q10,Q11,Q12,Q13,Q14,Nat.reduceAdd,Q15,Int.reduceToNat,Q16,Q17,Q18,Q19,Q20,reduceIte,Q21,Q22,zy,rep,zaq,zhX,toD,zaD,Q23,Q24,Q25,Q26,Q27,Q28,Nat.reduceLeDiff,Q29,Nat.reduceSub,Q30,Q31,Q32,sc,Q33,Q34,Q35,Bool.and_false,Bool.and_self,Bool.false_and,Bool.not_false,Bool.not_true,Bool.true_and,Int.toNat_natCast,Int.toNat_zero,List.drop_zero,List.length_map,List.length_nil,List.nil_append,List.take_length,Nat.sub_zero,Nat.zero_add,Option.isSome_none,Option.isSome_some,Option.map_none,Option.map_some,zam,beq_self_eq_true,bne_self_eq_false,zck,zhO,zag,zdh,zsb,zch,zou,opA,opD,zfC,zgt,zay];rfl):P:=e.mpr h
theorem zxa {o:TOp}(ht:o.topic.length<=1073741824)(hg:o.group.length<=1073741824)(hr:o.recs.length<=1073741824){K:KT}(hK:K (.d (.int .i64 (zaN zev o))) σ):zP zmu [opA o] σ K:=by
 refine zeA e_op_Check fun hl=>?_;simp only[zzv,iN,bT,bF,eN,zl2,opA];(refine gq4 ?_;try with_reducible exact True.intro);refine c_only (o:=o) ?_;have honly:(zor o).recs.length<=1073741824:=by unfold zor noOp;split<;>(try split)<;>(try split)<;>(try split)<;>simp<;>omega
 (refine gq8 ?_;try with_reducible exact True.intro);repeat' first
  | (refine gq4 ?_;try with_reducible exact True.intro)
  | refine c_Same (a:=o) (b:=zor o) hr honly ?_
  | refine c_Name ht ?_
  | refine c_Name hg ?_
  | refine zoQ hr ?_
  | (refine zW (fun h=>?_) (fun h=>?_)<;>(try rw[h]))
  | ((with_reducible refine And.intro ?_ ?_);focus(first|omega|rfl|decide))
 all_goals refine zu hl ?_
 all_goals(try simp only[decide_eq_true_eq,decide_eq_false_iff_not,beq_iff_eq,beq_eq_false_iff_ne,bne_iff_ne,ne_eq,Bool.not_eq_true',Bool.not_eq_false',bne_eq_false_iff_eq]at *)
 all_goals
  simp only[zcm,dmT,dm,dm1]
  have e:∀z:Int,zaN zev o=z->K (.d (.int .i64 z)) σ:=fun z hz=>by rw[← hz];exact hK
  clear hK
  apply e
  first
  | grind [zaN]
  | skip
variable {σ:List AObj}
def zoG (k:Int):Bool:=decide (1<=k/\k<=4)
def zsg (k:Int):Bool:=decide (k=3)
def fOff (k:Int):Bool:=decide (k=3∨k=4)
def zAh (k:Int):Bool:=decide (k=2)
theorem c_fields {k:Int}{K:KT}(hK:K (.tup [.d (.bool (zoG k)),.d (.bool (zsg k)),.d (.bool (fOff k)),.d (.bool (zAh k))]) σ):zP zls [.d (.int .i64 k)] σ K:=by
 refine zeA e_r06_fields fun hl=>?_;simp only[zur,iN,bT,bF,eN];(repeat'(first|(refine gq4 ?_;try with_reducible exact True.intro)|(refine zW (fun h=>?_) (fun h=>?_)<;>(try rw[h]))|((with_reducible refine And.intro ?_ ?_);focus(first|omega|rfl|decide))));all_goals refine zu hl ?_
 all_goals(try simp only[decide_eq_true_eq,decide_eq_false_iff_not,beq_iff_eq,beq_eq_false_iff_ne,bne_iff_ne,ne_eq,Bool.not_eq_true',Bool.not_eq_false',bne_eq_false_iff_eq]at *)
 all_goals
  simp only[zcm,dmT,dm,dm1,List.map_cons,List.map_nil]
  have e:∀a b c d:Bool,zoG k=a->zsg k=b->fOff k=c->zAh k=d->K (.tup [.d (.bool a),.d (.bool b),.d (.bool c),.d (.bool d)]) σ:=fun a b c d h1 h2 h3 h4=>by rw[← h1,← h2,← h3,← h4];exact hK
  clear hK
  apply e<;>simp[zoG,zsg,fOff,zAh]<;>omega
theorem onlyF_iff (o:TOp):o=zor o↔(zoG o.kind=false->o.topic=[])/\(zsg o.kind=false->o.group=[])/\(fOff o.kind=false->o.offset=0)/\(zAh o.kind=false->o.recs=[]):=by
 obtain⟨k,t,g,f,r⟩:=o;simp only[zor,noOp,zoG,zsg,fOff,zAh,decide_eq_false_iff_not];by_cases h1:k=1
 ·subst h1;simp
 by_cases h2:k=2
 ·subst h2;simp
 by_cases h3:k=3
 ·subst h3;simp
 by_cases h4:k=4
 ·subst h4;simp
 ·have:¬(1<=k/\k<=4):=by omega
  simp[h1,h2,h3,h4,this]
set_option maxHeartbeats 2000000 in
theorem zAy {σ:List AObj}{o:TOp}(ht:o.topic.length<=1073741824)(hg:o.group.length<=1073741824)(hr:o.recs.length<=1073741824){K:KT}(hK:K (.d (.int .i64 (zaN zev o))) σ):zP zkA [opA o] σ K:=by
 refine zeA e_r06_Check fun hl=>?_;simp only[zxu,iN,bT,bF,eN,opA];(refine gq4 ?_;try with_reducible exact True.intro);refine c_fields ?_;have fin:∀z:Int,zaN zev o=z->K (.d (.int .i64 z)) σ:=fun z hz=>by rw[← hz];exact hK
 have honly:=onlyF_iff o;have hkind:zoG o.kind=true->ziI o=true:=by simp[zoG,ziI];omega
 have hk1:zoG o.kind=true↔(ziI o=true/\o.kind≠0):=by simp[zoG,ziI];omega
 have hk2:zsg o.kind=true↔o.kind=3:=by simp[zsg]
 have hk3:zAh o.kind=true↔o.kind=2:=by simp[zAh]
 have hk4:ziI o=true↔(0<=o.kind/\o.kind<=4):=by simp[ziI]
 have hnil:o.recs=[]↔o.recs.length=0:=List.length_eq_zero_iff.symm;clear hK;repeat' first
  | (refine gq4 ?_;try with_reducible exact True.intro)
  | refine c_rName ht ?_
  | refine c_rName hg ?_
  | (refine zW (fun h=>?_) (fun h=>?_)<;>(try rw[h]))
  | ((with_reducible refine And.intro ?_ ?_);focus(first|omega|rfl|decide))
 all_goals first
  | (
   refine zu hl ?_
   (try simp only[decide_eq_true_eq,decide_eq_false_iff_not,beq_iff_eq,beq_eq_false_iff_ne,bne_iff_ne,ne_eq,Bool.not_eq_true',Bool.not_eq_false',bne_eq_false_iff_eq]at *)
   simp only[zcm,dmT,dm,dm1]
   apply fin
   grind [zaN])
  | skip
 all_goals
  refine zn o.recs.length (fun k vs s=>vs=[.d (.int .i64 k)]/\s=σ++[.box [.d (.int .i64 o.kind),.d (.str o.topic),.d (.str o.group),.d (.int .i64 o.offset),.d (.slice (zdU o.recs))]]/\∀r∈o.recs.take k,¬r.length>64) ⟨rfl,rfl,by simp⟩ ?_
  rintro k vs s hk ⟨rfl,rfl,htk⟩
  (refine gq2 @zy ?_;try with_reducible exact True.intro)
  refine zW (fun h=>?_) (fun h=>?_)
  ·have hka:k<o.recs.length:=by exact zos
   have hx:o.recs[k]? = some o.recs[k]:=by simp[hka]
   have hmem:o.recs[k]∈o.recs:=List.getElem_mem _
   have hbl:(bcs o.recs[k]).length=o.recs[k].length:=by simp[bcs]
   (refine gq2 (zd (zgD hx) @zy) ?_;try with_reducible exact True.intro)
   refine And.intro (by omega) ?_
   refine zW (fun h=>?_) (fun h=>?_)
   ·have hany:(o.recs.any fun r=>decide (r.length>64))=true:=by
     rw[List.any_eq_true];exact⟨_,hmem,by exact zos⟩
    refine zu hl ?_
    (try simp only[decide_eq_true_eq,decide_eq_false_iff_not,beq_iff_eq,beq_eq_false_iff_ne,bne_iff_ne,ne_eq,Bool.not_eq_true',Bool.not_eq_false',bne_eq_false_iff_eq]at *)
    simp only[zcm,dmT,dm,dm1]
    apply fin
    grind [zaN]
   ·(refine gq2 @zy ?_;try with_reducible exact True.intro)
    refine zaK.next hka ⟨?_,rfl,fun r hr=>?_⟩
    ·rw[zaW (by omega) (by omega)];rfl
    ·rw[List.take_add_one,hx]at hr
     rcases List.mem_append.1 hr with hr|hr
     ·exact htk r hr
     ·have:r=o.recs[k]:=by simpa using hr
      subst this
      exact zos
  ·have hany:(o.recs.any fun r=>decide (r.length>64))=false:=by
    rw[List.any_eq_false];intro r hr;have hk':k=o.recs.length:=by exact zos
    rw[hk',List.take_length]at htk;simpa using htk r hr
   clear htk
   (repeat'(first|(refine gq4 ?_;try with_reducible exact True.intro)|(refine zW (fun h=>?_) (fun h=>?_)<;>(try rw[h]))|((with_reducible refine And.intro ?_ ?_);focus(first|omega|rfl|decide))))
   all_goals
    refine zu hl ?_
    (try simp only[decide_eq_true_eq,decide_eq_false_iff_not,beq_iff_eq,beq_eq_false_iff_ne,bne_iff_ne,ne_eq,Bool.not_eq_true',Bool.not_eq_false',bne_eq_false_iff_eq]at *)
    simp only[zcm,dmT,dm,dm1]
    apply fin
    grind [zaN]
end Go.Proofs.YtdgcepphjnoalaaGreat
