/- All conditions. -/
import Derived.Test.YtdgcepphjnoalaaGreatSh1
import Derived.Test.YtdgcepphjnoalaaGreatSh2
import Derived.Test.YtdgcepphjnoalaaGreatSh3
import Derived.Test.YtdgcepphjnoalaaGreatSh4
import Derived.Test.YtdgcepphjnoalaaGreatSh5
import Derived.Test.YtdgcepphjnoalaaGreatAwLoop
set_option linter.all false
set_option maxRecDepth 100000

/- Contracts: bytes.Clone. -/
namespace Go.Proofs.YtdgcepphjnoalaaGreat
open Go.AW
variable {σ:List AObj}
theorem zjW {es:List (List D)}{K:KT}(he:∀e∈es,e.length=1)(hn:es.length<=1073741824)(hK:K (.own σ.length es) (σ++[.tok 1 es.length])):zP zcT [.d (.slice es)] σ K:=by
 refine ACall.tok he ?_ hK;refine zbM zns.is rfl (fun s=>if s.length=σ.length then []else [σ.length]) fun hl _=>zns.goes ?_;simp only[znB,iN,bT,bF,eN,zaB,zgu];cases es with
 | nil=>
  refine⟨?_,?_⟩
  ·simp only[zaC,zak,zH]
   exact zno (by simp) hl rfl (by simp)
  ·simp only[zaC,zO,zH,zL,rep,zp,zhV,zaD,zM,zhY]
   refine⟨by simp,by simp,by simp,?_⟩
   exact zmz hl (by simp) (by simp)
 | cons e es=>
  simp only[zaC,zO,zH,zL,rep,zp,zhV,zaD,zM,zhY]
  refine⟨he,by simp,by simp at hn ⊢;omega,?_⟩
  exact zmz hl (by simp) (by simp)
variable {σ:List AObj}
theorem zAE {es:List (List D)}{K:KT}(he:∀e∈es,e.length=1)(hK:K (.exact es) σ):zP zeR [.d (.slice es)] σ K:=by
 refine zbM zhJ.is rfl (fun _=>[]) fun hl _=>zhJ.goes ?_;simp only[zhR,iN,bT,bF,eN,gF,gT,gFm,gTm,fl,nfl,gFl,gTl,il,cp,orC,anC,cA,bP,z1,z2,m1,List.map_cons,List.map_nil,zah,zgu,zgy,bnd,ziP,zH];refine⟨rfl,trivial,by omega,by omega,by omega,he,?_⟩;simp only[zsR,zAS,getL,zvU,zck,zeG];simpa using ⟨hl,hK⟩
theorem znx {a b:List UInt8}{K:KT}(hK:K (.d (.bool (a==b))) σ):zP zhF [.d (.slice (bcs a)),.d (.slice (bcs b))] σ K:=by
 refine zen zAx fun hl=>?_;simp only[zsO,iN,bT,bF,eN,gF,gT,gFm,gTm,fl,nfl,gFl,gTl,il,cp,orC,anC,cA,bP,z1,z2,m1,List.map_cons,List.map_nil,zaw,zgu,zix,zev,zho,zdy,zH];exact zwr (by simp[zgQ,dmT,dm,dm1,zck]) hl hK
variable {σ:List AObj}
def bva (bs:List UInt8):List AV:=bs.map fun b=>.d (.int .u8 (b.toNat:Int))
def zim (bs:List UInt8):List AV:=bva bs++List.replicate (10-bs.length) (.d (.int .u8 0))
theorem zyn {pre:List UInt8}{b:UInt8}(h:pre.length<10):zaq (zim pre) pre.length [.d (.int .u8 (b.toNat:Int))]=zim (pre++[b]):=by
 simp only[zaq,zim,bva,List.length_singleton];obtain⟨m,hm⟩:∃m,10-pre.length=m+1:=⟨9-pre.length,by omega⟩;rw[hm,List.take_left' (by simp),List.drop_append];simp only[List.length_map];rw[List.drop_eq_nil_of_le (by simp),show pre.length+1-pre.length=1 by omega,List.replicate_succ];simp[List.length_append,show 10-(pre.length+1)=m by omega]
theorem byte_or (m:Nat):IntKind.u8.wrap ↑(BitVec.ofInt IntKind.u8.bits (IntKind.u8.wrap (m:Int)) ||| BitVec.ofInt IntKind.u8.bits 128).toNat=((UInt8.ofNat (m % 128+128)).toNat:Int):=by
 rw[wrap8 m,show IntKind.u8.bits=8 from rfl,or128 ⟨m % 256,by omega⟩,zvj (by simp;omega),zpR (by omega)];simp
theorem byte_wrap {m:Nat}(h:m<128):IntKind.u8.wrap (m:Int)=((UInt8.ofNat m).toNat:Int):=by
 rw[zvj (by omega),zpR (by omega)]
theorem shr7 (m:Nat):((m:Int)).fdiv (2 ^ min 7 IntKind.u64.bits)=((m / 128:Nat):Int):=by
 rw[show min 7 IntKind.u64.bits=7 from rfl,Int.fdiv_eq_ediv_of_nonneg _ (by decide)];rfl
theorem zrU {pre:List UInt8}(h:pre.length<=10):(zim pre).length=10:=by simp[zim,bva];omega
theorem pad10_sc (pre:List UInt8):(zim pre).all sc=true:=by
 simp only[zim,bva,List.all_append,List.all_map,List.all_replicate,Bool.and_eq_true];refine⟨by simp[sc],?_⟩;cases 10-pre.length<;>simp[sc]
theorem pad10_d (pre:List UInt8):zim pre=((pre.map fun b=>D.int .u8 (b.toNat:Int))++List.replicate (10-pre.length) (D.int .u8 0)).map AV.d:=by
 simp[zim,bva,Function.comp_def]
theorem gq1 {P Q:Prop}(h:Q)(e:P=Q:=by simp -dsimp only[↓zlC,↓zbR,↓zeb,↓zlD,↓zlu,↓zls,↓zlv,↓zlt,↓zeg,↓zec,↓zeh,↓zed,↓zlw,↓zdX,↓zei,↓zee,↓zej,↓zef,↓zlq,↓zlA,↓zdW,↓zem,↓zli,↓zlh,↓zln,iN,bT,bF,eN,↓zev,↓unC,↓zaC,↓zai,↓zaj,↓zav,↓zaW,↓zah,↓zgy,↓zaw,↓zbd,↓zad,↓ze,↓zl,↓zbg,↓zc,↓zaV,↓zN,↓zbS,↓zcl,↓zf,↓zF,↓zp,↓zM,↓zaB,↓zgF,↓zhG,↓zbc,↓zbz,↓zcf,↓zcz,↓zdj,↓zJ,↓zbb,↓zak,↓zO,↓zaU,zho,zdP,zdy,unA,zgu,bnd,ziP,zaO,zL,zhY,dm,dm1,zH,zaJ,zjT,zjS,keepO,Q0,Q1,Q2,Q3,Q4,Q5,zba,zA,zB,zX,zaa,Q6,Q7,Q8,Q9,Q10,Q11,Q12,Q13,Q14,Nat.reduceAdd,Q15,Int.reduceToNat,Q16,Q17,Q18,Q19,Q20,reduceIte,Q21,Q22];rfl):P:=e.mpr h
theorem gq2 {A P Q:Prop}(a:A)(h:Q)(e:A->P=Q:=by intro a;simp -dsimp only[↓zlC,↓zbR,↓zeb,↓zlD,↓zlu,↓zls,↓zlv,↓zlt,↓zeg,↓zec,↓zeh,↓zed,↓zlw,↓zdX,↓zei,↓zee,↓zej,↓zef,↓zlq,↓zlA,↓zdW,↓zem,↓zli,↓zlh,↓zln,iN,bT,bF,eN,↓zev,↓unC,↓zaC,↓zai,↓zaj,↓zav,↓zaW,↓zah,↓zgy,↓zaw,↓zbd,↓zad,↓ze,↓zl,↓zbg,↓zc,↓zaV,↓zN,↓zbS,↓zcl,↓zf,↓zF,↓zp,↓zM,↓zaB,↓zgF,↓zhG,↓zbc,↓zbz,↓zcf,↓zcz,↓zdj,↓zJ,↓zbb,↓zak,↓zO,↓zaU,zho,zdP,zdy,unA,zgu,bnd,ziP,zaO,zL,zhY,dm,dm1,zH,zaJ,zjT,zjS,keepO,Q0,Q1,Q2,Q3,Q4,Q5,zba,zA,zB,zX,zaa,Q6,Q7,Q8,Q9,Q10,Q11,Q12,Q13,Q14,Nat.reduceAdd,Q15,Int.reduceToNat,Q16,Q17,Q18,Q19,Q20,reduceIte,Q21,Q22,a];rfl):P:=(e a).mpr h
theorem c_form {n:Nat}(hn:n<18446744073709551616){K:KT}(hK:K (.tup [.agg (zim (zbt n)),.d (.int .i64 (zbt n).length)]) σ):zP zoC [.d (.int .u64 n)] σ K:=by
 refine zey e_codec_form fun hl=>?_;simp only[zuD,iN,bT,bF,eN,zad];have hlen:=zj hn;refine zn 10 (fun k vs s=>∃(m:Nat) (pre:List UInt8),k=pre.length/\vs=[.d (.int .u64 m),.d (.int .i64 k)]/\zbt n=pre++zbt m/\m<18446744073709551616 ∧
   s=σ++[.box (zim []),.box (zim pre)]) ⟨n,[],rfl,rfl,rfl,hn,by simp[zim,bva]⟩ ?_
 rintro k vs s hk ⟨m,pre,rfl,rfl,hpre,hm,rfl⟩;have hm10:=zj hm;have hpl:pre.length+(zbt m).length<=10:=by rw[hpre]at hlen;simpa using hlen.2
 have hp:pre.length<10:=by omega
 (refine gq1 ?_;try with_reducible exact True.intro);refine zV (fun h=>?_) (fun h=>?_);all_goals(try(refine gq2 h ?_;try with_reducible exact True.intro))
 ·have h1:¬m<128:=by simp at h;omega
  have h2:=zvq h1;rw[h2]at hpl;simp at hpl;rw[byte_or,shr7,zyn hp];refine⟨by omega,by omega,by have:=zrU (pre:=pre) (by omega);omega,by simp[sc],by omega,?_⟩;refine zaF.next (by omega) ⟨m / 128,pre++[UInt8.ofNat (m % 128+128)],by simp,?_,by rw[hpre,h2];simp,by omega,rfl⟩;rw[zaT (by omega) (by omega)];rfl
 ·have h1:m<128:=by simp at h;omega
  have h2:=zmn h1;rw[byte_wrap h1,zyn hp];have hp1:(zim (pre++[UInt8.ofNat m])).length=10:=zrU (by simp;omega);have hsp:zaq (zim []) 0 (zim (pre++[UInt8.ofNat m]))=zim (pre++[UInt8.ofNat m]):=by
   simp only[zaq,Nat.zero_add,List.take_zero,List.nil_append];rw[hp1,List.drop_eq_nil_of_le (by simp[zim,bva]),List.append_nil]
  have htk:List.take 10 (List.drop 0 (zim (pre++[UInt8.ofNat m])))=zim (pre++[UInt8.ofNat m]):=by
   rw[List.drop_zero,List.take_of_length_le (by omega)]
  rw[htk,hsp,htk,if_pos (by omega)];refine⟨by omega,by omega,by have:=zrU (pre:=pre) (by omega);omega,by simp[sc],by omega,by omega,by simp[zim,bva],pad10_sc _,?_⟩;have hd:dmT (zck [.agg (zim (pre++[UInt8.ofNat m])),.d (.int .i64 (IntKind.i64.wrap (↑pre.length+1)))])=.tup [.agg (zim (pre++[UInt8.ofNat m])),.d (.int .i64 (zbt n).length)]:=by
   rw[zaT (by omega) (by omega),hpre,h2];simp only[zck,dmT,List.map_cons,List.map_nil,dm,pad10_d,map_dm1_d,dm1];rw[List.length_append];rfl
  refine zpM ?_ hl ?_
  ·rw[hd,pad10_d,zbw];intro c hc;rcases List.mem_cons.1 hc with rfl|hc
   ·exact .agg _ (zmt _ _)
   ·have hc:=List.mem_singleton.1 hc;subst hc;exact .d _
  ·rw[hd];rw[hpre,h2]at hK ⊢;exact hK
theorem toDs_bva (bs:List UInt8)(r:List AV)(ds:List D)(h:zhV r=some ds):zhV (bva bs++r)=some ((bs.map fun b=>D.int .u8 (b.toNat:Int))++ds):=by
 induction bs with
 | nil=>simpa [bva] using h
 | cons b bs ih=>simp only[bva,List.map_cons,List.cons_append,zhV,toD]at ih ⊢;rw[ih]
theorem chunks1 (bs:List UInt8):zaD 1 bs.length (bs.map fun b=>D.int .u8 (b.toNat:Int))=bcs bs:=by
 induction bs with
 | nil=>rfl
 | cons b bs ih=>simp only[List.length_cons,List.map_cons,zaD,bcs,List.take_succ_cons,List.take_zero,List.drop_succ_cons,List.drop_zero]at ih ⊢;rw[ih];rfl
theorem zfv {b:List UInt8}{n:Nat}(hn:n<18446744073709551616)(hb:b.length<=1073741824){K:KT}(hK:K (.own σ.length (bcs (b++zbt n))) (σ++[.tok 1 (b++zbt n).length])) :
  zP zaR [.d (.slice (bcs b)),.d (.int .u64 n)] σ K:=by
 refine zbM zqw.is rfl (fun s=>[σ.length+1]) fun hl _=>zqw.goes ?_;have hlen:=zj hn;simp only[zqQ,iN,bT,bF,eN,gF,gT,gFm,gTm,fl,nfl,gFl,gTl,il,cp,orC,anC,cA,bP,z1,z2,m1,List.map_cons,List.map_nil];simp only[dm,dm1];refine c_form hn ?_;have hp:=zrU hlen.2;have hsp:zaq (List.replicate 10 (AV.d (D.int .u8 0))) 0 (zim (zbt n))=zim (zbt n):=by
  simp only[zaq,Nat.zero_add,List.take_zero,List.nil_append];rw[hp,List.drop_eq_nil_of_le (by simp),List.append_nil]
 have hrep:[AV.d (D.int .u8 0),.d (.int .u8 0),.d (.int .u8 0),.d (.int .u8 0),.d (.int .u8 0),.d (.int .u8 0),.d (.int .u8 0),.d (.int .u8 0),.d (.int .u8 0),.d (.int .u8 0)]=List.replicate 10 (AV.d (D.int .u8 0)):=rfl;(refine gq1 ?_;try with_reducible exact True.intro);refine⟨hp,by omega,pad10_sc _,by omega,by omega,by omega,by omega,?_⟩;refine zAE ziy ?_;rw[hrep,hsp];(refine gq1 ?_;try with_reducible exact True.intro);have htk:zhV (List.take ((zbt n).length-Int.toNat 0) (List.drop (Int.toNat 0) (zim (zbt n))))=some ((zbt n).map fun b=>D.int .u8 (b.toNat:Int)):=by
  simp only[Int.toNat_zero,Nat.sub_zero,List.drop_zero];rw[zim,List.take_left' (by simp[bva])];have:=toDs_bva (zbt n) [] [] rfl;simpa using this
 simp only[Int.toNat_zero]at htk;rw[htk,if_pos (by omega),Nat.sub_zero];simp only[Option.map_some,chunks1];refine⟨ziy,ziy,by simp[bcs];omega,?_⟩;rw[ztS];refine zoJ rfl hl (by omega) (by rw[zA];rfl) ?_;simpa [bcs] using hK
theorem zpQ {b x:List UInt8}(hx:x.length<=1073741824)(hb:b.length<=1073741800){K:KT}(hK:K (.own σ.length (bcs (b++(zbt x.length++x)))) (σ++[.tok 1 (b++(zbt x.length++x)).length])) :
  zP zdc [.d (.slice (bcs b)),.d (.slice (bcs x))] σ K:=by
 refine zbM znH.is rfl (fun s=>[σ.length]) fun hl _=>znH.goes ?_;have hlen:=zj (n:=x.length) (by omega);(simp only[znU];refine gq1 ?_;try with_reducible exact True.intro);have hw:IntKind.u64.wrap ((bcs x).length:Int)=(x.length:Int):=by rw[zdQ (by simp[bcs];omega)];simp[bcs]
 rw[hw];refine zfv (by omega) (by omega) ?_;(refine gq1 ?_;try with_reducible exact True.intro);refine⟨ziy,by simp[bcs];omega,by simp[bcs],?_⟩;rw[ztS];simp only[List.append_assoc];refine zmz hl rfl ?_;simpa [bcs,Nat.add_assoc] using hK
theorem div128 {m:Nat}(h:m<18446744073709551616):IntKind.u64.wrap ((m:Int).tdiv 128)=((m / 128:Nat):Int):=by
 rw[show((m:Int).tdiv 128)=((m / 128:Nat):Int)from by rw[Int.tdiv_eq_ediv_of_nonneg (by omega)];rfl,zdQ (by omega)]
theorem rem128 (m:Nat):(m:Int).tmod 128=((m % 128:Nat):Int):=by
 rw[Int.tmod_eq_emod_of_nonneg (by omega)];rfl
theorem gq3 {P Q:Prop}(h:Q)(e:P=Q:=by simp -dsimp only[↓zlC,↓zbR,↓zeb,↓zlD,↓zlu,↓zls,↓zlv,↓zlt,↓zeg,↓zec,↓zeh,↓zed,↓zlw,↓zdX,↓zei,↓zee,↓zej,↓zef,↓zlq,↓zlA,↓zdW,↓zem,↓zli,↓zlh,↓zln,iN,bT,bF,eN,↓zev,↓unC,↓zaC,↓zai,↓zaj,↓zav,↓zaW,↓zah,↓zgy,↓zaw,↓zbd,↓zad,↓ze,↓zl,↓zbg,↓zc,↓zaV,↓zN,↓zbS,↓zcl,↓zf,↓zF,↓zp,↓zM,↓zaB,↓zgF,↓zhG,↓zbc,↓zbz,↓zcf,↓zcz,↓zdj,↓zJ,↓zbb,↓zak,↓zO,↓zaU,zho,zdP,zdy,unA,zgu,bnd,ziP,zaO,zL,zhY,dm,dm1,zH,zaJ,zjT,zjS,keepO,Q0,Q1,Q2,Q3,Q4,Q5,zba,zA,zB,zX,zaa,Q6,Q7,Q8,Q9,Q10,Q11,Q12,Q13,Q14,Nat.reduceAdd,Q15,Int.reduceToNat,Q16,Q17,Q18,Q19,Q20,reduceIte,Q21,Q22,rep,zaq,zhV,toD,zaD,Q23,Q24,Q25,Q26,Q27,Q28,Nat.reduceLeDiff,Q29,Nat.reduceSub,Q30,Q31,Q32,sc,Q33,Q34,Q35];rfl):P:=e.mpr h
theorem zeL {b:List UInt8}{n:Nat}(hn:n<18446744073709551616)(hb:b.length<=1073741824){K:KT}(hK:K (.own σ.length (bcs (b++zbt n))) (σ++[.tok 1 (b++zbt n).length])) :
  zP zbE [.d (.slice (bcs b)),.d (.int .u64 n)] σ K:=by
 refine zbM zup.is rfl (fun s=>[σ.length]) fun hl _=>zup.goes ?_;have hlen:=zj hn;(simp only[zuA];refine gq1 ?_;try with_reducible exact True.intro);refine⟨ziy,by simp,by simp[bcs];omega,?_⟩;refine zn 10 (fun k vs s=>∃(m:Nat) (pre:List UInt8),k=pre.length/\vs=[.d (.int .u64 m),.own σ.length (bcs (b++pre))]/\zbt n=pre++zbt m/\m<18446744073709551616 ∧
   s=σ++[.tok 1 (b++pre).length]) ⟨n,[],rfl,by simp,rfl,hn,by simp[bcs]⟩ ?_
 rintro k vs s hk ⟨m,pre,rfl,rfl,hpre,hm,rfl⟩;have hm10:=zj hm;have hpl:pre.length+(zbt m).length<=10:=by rw[hpre]at hlen;simpa using hlen.2
 (refine gq1 ?_;try with_reducible exact True.intro);refine zV (fun h=>?_) (fun h=>?_);all_goals(try(refine gq2 h ?_;try with_reducible exact True.intro))
 ·have h1:¬m<128:=by simp at h;omega
  have h2:=zvq h1;rw[h2]at hpl;simp at hpl;have hc:IntKind.u8.wrap (IntKind.u8.wrap ((m:Int).tmod 128)+128)=((UInt8.ofNat (m % 128+128)).toNat:Int):=by
   rw[rem128,zvj (by omega),zpR (by omega),show((m % 128:Nat):Int)+128=((m % 128+128:Nat):Int)from rfl];exact zvj (by omega)
  (refine gq3 ?_;try with_reducible exact True.intro);rw[hc,div128 hm];refine⟨by decide,by simp,by simp[bcs];omega,by simp[bcs],by decide,?_⟩;refine zaF.next (by omega) ⟨m / 128,pre++[UInt8.ofNat (m % 128+128)],by simp,?_,by rw[hpre,h2];simp,by omega,?_⟩
  ·simp[bcs,zch]
  ·simp[bcs,Nat.add_assoc]
 ·have h1:m<128:=by simp at h;omega
  have h2:=zmn h1;(refine gq3 ?_;try with_reducible exact True.intro);rw[byte_wrap h1];refine⟨by simp,by simp[bcs];omega,by simp[bcs],?_⟩;rw[hpre,h2]at hK;have e:bcs (b++pre)++[[D.int .u8 ((UInt8.ofNat m).toNat:Int)]]=bcs (b++(pre++[UInt8.ofNat m])):=by simp[bcs,zch]
  rw[e];refine zmz hl rfl ?_;simpa [bcs,Nat.add_assoc] using hK
theorem zha {b x:List UInt8}(hx:x.length<=1073741824)(hb:b.length<=1073741800){K:KT}(hK:K (.own σ.length (bcs (b++(zbt x.length++x)))) (σ++[.tok 1 (b++(zbt x.length++x)).length])) :
  zP zcm [.d (.slice (bcs b)),.d (.slice (bcs x))] σ K:=by
 refine zbM zqv.is rfl (fun s=>[σ.length]) fun hl _=>zqv.goes ?_;have hlen:=zj (n:=x.length) (by omega);(simp only[zqI];refine gq1 ?_;try with_reducible exact True.intro);have hw:IntKind.u64.wrap ((bcs x).length:Int)=(x.length:Int):=by rw[zdQ (by simp[bcs];omega)];simp[bcs]
 rw[hw];refine zeL (by omega) (by omega) ?_;(refine gq1 ?_;try with_reducible exact True.intro);refine⟨ziy,by simp[bcs];omega,by simp[bcs],?_⟩;rw[ztS];simp only[List.append_assoc];refine zmz hl rfl ?_;simpa [bcs,Nat.add_assoc] using hK
variable {σ:List AObj}
theorem gq4 {P Q:Prop}(h:Q)(e:P=Q:=by simp -dsimp only[↓zlC,↓zbR,↓zeb,↓zlD,↓zlu,↓zls,↓zlv,↓zlt,↓zeg,↓zec,↓zeh,↓zed,↓zlw,↓zdX,↓zei,↓zee,↓zej,↓zef,↓zlq,↓zlA,↓zdW,↓zem,↓zli,↓zlh,↓zln,iN,bT,bF,eN,↓zev,↓unC,↓zaC,↓zai,↓zaj,↓zav,↓zaW,↓zah,↓zgy,↓zaw,↓zbd,↓zad,↓ze,↓zl,↓zbg,↓zc,↓zaV,↓zN,↓zbS,↓zcl,↓zf,↓zF,↓zp,↓zM,↓zaB,↓zgF,↓zhG,↓zbc,↓zbz,↓zcf,↓zcz,↓zdj,↓zJ,↓zbb,↓zak,↓zO,↓zaU,zho,zdP,zdy,unA,zgu,bnd,ziP,zaO,zL,zhY,dm,dm1,zH,zaJ,zjT,zjS,keepO,Q0,Q1,Q2,Q3,Q4,Q5,zba,zA,zB,zX,zaa,Q6,Q7,Q8,Q9,Q10,Q11,Q12,Q13,Q14,Nat.reduceAdd,Q15,Int.reduceToNat,Q16,Q17,Q18,Q19,Q20,reduceIte,Q21,Q22,zy,rep,zaq,zhV,toD,zaD,Q23,Q24,Q25,Q26,Q27,Q28,Nat.reduceLeDiff,Q29,Nat.reduceSub,Q30,Q31,Q32,sc,Q33,Q34,Q35];rfl):P:=e.mpr h
theorem c_only {o:TOp}{K:KT}(hK:K (.tup [opA (zot o),.d (.bool (ziC o))]) σ):zP zwb [opA o] σ K:=by
 refine zey e_op_only fun hl=>?_;simp only[S_op_only,iN,bT,bF,eN,zl2,opA];(repeat'(first|(refine gq4 ?_;try with_reducible exact True.intro)|(refine zV (fun h=>?_) (fun h=>?_)<;>(try rw[h]))|((with_reducible refine And.intro ?_ ?_);focus(first|omega|rfl|decide))));all_goals refine zu hl ?_
 all_goals simp only[beq_iff_eq,beq_eq_false_iff_ne,ne_eq]at *
 all_goals simp_all[zck,dmT,dm,dm1,zot,noOp,opA,ziC,zdv]
 have e:(decide (0<=o.kind)&&decide (o.kind<=4))=false:=by simp;omega
 rw[e]at hK;exact hK
theorem c_Same_1 {a b:List UInt8}{K:KT}(hK:K (.d (.bool (a==b))) σ):zP zni [.d (.slice (bcs a)),.d (.slice (bcs b))] σ K:=by
 refine zen e_op_Same_1 fun hl=>?_;(simp only[zxx];refine gq2 @zy ?_;try with_reducible exact True.intro);refine znx ?_;refine zu hl ?_;exact hK
theorem zd {A B:Prop}(a:A)(b:B):A/\B:=⟨a,b⟩
theorem gq5 {A P Q:Prop}(a:A)(h:Q)(e:A->P=Q:=by intro a;simp -dsimp only[↓zlC,↓zbR,↓zeb,↓zlD,↓zlu,↓zls,↓zlv,↓zlt,↓zeg,↓zec,↓zeh,↓zed,↓zlw,↓zdX,↓zei,↓zee,↓zej,↓zef,↓zlq,↓zlA,↓zdW,↓zem,↓zli,↓zlh,↓zln,iN,bT,bF,eN,↓zev,↓unC,↓zaC,↓zai,↓zaj,↓zav,↓zaW,↓zah,↓zgy,↓zaw,↓zbd,↓zad,↓ze,↓zl,↓zbg,↓zc,↓zaV,↓zN,↓zbS,↓zcl,↓zf,↓zF,↓zp,↓zM,↓zaB,↓zgF,↓zhG,↓zbc,↓zbz,↓zcf,↓zcz,↓zdj,↓zJ,↓zbb,↓zak,↓zO,↓zaU,zho,zdP,zdy,unA,zgu,bnd,ziP,zaO,zL,zhY,dm,dm1,zH,zaJ,zjT,zjS,keepO,Q0,Q1,Q2,Q3,Q4,Q5,zba,zA,zB,zX,zaa,Q6,Q7,Q8,Q9,Q10,Q11,Q12,Q13,Q14,Nat.reduceAdd,Q15,Int.reduceToNat,Q16,Q17,Q18,Q19,Q20,reduceIte,Q21,Q22,Bool.and_false,Bool.and_self,Bool.false_and,Bool.not_false,Bool.not_true,Bool.true_and,Int.toNat_natCast,Int.toNat_zero,List.drop_zero,List.length_map,List.length_nil,List.nil_append,List.take_length,Nat.sub_zero,Nat.zero_add,Option.isSome_none,Option.isSome_some,Option.map_none,Option.map_some,zam,beq_self_eq_true,bne_self_eq_false,a];rfl):P:=(e a).mpr h
theorem zsD {a b:List (List UInt8)}(ha:a.length<=1073741824)(hb:b.length<=1073741824){K:KT}(hK:K (.d (.bool (a==b))) σ) :
  zP zan [.d (.slice (zdv a)),.d (.slice (zdv b)),.fn (.func zni) [] []] σ K:=by
 refine acE3 zcA fun hl=>?_;(simp only[zbe];refine gq2 @zy ?_;try with_reducible exact True.intro);refine zV (fun h=>?_) (fun h=>?_);all_goals(try(refine gq2 (zd h @zy) ?_;try with_reducible exact True.intro))
 ·refine zu hl ?_;have:(a==b)=false:=by
   rw[beq_eq_false_iff_ne];rintro rfl;simp at h
  rw[this]at hK;exact hK
 have hl2:a.length=b.length:=by simp at h;omega
 refine zn a.length (fun k vs s=>vs=[.d (.int .i64 k)]/\s=σ/\a.take k=b.take k) ⟨rfl,rfl,by simp⟩ ?_;rintro k vs s hk ⟨rfl,rfl,htk⟩;(refine gq2 @zy ?_;try with_reducible exact True.intro);refine zV (fun h=>?_) (fun h=>?_);all_goals(try(refine gq2 (zd h @zy) ?_;try with_reducible exact True.intro))
 ·have hka:k<a.length:=by simp at h;omega
  have hx:a[k]? = some a[k]:=by simp[hka]
  have hy:b[k]? = some (b[k]'(by omega)):=List.getElem?_eq_getElem _;(refine gq5 (zd (zgA hx) (zd (zgA hy) @zy)) ?_;try with_reducible exact True.intro);refine⟨by omega,by omega,c_Same_1 ?_⟩;(refine gq2 (zd @zy @zaU) ?_;try with_reducible exact True.intro);refine zV (fun h=>?_) (fun h=>?_);all_goals(try(refine gq2 (zd h @zy) ?_;try with_reducible exact True.intro))
  ·refine zaF.next hka ⟨?_,rfl,zbs hx hy htk (by simpa using h)⟩;rw[zaT (by omega) (by omega)];rfl
  ·refine zu hl ?_;have:(a==b)=false:=by
    rw[beq_eq_false_iff_ne];rintro rfl;simp at h
   rw[this]at hK;exact hK
 ·refine zu hl ?_;have:(a==b)=true:=by
   rw[beq_iff_eq];exact zct hl2 (k:=k) (by simp at h;omega) htk
  rw[this]at hK;exact hK
theorem c_Same {a b:TOp}(ha:a.recs.length<=1073741824)(hb:b.recs.length<=1073741824){K:KT}(hK:K (.d (.bool (decide (a=b)))) σ):zP zsc [opA a,opA b] σ K:=by
 refine zen e_op_Same fun hl=>?_;simp only[S_op_Same,iN,bT,bF,eN,opA];repeat' first
  | (refine gq4 ?_;try with_reducible exact True.intro)
  | (refine zV (fun h=>?_) (fun h=>?_)<;>(try rw[h]))
  | refine zsD ha hb ?_
 all_goals refine zu hl ?_
 all_goals simp only[beq_iff_eq,beq_eq_false_iff_ne,ne_eq]at *
 ·have e:decide (a=b)=(a.recs==b.recs):=by
   rw[Bool.eq_iff_iff];cases a;cases b;simp_all
  rw[e]at hK;exact hK
 all_goals
  have e:decide (a=b)=false:=by
   cases a;cases b;simp_all
  rw[e]at hK;exact hK
variable {σ:List AObj}
theorem c_Runes {s:List UInt8}(hs:s.length<=1073741824){K:KT}(hK:K (.d (.int .i64 (ziL s))) σ):zP ztm [.d (.str s)] σ K:=by
 refine zey e_op_Runes fun hl=>?_;simp only[zzE,iN,bT,bF,eN,zbb];refine zn s.length (fun pos vs s'=>∃cnt:Nat,vs=[.d (.int .i64 cnt)]/\s'=σ++[.iter s pos]/\pos<=s.length/\cnt<=pos/\zfh (s.length+1) s=(zfh (s.length+1) (s.drop pos)).map (· + cnt)) ⟨0,rfl,rfl,by omega,by omega,by simp⟩ ?_;rintro pos vs s' hp ⟨cnt,rfl,rfl,hps,hc,hr⟩;simp only[zJ,zrZ,zB,List.getElem?_cons_zero];split
 ·rename_i hlt;have hd:s.drop pos≠[]:=by intro e;have:=congrArg List.length e;simp at this;omega
  have hw:=goDec_width _ hd;have hw2:=zmF (s.drop pos);simp only[decode_eq s pos hlt];have hcount:zfh (s.length+1) (s.drop pos)=if (zmi (s.drop pos)).2=0∨badF (zmi (s.drop pos)).1=true then none else(zfh s.length ((s.drop pos).drop (zmi (s.drop pos)).2)).map (· + 1):=by
   rw[zfh,if_neg hd]
  (repeat'(first|(refine gq4 ?_;try with_reducible exact True.intro)|(refine zV (fun h=>?_) (fun h=>?_)<;>(try rw[h]))|((with_reducible refine And.intro ?_ ?_);focus(first|omega|rfl|decide))));all_goals first
   | (
    refine zu hl ?_
    have hb:badF (zsj (s.drop pos)).1=true:=by
     simp only[badF];exact zou
    rw[goDec_bad]at hb
    have:zfh (s.length+1) (s.drop pos)=none:=by rw[hcount,if_pos (by simpa using hb)]
    have h0:ziL s=0:=by simp[ziL,hr,this]
    rw[h0]at hK;exact hK)
   | skip
  all_goals
   have hb:badF (zsj (s.drop pos)).1=false:=by
    simp only[badF];exact zou
   obtain⟨g1,g2,g3⟩:=goDec_good hb
   rw[zaT (by omega) (by omega)]
   refine zaF.to (pos+(zsj (s.drop pos)).2) (by omega) (by simp at hw;omega) ⟨cnt+1,rfl,rfl,by simp at hw;omega,by omega,?_⟩
   rw[hr,hcount,if_neg (by simp[g2,g3]),g1,List.drop_drop,zrw s.length (s.length+1) _ (by simp at *;omega) (by simp;omega)]
   cases zfh (s.length+1) (List.drop (pos+(zmi (s.drop pos)).2) s)<;>simp
   omega
 ·rename_i hlt;have e:s.drop pos=[]:=List.drop_eq_nil_of_le (by omega);have hcnt:zfh (s.length+1) s=some cnt:=by rw[hr,e];simp[zfh]
  (refine gq2 @zy ?_;try with_reducible exact True.intro);refine zV (fun h=>?_) (fun h=>?_);all_goals(try(refine gq2 (zd h @zy) ?_;try with_reducible exact True.intro))
  ·refine zu hl ?_;have h0:ziL s=0:=by simp[ziL,hcnt];simp at h;omega
   rw[h0]at hK;exact hK
  ·refine zu hl ?_;have h0:ziL s=cnt:=by simp[ziL,hcnt];simp at h;omega
   rw[h0]at hK;exact hK
theorem c_Name {s:List UInt8}(hs:s.length<=1073741824){K:KT}(hK:K (.d (.bool (zdY s))) σ):zP zoA [.d (.str s)] σ K:=by
 refine zey e_op_Name fun hl=>?_;(simp only[S_op_Name];refine gq2 @zy ?_;try with_reducible exact True.intro);refine c_Runes hs ?_;(refine gq2 @zy ?_;try with_reducible exact True.intro);refine zu hl ?_;have:decide ((ziL s:Int)>0)=zdY s:=by simp[zdY]
 rw[this];exact hK
variable {σ:List AObj}
theorem c_rsize {c:Nat}{K:KT}(hK:K (.d (.int .i64 (znY c))) σ):zP ztj [.d (.int .u8 c)] σ K:=by
 refine zey e_r06_size fun hl=>?_;simp only[zzA,iN,bT,bF,eN];(repeat'(first|(refine gq4 ?_;try with_reducible exact True.intro)|(refine zV (fun h=>?_) (fun h=>?_)<;>(try rw[h]))|((with_reducible refine And.intro ?_ ?_);focus(first|omega|rfl|decide))));all_goals refine zu hl ?_
 all_goals(try simp only[decide_eq_true_eq,decide_eq_false_iff_not,beq_iff_eq,beq_eq_false_iff_ne,bne_iff_ne,ne_eq,Bool.not_eq_true',Bool.not_eq_false',bne_eq_false_iff_eq]at *)
 all_goals
  simp only[zck,dmT,dm,dm1]
  have e:∀z:Nat,znY c=z->K (.d (.int .i64 z)) σ:=fun z hz=>by rw[← hz];exact hK
  first
  | exact e 0 (by unfold znY;rw[if_neg (by omega),if_neg (by omega),if_neg (by omega),if_neg (by omega)])
  | exact e 1 (by unfold znY;rw[if_pos (by omega)])
  | exact e 2 (by unfold znY;rw[if_neg (by omega),if_pos (by omega)])
  | exact e 3 (by unfold znY;rw[if_neg (by omega),if_neg (by omega),if_pos (by omega)])
  | exact e 4 (by unfold znY;rw[if_neg (by omega),if_neg (by omega),if_neg (by omega),if_pos (by omega)])
theorem mask_eq (z:Nat)(hz:z=2∨z=3∨z=4)(b:Nat)(hb:b<256) :
  IntKind.i64.wrap ↑(BitVec.ofInt IntKind.i64.bits (b:Int) &&& BitVec.ofInt IntKind.i64.bits (IntKind.i64.wrap (IntKind.i64.wrap (1*2 ^ (min (IntKind.i64.wrap (7-(z:Int))).toNat IntKind.i64.bits))-1))).toNat=((b % 2 ^ (7-z):Nat):Int):=by
 have h0:(BitVec.ofInt 64 (b:Int)).toNat=b:=by simp;omega
 have key:∀m:Nat,(m=3∨m=4∨m=5)->IntKind.i64.wrap ↑(BitVec.ofInt 64 (b:Int) &&& BitVec.ofInt 64 ((2:Int) ^ m-1)).toNat=((b % 2 ^ m:Nat):Int):=fun m hm=>by
  have:(BitVec.ofInt 64 (b:Int) &&& BitVec.ofInt 64 ((2:Int) ^ m-1)).toNat=b % 2 ^ m:=by
   rw[BitVec.toNat_and,h0];rcases hm with rfl|rfl|rfl
   ·exact Nat.and_two_pow_sub_one_eq_mod b 3
   ·exact Nat.and_two_pow_sub_one_eq_mod b 4
   ·exact Nat.and_two_pow_sub_one_eq_mod b 5
  rw[this];have:b % 2 ^ m<256:=Nat.lt_of_le_of_lt (Nat.mod_le _ _) hb;exact zaT (by omega) (by omega)
 rcases hz with rfl|rfl|rfl
 ·exact key 5 (by omega)
 ·exact key 4 (by omega)
 ·exact key 3 (by omega)
theorem partF_lt (s:List UInt8)(z:Nat)(hz:2<=z):∀i,zil s z i<32*64 ^ i
 | 0=>by
  simp only[zil];have:2 ^ (7-z)<=2 ^ 5:=Nat.pow_le_pow_right (by omega) (by omega);have:=Nat.mod_lt (at8 s 0) (y:=2 ^ (7-z)) (Nat.pos_of_ne_zero (by simp));omega
 | i+1=>by
  simp only[zil,Nat.pow_succ];have:=partF_lt s z hz i;omega
theorem at8_some {s:List UInt8}{i:Nat}(h:i<s.length):s[i]? = some s[i]/\(s[i].toNat:Int)=(at8 s i:Int):=by
 have:s[i]? = some s[i]:=List.getElem?_eq_getElem h;exact⟨this,by simp[at8,this]⟩
theorem gq6 {A P Q:Prop}(a:A)(h:Q)(e:A->P=Q:=by intro a;simp -dsimp only[↓zlC,↓zbR,↓zeb,↓zlD,↓zlu,↓zls,↓zlv,↓zlt,↓zeg,↓zec,↓zeh,↓zed,↓zlw,↓zdX,↓zei,↓zee,↓zej,↓zef,↓zlq,↓zlA,↓zdW,↓zem,↓zli,↓zlh,↓zln,iN,bT,bF,eN,↓zev,↓unC,↓zaC,↓zai,↓zaj,↓zav,↓zaW,↓zah,↓zgy,↓zaw,↓zbd,↓zad,↓ze,↓zl,↓zbg,↓zc,↓zaV,↓zN,↓zbS,↓zcl,↓zf,↓zF,↓zp,↓zM,↓zaB,↓zgF,↓zhG,↓zbc,↓zbz,↓zcf,↓zcz,↓zdj,↓zJ,↓zbb,↓zak,↓zO,↓zaU,zho,zdP,zdy,unA,zgu,bnd,ziP,zaO,zL,zhY,dm,dm1,zH,zaJ,zjT,zjS,keepO,Q0,Q1,Q2,Q3,Q4,Q5,zba,zA,zB,zX,zaa,Q6,Q7,Q8,Q9,Q10,Q11,Q12,Q13,Q14,Nat.reduceAdd,Q15,Int.reduceToNat,Q16,Q17,Q18,Q19,Q20,reduceIte,Q21,Q22,zy,rep,zaq,zhV,toD,zaD,Q23,Q24,Q25,Q26,Q27,Q28,Nat.reduceLeDiff,Q29,Nat.reduceSub,Q30,Q31,Q32,sc,Q33,Q34,Q35,a];rfl):P:=(e a).mpr h
theorem c_rune1 {s:List UInt8}(hs:s.length<=1073741824)(hne:s≠[]){K:KT}(hK:K (.tup [.d (.int .i64 (zmi s).1),.d (.int .i64 (zmi s).2)]) σ):zP zrb [.d (.str s)] σ K:=by
 refine zey e_r06_rune1 fun hl=>?_;have hpos:0<s.length:=List.length_pos_iff.2 hne;obtain⟨g1,g2⟩:=at8_some hpos;have hb0:=zxe s 0;(simp only[zxu];refine gq2 (zd @zy (zd g1 g2)) ?_;try with_reducible exact True.intro);refine⟨by omega,c_rsize ?_⟩;have hz4:znY (at8 s 0)=0∨znY (at8 s 0)=1∨znY (at8 s 0)=2∨znY (at8 s 0)=3∨znY (at8 s 0)=4:=by
  unfold znY;split<;>(try split)<;>(try split)<;>(try split)<;>omega
 obtain⟨z,hz⟩:∃z,z=znY (at8 s 0):=⟨_,rfl⟩;rw[← hz]at hz4 ⊢;have bad:z=0∨z>s.length->K (.tup [.d (.int .i64 0),.d (.int .i64 0)]) σ:=fun h=>by
  have:zmi s=(0,0):=by simp only[zmi,← hz];rw[if_pos h]
  rw[this]at hK;exact hK
 (refine gq2 @zy ?_;try with_reducible exact True.intro);refine zV (fun h=>?_) (fun h=>?_);all_goals(try(refine gq2 (zd h (zd @zy (zd g1 g2))) ?_;try with_reducible exact True.intro))
 ·refine zu hl ?_;exact bad (.inl (by exact zou))
 have hz0:z≠0:=by exact zou
 refine zV (fun h=>?_) (fun h=>?_);all_goals(try(refine gq2 (zd h (zd @zy (zd g1 g2))) ?_;try with_reducible exact True.intro))
 ·refine zu hl ?_;exact bad (.inr (by exact zou))
 have hzl:z<=s.length:=by exact zou
 have hnb:¬(z=0∨z>s.length):=by omega
 refine zV (fun h=>?_) (fun h=>?_);all_goals(try(refine gq2 (zd h (zd @zy (zd g1 g2))) ?_;try with_reducible exact True.intro))
 ·have h1:z=1:=by exact zou
  refine⟨by omega,?_⟩;refine zu hl ?_;have:zmi s=(at8 s 0,1):=by simp only[zmi,← hz];rw[if_neg hnb,if_pos h1]
  rw[this]at hK;simp only[zck,dmT,dm,dm1,List.map_cons,List.map_nil];rw[zaT (by omega) (by omega)];exact hK
 have hz2:z=2∨z=3∨z=4:=by exact zou
 have h1:¬z=1:=by omega
 refine⟨by omega,?_⟩;have hw:IntKind.i64.wrap (at8 s 0:Int)=(at8 s 0:Int):=zaT (by omega) (by omega);have hsh:(0:Int)<=IntKind.i64.wrap (7-(z:Int)):=by rw[zaT (by omega) (by omega)];omega
 refine⟨hsh,?_⟩;rw[hw,mask_eq z hz2 _ hb0];refine zn z (fun k vs s'=>s'=σ/\k+1<=z/\vs=[.d (.int .i64 (zil s z k)),.d (.int .i64 (k+1:Nat))]/\∀i,i<k+1→1<=i->ztM s i=true) ⟨rfl,by omega,rfl,fun i h1 h2=>by omega⟩ ?_;rintro k vs s' hk ⟨rfl,hk1,rfl,hcont⟩;have hpl:=partF_lt s z (by omega) k;have hpow:64 ^ k<=64 ^ 3:=Nat.pow_le_pow_right (by omega) (by omega);(refine gq2 @zy ?_;try with_reducible exact True.intro);have fail:(¬ ∀i,i<z→1<=i->ztM s i=true)->K (.tup [.d (.int .i64 0),.d (.int .i64 0)]) s':=fun h=>by
  have:zmi s=(0,0):=by simp only[zmi,← hz];rw[if_neg hnb,if_neg h1,if_neg h]
  rw[this]at hK;exact hK
 refine zV (fun h=>?_) (fun h=>?_)
 ·have hkz:k+1<z:=by exact zou
  obtain⟨f1,f2⟩:=at8_some (s:=s) (i:=k+1) (by omega);have hb:=zxe s (k+1);repeat' first
   | (refine gq6 (zd f1 f2) ?_;try with_reducible exact True.intro)
   | (refine zV (fun h=>?_) (fun h=>?_)<;>(try rw[h]))
   | ((with_reducible refine And.intro ?_ ?_);focus(first|omega|rfl|decide))
  ·refine zu hl ?_;exact fail fun h'=>by
    have:=h' (k+1) hkz (by omega);simp only[ztM]at this;exact zou
  ·refine zu hl ?_;exact fail fun h'=>by
    have:=h' (k+1) hkz (by omega);simp only[ztM]at this;exact zou
  have hv:IntKind.i64.wrap (IntKind.i64.wrap (↑(zil s z k)*64)+(IntKind.i64.wrap ↑(at8 s (k+1))).tmod 64)=((zil s z (k+1):Nat):Int):=by
   have hp2:zil s z k<32*64 ^ 3:=by omega
   have e1:IntKind.i64.wrap ((zil s z k:Int)*64)=(zil s z k:Int)*64:=zaT (by omega) (by omega);have e2:IntKind.i64.wrap (at8 s (k+1):Int)=(at8 s (k+1):Int):=zaT (by omega) (by omega);have e3:((at8 s (k+1):Int)).tmod 64=((at8 s (k+1) % 64:Nat):Int):=by rw[Int.tmod_eq_emod_of_nonneg (by omega)];rfl
   rw[e1,e2,e3,zaT (by omega) (by omega)];simp only[zil];omega
  have hw2:IntKind.i64.wrap (((k+1:Nat):Int)+1)=((k+1+1:Nat):Int):=by rw[zaT (by omega) (by omega)];rfl
  rw[hv,hw2];refine zaF.next (by omega) ⟨rfl,by omega,rfl,fun i hi1 hi2=>?_⟩;by_cases hi:i<k+1
  ·exact hcont i hi hi2
  ·obtain rfl:i=k+1:=by omega
   simp only[ztM];exact zou
 ·have hkz:k+1=z:=by exact zou
  have hall:∀i,i<z→1<=i->ztM s i=true:=by rw[← hkz];exact hcont
  have hdec:zmi s=if zil s z k<zhf z∨zil s z k>1114111∨(55296<=zil s z k/\zil s z k<57344)then(0,0)else(zil s z k,z):=by
   have e:z-1=k:=by omega
   simp only[zmi,← hz];rw[if_neg hnb,if_neg h1,if_pos hall,e]
  have hget:∃l:Nat,l=zhf z/\([[D.int .i64 0],[D.int .i64 0],[D.int .i64 128],[D.int .i64 2048],[D.int .i64 65536]]:List (List D))[z]? = some [D.int .i64 l]:=by
   rcases hz2 with rfl|rfl|rfl<;>exact⟨_,rfl,rfl⟩
  obtain⟨l,hl1,hl2⟩:=hget;rw[← hl1]at hdec;repeat' first
   | (refine gq6 hl2 ?_;try with_reducible exact True.intro)
   | (refine zV (fun h=>?_) (fun h=>?_)<;>(try rw[h]))
   | ((with_reducible refine And.intro ?_ ?_);focus(first|omega|rfl|decide))
  all_goals refine zu hl ?_
  all_goals(try simp only[decide_eq_true_eq,decide_eq_false_iff_not,beq_iff_eq,beq_eq_false_iff_ne,bne_iff_ne,ne_eq,Bool.not_eq_true',Bool.not_eq_false',bne_eq_false_iff_eq]at *)
  all_goals simp only[zck,dmT,dm,dm1,List.map_cons,List.map_nil]
  all_goals first
   | (rw[if_pos (by omega)]at hdec;rw[hdec]at hK;exact hK)
   | (rw[if_neg (by omega)]at hdec;rw[hdec]at hK;exact hK)
theorem badF_ref (v:Nat):badF v=decide (v<33∨127<=v/\v<160∨v=47∨v=65533):=by
 simp only[badF];congr 1;apply propext;omega
theorem c_rRunes {s:List UInt8}(hs:s.length<=1073741824){K:KT}(hK:K (.d (.int .i64 (ziL s))) σ):zP zrc [.d (.str s)] σ K:=by
 refine zey e_r06_Runes fun hl=>?_;simp only[zxv,iN,bT,bF,eN];refine zn s.length (fun pos vs s'=>∃(cnt:Nat) (t:List UInt8),t.length+pos=s.length/\vs=[.d (.str t),.d (.int .i64 cnt)]/\s'=σ/\cnt<=pos/\cnt<=16/\zfh (s.length+1) s=(zfh (s.length+1) t).map (· + cnt)) ⟨0,s,rfl,rfl,rfl,by omega,by omega,by simp⟩ ?_;rintro pos vs s' hp ⟨cnt,t,hlen,rfl,rfl,hc,hc16,hr⟩;(refine gq2 @zy ?_;try with_reducible exact True.intro);refine zV (fun h=>?_) (fun h=>?_)
 ·have ht:t≠[]:=by rintro rfl;simp at h
  have htl:0<t.length:=List.length_pos_iff.2 ht;have hw2:=zmF t;have hcount:zfh (s.length+1) t=if (zmi t).2=0∨badF (zmi t).1=true then none else(zfh s.length (t.drop (zmi t).2)).map (· + 1):=by
   rw[zfh,if_neg ht]
  refine c_rune1 (by omega) ht ?_;have stop:(zmi t).2=0∨badF (zmi t).1=true∨cnt=16->K (.d (.int .i64 0)) s':=fun hb=>by
   have h0:ziL s=0:=by
    by_cases hq:(zmi t).2=0∨badF (zmi t).1=true
    ·simp[ziL,hr,hcount,if_pos hq]
    ·have hcn:cnt=16:=by
      rcases hb with hb|hb|hb
      ·exact absurd (.inl hb) hq
      ·exact absurd (.inr hb) hq
      ·exact hb
     simp only[ziL,hr,hcount,if_neg hq];cases zfh s.length (t.drop (zmi t).2)with
     | none=>simp
     | some m=>simp;omega
   rw[h0]at hK;exact hK
  (repeat'(first|(refine gq4 ?_;try with_reducible exact True.intro)|(refine zV (fun h=>?_) (fun h=>?_)<;>(try rw[h]))|((with_reducible refine And.intro ?_ ?_);focus(first|omega|rfl|decide))));all_goals first
   | (
    refine zu hl ?_
    refine stop ?_
    rw[badF_ref,decide_eq_true_eq]
    exact zou)
   | skip
  all_goals
   have hb:badF (zmi t).1=false:=by
    rw[badF_ref,decide_eq_false_iff_not];exact zou
   have h2:(zmi t).2≠0:=by exact zou
   have hcl:cnt<16:=by exact zou
   rw[zaT (by omega) (by omega)]
   refine zaF.to (pos+(zmi t).2) (by omega) (by omega) ⟨cnt+1,t.drop (zmi t).2,by simp;omega,?_,rfl,by omega,by omega,?_⟩
   ·simp
   ·rw[hr,hcount,if_neg (by simp[h2,hb]),zrw s.length (s.length+1) _ (by simp;omega) (by simp;omega)]
    cases zfh (s.length+1) (t.drop (zmi t).2)<;>simp
    omega
 ·refine zu hl ?_;have ht:t=[]:=by
   have:¬0<t.length:=by exact zou
   exact List.length_eq_zero_iff.1 (by omega)
  have h0:ziL s=cnt:=by
   simp only[ziL,hr,ht];simp[zfh];omega
  rw[h0]at hK;exact hK
theorem c_rName {s:List UInt8}(hs:s.length<=1073741824){K:KT}(hK:K (.d (.bool (zdY s))) σ):zP zmr [.d (.str s)] σ K:=by
 refine zey e_r06_Name fun hl=>?_;simp only[zzC,iN,bT,bF,eN];(refine gq2 @zy ?_;try with_reducible exact True.intro);refine c_rRunes hs ?_;(refine gq2 @zy ?_;try with_reducible exact True.intro);refine zu hl ?_;have:decide ((ziL s:Int)>0)=zdY s:=by simp[zdY]
 rw[this];exact hK
variable {σ:List AObj}
theorem c_Check_1 {r:List UInt8}{K:KT}(hK:K (.d (.bool (decide (r.length>64)))) σ):zP zlm [.d (.slice (bcs r))] σ K:=by
 refine zey e_op_Check_1 fun hl=>?_;simp only[zuB,iN,bT,bF,eN];(refine gq2 @zy ?_;try with_reducible exact True.intro);refine zu hl ?_;have:decide (((bcs r).length:Int)>64)=decide (r.length>64):=by simp[bcs];omega
 rw[this];exact hK
theorem gq7 {A P Q:Prop}(a:A)(h:Q)(e:A->P=Q:=by intro a;simp -dsimp only[↓zlC,↓zbR,↓zeb,↓zlD,↓zlu,↓zls,↓zlv,↓zlt,↓zeg,↓zec,↓zeh,↓zed,↓zlw,↓zdX,↓zei,↓zee,↓zej,↓zef,↓zlq,↓zlA,↓zdW,↓zem,↓zli,↓zlh,↓zln,iN,bT,bF,eN,↓zev,↓unC,↓zaC,↓zai,↓zaj,↓zav,↓zaW,↓zah,↓zgy,↓zaw,↓zbd,↓zad,↓ze,↓zl,↓zbg,↓zc,↓zaV,↓zN,↓zbS,↓zcl,↓zf,↓zF,↓zp,↓zM,↓zaB,↓zgF,↓zhG,↓zbc,↓zbz,↓zcf,↓zcz,↓zdj,↓zJ,↓zbb,↓zak,↓zO,↓zaU,zho,zdP,zdy,unA,zgu,bnd,ziP,zaO,zL,zhY,dm,dm1,zH,zaJ,zjT,zjS,keepO,Q0,Q1,Q2,Q3,Q4,Q5,zba,zA,zB,zX,zaa,Q6,Q7,Q8,Q9,Q10,Q11,Q12,Q13,Q14,Nat.reduceAdd,Q15,Int.reduceToNat,Q16,Q17,Q18,Q19,Q20,reduceIte,Q21,Q22,dmT,zck,a];rfl):P:=(e a).mpr h
theorem zoR {a:List (List UInt8)}(ha:a.length<=1073741824){K:KT}(hK:K (.d (.bool (a.any fun r=>decide (r.length>64)))) σ) :
  zP zbl [.d (.slice (zdv a)),.fn (.func zlm) [] []] σ K:=by
 refine zen zeY fun hl=>?_;simp only[zcr,iN,bT,bF,eN];(refine gq2 @zy ?_;try with_reducible exact True.intro);refine zen zfz fun hl=>?_;simp only[zcR,iN,bT,bF,eN];(refine gq2 @zy ?_;try with_reducible exact True.intro);refine zn a.length (fun k vs s=>vs=[.d (.int .i64 k)]/\s=σ/\∀r∈a.take k,¬r.length>64) ⟨rfl,rfl,by simp⟩ ?_;rintro k vs s hk ⟨rfl,rfl,htk⟩;(refine gq2 @zy ?_;try with_reducible exact True.intro);refine zV (fun h=>?_) (fun h=>?_)
 ·have hka:k<a.length:=by exact zou
  have hx:a[k]? = some a[k]:=by simp[hka]
  (refine gq2 (zd (zgA hx) @zy) ?_;try with_reducible exact True.intro);refine And.intro (by omega) (c_Check_1 ?_);(refine gq2 @zy ?_;try with_reducible exact True.intro);refine zV (fun h=>?_) (fun h=>?_)
  ·refine zu hl ?_;(refine gq7 @zy ?_;try with_reducible exact True.intro);refine zu hl ?_;have e1:decide ((k:Int)≥0)=true:=by simp
   have e2:(a.any fun r=>decide (r.length>64))=true:=by
    rw[List.any_eq_true];exact⟨a[k],List.getElem_mem _,h⟩
   rw[e2]at hK;simp only[zck,dmT,dm,dm1];rw[e1];exact hK
  ·(refine gq2 @zy ?_;try with_reducible exact True.intro);refine zaF.next hka ⟨?_,rfl,fun r hr=>?_⟩
   ·rw[zaT (by omega) (by omega)];rfl
   ·rw[List.take_add_one,hx]at hr;rcases List.mem_append.1 hr with hr|hr
    ·exact htk r hr
    ·have:r=a[k]:=by simpa using hr
     subst this;simpa using h
 ·refine zu hl ?_;(refine gq7 @zy ?_;try with_reducible exact True.intro);refine zu hl ?_;have e2:(a.any fun r=>decide (r.length>64))=false:=by
   rw[List.any_eq_false];intro r hr;have hk':k=a.length:=by exact zou
   rw[hk',List.take_length]at htk;simpa using htk r hr
  rw[e2]at hK;exact hK
theorem gq8 {P Q:Prop}(h:Q)(e:P=Q:=by simp -dsimp only[↓zlC,↓zbR,↓zeb,↓zlD,↓zlu,↓zls,↓zlv,↓zlt,↓zeg,↓zec,↓zeh,↓zed,↓zlw,↓zdX,↓zei,↓zee,↓zej,↓zef,↓zlq,↓zlA,↓zdW,↓zem,↓zli,↓zlh,↓zln,iN,bT,bF,eN,↓zev,↓unC,↓zaC,↓zai,↓zaj,↓zav,↓zaW,↓zah,↓zgy,↓zaw,↓zbd,↓zad,↓ze,↓zl,↓zbg,↓zc,↓zaV,↓zN,↓zbS,↓zcl,↓zf,↓zF,↓zp,↓zM,↓zaB,↓zgF,↓zhG,↓zbc,↓zbz,↓zcf,↓zcz,↓zdj,↓zJ,↓zbb,↓zak,↓zO,↓zaU,zho,zdP,zdy,unA,zgu,bnd,ziP,zaO,zL,zhY,dm,dm1,zH,zaJ,zjT,zjS,keepO,Q0,Q1,Q2,Q3,Q4,Q5,zba,zA,zB,zX,zaa,Q6,Q7,Q8,Q9,Q10,Q11,Q12,Q13,Q14,Nat.reduceAdd,Q15,Int.reduceToNat,Q16,Q17,Q18,Q19,Q20,reduceIte,Q21,Q22,zy,rep,zaq,zhV,toD,zaD,Q23,Q24,Q25,Q26,Q27,Q28,Nat.reduceLeDiff,Q29,Nat.reduceSub,Q30,Q31,Q32,sc,Q33,Q34,Q35,Bool.and_false,Bool.and_self,Bool.false_and,Bool.not_false,Bool.not_true,Bool.true_and,Int.toNat_natCast,Int.toNat_zero,List.drop_zero,List.length_map,List.length_nil,List.nil_append,List.take_length,Nat.sub_zero,Nat.zero_add,Option.isSome_none,Option.isSome_some,Option.map_none,Option.map_some,zam,beq_self_eq_true,bne_self_eq_false,zcj,zhL,zag,zdd,zsi,zce,zow,opA,opD,zfy,zgo,zay];rfl):P:=e.mpr h
theorem zxc {o:TOp}(ht:o.topic.length<=1073741824)(hg:o.group.length<=1073741824)(hr:o.recs.length<=1073741824){K:KT}(hK:K (.d (.int .i64 (zaM zdY o))) σ):zP zms [opA o] σ K:=by
 refine zey e_op_Check fun hl=>?_;simp only[zzG,iN,bT,bF,eN,zl2,opA];(refine gq4 ?_;try with_reducible exact True.intro);refine c_only (o:=o) ?_;have honly:(zot o).recs.length<=1073741824:=by unfold zot noOp;split<;>(try split)<;>(try split)<;>(try split)<;>simp<;>omega
 (refine gq8 ?_;try with_reducible exact True.intro);repeat' first
  | (refine gq4 ?_;try with_reducible exact True.intro)
  | refine c_Same (a:=o) (b:=zot o) hr honly ?_
  | refine c_Name ht ?_
  | refine c_Name hg ?_
  | refine zoR hr ?_
  | (refine zV (fun h=>?_) (fun h=>?_)<;>(try rw[h]))
  | ((with_reducible refine And.intro ?_ ?_);focus(first|omega|rfl|decide))
 all_goals refine zu hl ?_
 all_goals(try simp only[decide_eq_true_eq,decide_eq_false_iff_not,beq_iff_eq,beq_eq_false_iff_ne,bne_iff_ne,ne_eq,Bool.not_eq_true',Bool.not_eq_false',bne_eq_false_iff_eq]at *)
 all_goals
  simp only[zck,dmT,dm,dm1]
  have e:∀z:Int,zaM zdY o=z->K (.d (.int .i64 z)) σ:=fun z hz=>by rw[← hz];exact hK
  clear hK
  apply e
  first
  | grind [zaM]
  | skip
variable {σ:List AObj}
def zoH (k:Int):Bool:=decide (1<=k/\k<=4)
def zsn (k:Int):Bool:=decide (k=3)
def fOff (k:Int):Bool:=decide (k=3∨k=4)
def zAp (k:Int):Bool:=decide (k=2)
theorem c_fields {k:Int}{K:KT}(hK:K (.tup [.d (.bool (zoH k)),.d (.bool (zsn k)),.d (.bool (fOff k)),.d (.bool (zAp k))]) σ):zP zll [.d (.int .i64 k)] σ K:=by
 refine zey e_r06_fields fun hl=>?_;simp only[zuz,iN,bT,bF,eN];(repeat'(first|(refine gq4 ?_;try with_reducible exact True.intro)|(refine zV (fun h=>?_) (fun h=>?_)<;>(try rw[h]))|((with_reducible refine And.intro ?_ ?_);focus(first|omega|rfl|decide))));all_goals refine zu hl ?_
 all_goals(try simp only[decide_eq_true_eq,decide_eq_false_iff_not,beq_iff_eq,beq_eq_false_iff_ne,bne_iff_ne,ne_eq,Bool.not_eq_true',Bool.not_eq_false',bne_eq_false_iff_eq]at *)
 all_goals
  simp only[zck,dmT,dm,dm1,List.map_cons,List.map_nil]
  have e:∀a b c d:Bool,zoH k=a->zsn k=b->fOff k=c->zAp k=d->K (.tup [.d (.bool a),.d (.bool b),.d (.bool c),.d (.bool d)]) σ:=fun a b c d h1 h2 h3 h4=>by rw[← h1,← h2,← h3,← h4];exact hK
  clear hK
  apply e<;>simp[zoH,zsn,fOff,zAp]<;>omega
theorem onlyF_iff (o:TOp):o=zot o↔(zoH o.kind=false->o.topic=[])/\(zsn o.kind=false->o.group=[])/\(fOff o.kind=false->o.offset=0)/\(zAp o.kind=false->o.recs=[]):=by
 obtain⟨k,t,g,f,r⟩:=o;simp only[zot,noOp,zoH,zsn,fOff,zAp,decide_eq_false_iff_not];by_cases h1:k=1
 ·subst h1;simp
 by_cases h2:k=2
 ·subst h2;simp
 by_cases h3:k=3
 ·subst h3;simp
 by_cases h4:k=4
 ·subst h4;simp
 ·have:¬(1<=k/\k<=4):=by omega
  simp[h1,h2,h3,h4,this]
set_option maxHeartbeats 2000000 in
theorem zAH {σ:List AObj}{o:TOp}(ht:o.topic.length<=1073741824)(hg:o.group.length<=1073741824)(hr:o.recs.length<=1073741824){K:KT}(hK:K (.d (.int .i64 (zaM zdY o))) σ):zP zku [opA o] σ K:=by
 refine zey e_r06_Check fun hl=>?_;simp only[zxw,iN,bT,bF,eN,opA];(refine gq4 ?_;try with_reducible exact True.intro);refine c_fields ?_;have fin:∀z:Int,zaM zdY o=z->K (.d (.int .i64 z)) σ:=fun z hz=>by rw[← hz];exact hK
 have honly:=onlyF_iff o;have hkind:zoH o.kind=true->ziC o=true:=by simp[zoH,ziC];omega
 have hk1:zoH o.kind=true↔(ziC o=true/\o.kind≠0):=by simp[zoH,ziC];omega
 have hk2:zsn o.kind=true↔o.kind=3:=by simp[zsn]
 have hk3:zAp o.kind=true↔o.kind=2:=by simp[zAp]
 have hk4:ziC o=true↔(0<=o.kind/\o.kind<=4):=by simp[ziC]
 have hnil:o.recs=[]↔o.recs.length=0:=List.length_eq_zero_iff.symm;clear hK;repeat' first
  | (refine gq4 ?_;try with_reducible exact True.intro)
  | refine c_rName ht ?_
  | refine c_rName hg ?_
  | (refine zV (fun h=>?_) (fun h=>?_)<;>(try rw[h]))
  | ((with_reducible refine And.intro ?_ ?_);focus(first|omega|rfl|decide))
 all_goals first
  | (
   refine zu hl ?_
   (try simp only[decide_eq_true_eq,decide_eq_false_iff_not,beq_iff_eq,beq_eq_false_iff_ne,bne_iff_ne,ne_eq,Bool.not_eq_true',Bool.not_eq_false',bne_eq_false_iff_eq]at *)
   simp only[zck,dmT,dm,dm1]
   apply fin
   grind [zaM])
  | skip
 all_goals
  refine zn o.recs.length (fun k vs s=>vs=[.d (.int .i64 k)]/\s=σ++[.box [.d (.int .i64 o.kind),.d (.str o.topic),.d (.str o.group),.d (.int .i64 o.offset),.d (.slice (zdv o.recs))]]/\∀r∈o.recs.take k,¬r.length>64) ⟨rfl,rfl,by simp⟩ ?_
  rintro k vs s hk ⟨rfl,rfl,htk⟩
  (refine gq2 @zy ?_;try with_reducible exact True.intro)
  refine zV (fun h=>?_) (fun h=>?_)
  ·have hka:k<o.recs.length:=by exact zou
   have hx:o.recs[k]? = some o.recs[k]:=by simp[hka]
   have hmem:o.recs[k]∈o.recs:=List.getElem_mem _
   have hbl:(bcs o.recs[k]).length=o.recs[k].length:=by simp[bcs]
   (refine gq2 (zd (zgA hx) @zy) ?_;try with_reducible exact True.intro)
   refine And.intro (by omega) ?_
   refine zV (fun h=>?_) (fun h=>?_)
   ·have hany:(o.recs.any fun r=>decide (r.length>64))=true:=by
     rw[List.any_eq_true];exact⟨_,hmem,by exact zou⟩
    refine zu hl ?_
    (try simp only[decide_eq_true_eq,decide_eq_false_iff_not,beq_iff_eq,beq_eq_false_iff_ne,bne_iff_ne,ne_eq,Bool.not_eq_true',Bool.not_eq_false',bne_eq_false_iff_eq]at *)
    simp only[zck,dmT,dm,dm1]
    apply fin
    grind [zaM]
   ·(refine gq2 @zy ?_;try with_reducible exact True.intro)
    refine zaF.next hka ⟨?_,rfl,fun r hr=>?_⟩
    ·rw[zaT (by omega) (by omega)];rfl
    ·rw[List.take_add_one,hx]at hr
     rcases List.mem_append.1 hr with hr|hr
     ·exact htk r hr
     ·have:r=o.recs[k]:=by simpa using hr
      subst this
      exact zou
  ·have hany:(o.recs.any fun r=>decide (r.length>64))=false:=by
    rw[List.any_eq_false];intro r hr;have hk':k=o.recs.length:=by exact zou
    rw[hk',List.take_length]at htk;simpa using htk r hr
   clear htk
   (repeat'(first|(refine gq4 ?_;try with_reducible exact True.intro)|(refine zV (fun h=>?_) (fun h=>?_)<;>(try rw[h]))|((with_reducible refine And.intro ?_ ?_);focus(first|omega|rfl|decide))))
   all_goals
    refine zu hl ?_
    (try simp only[decide_eq_true_eq,decide_eq_false_iff_not,beq_iff_eq,beq_eq_false_iff_ne,bne_iff_ne,ne_eq,Bool.not_eq_true',Bool.not_eq_false',bne_eq_false_iff_eq]at *)
    simp only[zck,dmT,dm,dm1]
    apply fin
    grind [zaM]
end Go.Proofs.YtdgcepphjnoalaaGreat
