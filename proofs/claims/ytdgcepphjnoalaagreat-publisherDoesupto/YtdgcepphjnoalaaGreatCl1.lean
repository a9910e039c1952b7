/- Contracts: bytes.Clone. -/
import Derived.Test.YtdgcepphjnoalaaGreatSh
import Derived.IntWalk
import GoSem.Core.Utf8
set_option linter.all false
set_option maxRecDepth 100000
namespace Go.Proofs.YtdgcepphjnoalaaGreat
open Go.AW
variable {σ:List AObj} {K:KT}
theorem zka {es:List (List D)}(he:∀e∈es,e.length=1)(hn:es.length<=1073741824)(hK:K (.own σ.length es) (σ++[.tok 1 es.length])):zP zcV [.d (.slice es)] σ K:=by
 refine ACall.tok he ?_ hK;refine zbN znr.is rfl (fun s=>if s.length=σ.length then []else [σ.length]) fun hl _=>znr.goes ?_;simp only[znB,iN,bT,bF,eN,zaA,zgx];cases es with
 | nil=>
  refine⟨?_,?_⟩
  ·simp only[zaB,zak,zH]
   exact znn (by simp) hl rfl (by simp)
  ·simp only[zaB,zO,zH,zL,rep,zp,zhW,zaC,zM,zic]
   refine⟨by simp,by simp,by simp,?_⟩
   exact zmA hl (by simp) (by simp)
 | cons e es=>
  simp only[zaB,zO,zH,zL,rep,zp,zhW,zaC,zM,zic]
  refine⟨he,by simp,by simp at hn ⊢;omega,?_⟩
  exact zmA hl (by simp) (by simp)
variable {σ:List AObj} {K:KT}
theorem zAv {es:List (List D)}(he:∀e∈es,e.length=1)(hK:K (.exact es) σ):zP zeW [.d (.slice es)] σ K:=by
 refine zbN zhM.is rfl (fun _=>[]) fun hl _=>zhM.goes ?_;simp only[zhT,iN,bT,bF,eN,gF,gT,gFm,gTm,fl,nfl,gFl,gTl,il,cp,orC,anC,cA,bP,z1,z2,m1,List.map_cons,List.map_nil,zag,zgx,zgA,bnd,ziS,zH];refine⟨rfl,trivial,by omega,by omega,by omega,he,?_⟩;simp only[zsH,zAL,getL,zvQ,zcm,zeL];simpa using ⟨hl,hK⟩
theorem znx {a b:List UInt8}(hK:K (.d (.bool (a==b))) σ):zP zhH [.d (.slice (bcs a)),.d (.slice (bcs b))] σ K:=by
 refine zeq zAo fun hl=>?_;simp only[zsE,iN,bT,bF,eN,gF,gT,gFm,gTm,fl,nfl,gFl,gTl,il,cp,orC,anC,cA,bP,z1,z2,m1,List.map_cons,List.map_nil,zaw,zgx,ziC,zes,zhr,zdB,zH];exact zwo (by simp[zhe,dmT,dm,dm1,zcm]) hl hK
end Go.Proofs.YtdgcepphjnoalaaGreat

/- How a number is put: seven bits a byte. No program in sight. -/
namespace Go.AW
def zbv (n:Nat):List UInt8:=if n<128 then [UInt8.ofNat n]else UInt8.ofNat (n % 128+128)::zbv (n / 128)
termination_by n
decreasing_by omega
theorem zpx {n:Nat}(h:n<128):zbv n=[UInt8.ofNat n]:=by rw[zbv,if_pos h]
theorem zzR {n:Nat}(h:¬n<128):zbv n=UInt8.ofNat (n % 128+128)::zbv (n / 128):=by rw[zbv,if_neg h]
theorem numB_len:∀(k n:Nat),n<128 ^ (k+1)→1<=(zbv n).length/\(zbv n).length<=k+1
 | 0,n,h=>by rw[zpx (by simpa using h)];simp
 | k+1,n,h=>by
  by_cases hs:n<128
  ·rw[zpx hs];simp
  ·rw[zzR hs];have:=numB_len k (n / 128) (by rw[Nat.div_lt_iff_lt_mul (by omega)];rw[Nat.pow_succ]at h;exact h);simp;omega
theorem zl {n:Nat}(h:n<18446744073709551616):1<=(zbv n).length/\(zbv n).length<=10:=numB_len 9 n (by omega)
theorem or128:∀x:Fin 256,(BitVec.ofInt 8 (x.val:Int) ||| BitVec.ofInt 8 128).toNat=x.val % 128+128:=by decide +kernel
theorem wrap8 (n:Nat):IntKind.u8.wrap (n:Int)=((n % 256:Nat):Int):=by
 simp[IntKind.wrap,IntKind.signed,IntKind.bits]
theorem zva {n:Nat}(h:n<256):IntKind.u8.wrap (n:Int)=(n:Int):=by rw[wrap8,Nat.mod_eq_of_lt h]
theorem zdW {n:Nat}(h:n<18446744073709551616):IntKind.u64.wrap (n:Int)=(n:Int):=by
 simp[IntKind.wrap,IntKind.signed,IntKind.bits];omega
theorem zaW {n:Int}(h1:-9223372036854775808<=n)(h2:n<=9223372036854775807):IntKind.i64.wrap n=n:=IntWalk.i64_in n ⟨h1,h2⟩
theorem zpM {n:Nat}(h:n<256):((UInt8.ofNat n).toNat:Int)=(n:Int):=by
 simp;omega
end Go.AW

/- Contracts: how numbers and byte strings are put. -/
set_option maxRecDepth 100000
namespace Go.Proofs.YtdgcepphjnoalaaGreat
open Go.AW
variable {σ:List AObj} {K:KT}
def bva (bs:List UInt8):List AV:=bs.map fun b=>.d (.int .u8 (b.toNat:Int))
def zit (bs:List UInt8):List AV:=bva bs++List.replicate (10-bs.length) (.d (.int .u8 0))
theorem zye {pre:List UInt8}{b:UInt8}(h:pre.length<10):zaq (zit pre) pre.length [.d (.int .u8 (b.toNat:Int))]=zit (pre++[b]):=by
 simp only[zaq,zit,bva,List.length_singleton];obtain⟨m,hm⟩:∃m,10-pre.length=m+1:=⟨9-pre.length,by omega⟩;rw[hm,List.take_left' (by simp),List.drop_append];simp only[List.length_map];rw[List.drop_eq_nil_of_le (by simp),show pre.length+1-pre.length=1 by omega,List.replicate_succ];simp[List.length_append,show 10-(pre.length+1)=m by omega]
theorem byte_or (m:Nat):IntKind.u8.wrap ↑(BitVec.ofInt IntKind.u8.bits (IntKind.u8.wrap (m:Int)) ||| BitVec.ofInt IntKind.u8.bits 128).toNat=((UInt8.ofNat (m % 128+128)).toNat:Int):=by
 rw[wrap8 m,show IntKind.u8.bits=8 from rfl,or128 ⟨m % 256,by omega⟩,zva (by simp;omega),zpM (by omega)];simp
theorem byte_wrap {m:Nat}(h:m<128):IntKind.u8.wrap (m:Int)=((UInt8.ofNat m).toNat:Int):=by
 rw[zva (by omega),zpM (by omega)]
theorem shr7 (m:Nat):((m:Int)).fdiv (2 ^ min 7 IntKind.u64.bits)=((m / 128:Nat):Int):=by
 rw[show min 7 IntKind.u64.bits=7 from rfl,Int.fdiv_eq_ediv_of_nonneg _ (by decide)];rfl
theorem zrP {pre:List UInt8}(h:pre.length<=10):(zit pre).length=10:=by simp[zit,bva];omega
theorem pad10_sc (pre:List UInt8):(zit pre).all sc=true:=by
 simp only[zit,bva,List.all_append,List.all_map,List.all_replicate,Bool.and_eq_true];refine⟨by simp[sc],?_⟩;cases 10-pre.length<;>simp[sc]
theorem pad10_d (pre:List UInt8):zit pre=((pre.map fun b=>D.int .u8 (b.toNat:Int))++List.replicate (10-pre.length) (D.int .u8 0)).map AV.d:=by
 simp[zit,bva,Function.comp_def]
theorem gq1 {P Q:Prop}(h:Q)(e:P=Q:=by simp -dsimp only[↓zlG,↓zbS,↓zee,↓zlH,↓zly,↓zlw,↓zlz,↓zlx,↓zej,↓zef,↓zek,↓zeg,↓zlA,↓zeb,↓zel,↓zeh,↓zem,↓zei,↓zlv,↓zlE,↓zea,↓zep,↓zln,↓zlm,↓zlt,iN,bT,bF,eN,↓zes,↓unC,↓zaB,↓zah,↓zai,↓zav,↓zaX,↓zag,↓zgA,↓zaw,↓zbf,↓zad,↓ze,↓zj,↓zaR,↓zc,↓zaV,↓zN,↓zbT,↓zcl,↓zf,↓zF,↓zp,↓zM,↓zaA,↓zgH,↓zhI,↓zbc,↓zby,↓zcf,↓zcA,↓zdo,↓zJ,↓zbb,↓zak,↓zO,↓zaU,zhr,zdU,zdB,unA,zgx,bnd,ziS,zaO,zL,zic,dm,dm1,zH,zaF,zjW,zjV,keepO,Q0,Q1,Q2,Q3,Q4,Q5,zba,zA,zB,zY,zab,Q6,Q7,Q8,Q9,Q10,Q11,Q12,Q13,Q14,Nat.reduceAdd,Q15,Int.reduceToNat,Q16,Q17,Q18,Q19,Q20,reduceIte,Q21,Q22];rfl):P:=e.mpr h
theorem gq2 {A P Q:Prop}(a:A)(h:Q)(e:A->P=Q:=by intro a;simp -dsimp only[↓zlG,↓zbS,↓zee,↓zlH,↓zly,↓zlw,↓zlz,↓zlx,↓zej,↓zef,↓zek,↓zeg,↓zlA,↓zeb,↓zel,↓zeh,↓zem,↓zei,↓zlv,↓zlE,↓zea,↓zep,↓zln,↓zlm,↓zlt,iN,bT,bF,eN,↓zes,↓unC,↓zaB,↓zah,↓zai,↓zav,↓zaX,↓zag,↓zgA,↓zaw,↓zbf,↓zad,↓ze,↓zj,↓zaR,↓zc,↓zaV,↓zN,↓zbT,↓zcl,↓zf,↓zF,↓zp,↓zM,↓zaA,↓zgH,↓zhI,↓zbc,↓zby,↓zcf,↓zcA,↓zdo,↓zJ,↓zbb,↓zak,↓zO,↓zaU,zhr,zdU,zdB,unA,zgx,bnd,ziS,zaO,zL,zic,dm,dm1,zH,zaF,zjW,zjV,keepO,Q0,Q1,Q2,Q3,Q4,Q5,zba,zA,zB,zY,zab,Q6,Q7,Q8,Q9,Q10,Q11,Q12,Q13,Q14,Nat.reduceAdd,Q15,Int.reduceToNat,Q16,Q17,Q18,Q19,Q20,reduceIte,Q21,Q22,a];rfl):P:=(e a).mpr h
theorem c_form {n:Nat}(hn:n<18446744073709551616)(hK:K (.tup [.agg (zit (zbv n)),.d (.int .i64 (zbv n).length)]) σ):zP zoz [.d (.int .u64 n)] σ K:=by
 refine zeA e_codec_form fun hl=>?_;simp only[zus,iN,bT,bF,eN,zad];have hlen:=zl hn;refine zn 10 (fun k vs s=>∃(m:Nat) (pre:List UInt8),k=pre.length/\vs=[.d (.int .u64 m),.d (.int .i64 k)]/\zbv n=pre++zbv m/\m<18446744073709551616 ∧
   s=σ++[.box (zit []),.box (zit pre)]) ⟨n,[],rfl,rfl,rfl,hn,by simp[zit,bva]⟩ ?_
 rintro k vs s hk ⟨m,pre,rfl,rfl,hpre,hm,rfl⟩;have hm10:=zl hm;have hpl:pre.length+(zbv m).length<=10:=by rw[hpre]at hlen;simpa using hlen.2
 have hp:pre.length<10:=by omega
 (refine gq1 ?_;try with_reducible exact True.intro);refine zW (fun h=>?_) (fun h=>?_);all_goals(try(refine gq2 h ?_;try with_reducible exact True.intro))
 ·have h1:¬m<128:=by simp at h;omega
  have h2:=zzR h1;rw[h2]at hpl;simp at hpl;rw[byte_or,shr7,zye hp];refine⟨by omega,by omega,by have:=zrP (pre:=pre) (by omega);omega,by simp[sc],by omega,?_⟩;refine zaK.next (by omega) ⟨m / 128,pre++[UInt8.ofNat (m % 128+128)],by simp,?_,by rw[hpre,h2];simp,by omega,rfl⟩;rw[zaW (by omega) (by omega)];rfl
 ·have h1:m<128:=by simp at h;omega
  have h2:=zpx h1;rw[byte_wrap h1,zye hp];have hp1:(zit (pre++[UInt8.ofNat m])).length=10:=zrP (by simp;omega);have hsp:zaq (zit []) 0 (zit (pre++[UInt8.ofNat m]))=zit (pre++[UInt8.ofNat m]):=by
   simp only[zaq,Nat.zero_add,List.take_zero,List.nil_append];rw[hp1,List.drop_eq_nil_of_le (by simp[zit,bva]),List.append_nil]
  have htk:List.take 10 (List.drop 0 (zit (pre++[UInt8.ofNat m])))=zit (pre++[UInt8.ofNat m]):=by
   rw[List.drop_zero,List.take_of_length_le (by omega)]
  rw[htk,hsp,htk,if_pos (by omega)];refine⟨by omega,by omega,by have:=zrP (pre:=pre) (by omega);omega,by simp[sc],by omega,by omega,by simp[zit,bva],pad10_sc _,?_⟩;have hd:dmT (zcm [.agg (zit (pre++[UInt8.ofNat m])),.d (.int .i64 (IntKind.i64.wrap (↑pre.length+1)))])=.tup [.agg (zit (pre++[UInt8.ofNat m])),.d (.int .i64 (zbv n).length)]:=by
   rw[zaW (by omega) (by omega),hpre,h2];simp only[zcm,dmT,List.map_cons,List.map_nil,dm,pad10_d,map_dm1_d,dm1];rw[List.length_append];rfl
  refine ztr ?_ hl ?_
  ·rw[hd,pad10_d,zbu];intro c hc;rcases List.mem_cons.1 hc with rfl|hc
   ·exact .agg _ (zmv _ _)
   ·have hc:=List.mem_singleton.1 hc;subst hc;exact .d _
  ·rw[hd];rw[hpre,h2]at hK ⊢;exact hK
theorem toDs_bva (bs:List UInt8)(r:List AV)(ds:List D)(h:zhW r=some ds):zhW (bva bs++r)=some ((bs.map fun b=>D.int .u8 (b.toNat:Int))++ds):=by
 induction bs with
 | nil=>simpa [bva] using h
 | cons b bs ih=>simp only[bva,List.map_cons,List.cons_append,zhW,toD]at ih ⊢;rw[ih]
theorem chunks1 (bs:List UInt8):zaC 1 bs.length (bs.map fun b=>D.int .u8 (b.toNat:Int))=bcs bs:=by
 induction bs with
 | nil=>rfl
 | cons b bs ih=>simp only[List.length_cons,List.map_cons,zaC,bcs,List.take_succ_cons,List.take_zero,List.drop_succ_cons,List.drop_zero]at ih ⊢;rw[ih];rfl
theorem zfy {b:List UInt8}{n:Nat}(hn:n<18446744073709551616)(hb:b.length<=1073741824)(hK:K (.own σ.length (bcs (b++zbv n))) (σ++[.tok 1 (b++zbv n).length])) :
  zP zaS [.d (.slice (bcs b)),.d (.int .u64 n)] σ K:=by
 refine zbN zqq.is rfl (fun s=>[σ.length+1]) fun hl _=>zqq.goes ?_;have hlen:=zl hn;simp only[zqL,iN,bT,bF,eN,gF,gT,gFm,gTm,fl,nfl,gFl,gTl,il,cp,orC,anC,cA,bP,z1,z2,m1,List.map_cons,List.map_nil];simp only[dm,dm1];refine c_form hn ?_;have hp:=zrP hlen.2;have hsp:zaq (List.replicate 10 (AV.d (D.int .u8 0))) 0 (zit (zbv n))=zit (zbv n):=by
  simp only[zaq,Nat.zero_add,List.take_zero,List.nil_append];rw[hp,List.drop_eq_nil_of_le (by simp),List.append_nil]
 have hrep:[AV.d (D.int .u8 0),.d (.int .u8 0),.d (.int .u8 0),.d (.int .u8 0),.d (.int .u8 0),.d (.int .u8 0),.d (.int .u8 0),.d (.int .u8 0),.d (.int .u8 0),.d (.int .u8 0)]=List.replicate 10 (AV.d (D.int .u8 0)):=rfl;(refine gq1 ?_;try with_reducible exact True.intro);refine⟨hp,by omega,pad10_sc _,by omega,by omega,by omega,by omega,?_⟩;refine zAv ziD ?_;rw[hrep,hsp];(refine gq1 ?_;try with_reducible exact True.intro);have htk:zhW (List.take ((zbv n).length-Int.toNat 0) (List.drop (Int.toNat 0) (zit (zbv n))))=some ((zbv n).map fun b=>D.int .u8 (b.toNat:Int)):=by
  simp only[Int.toNat_zero,Nat.sub_zero,List.drop_zero];rw[zit,List.take_left' (by simp[bva])];have:=toDs_bva (zbv n) [] [] rfl;simpa using this
 simp only[Int.toNat_zero]at htk;rw[htk,if_pos (by omega),Nat.sub_zero];simp only[Option.map_some,chunks1];refine⟨ziD,ziD,by simp[bcs];omega,?_⟩;rw[ztI];refine zoG rfl hl (by omega) (by rw[zA];rfl) ?_;simpa [bcs] using hK
theorem zpL {b x:List UInt8}(hx:x.length<=1073741824)(hb:b.length<=1073741800)(hK:K (.own σ.length (bcs (b++(zbv x.length++x)))) (σ++[.tok 1 (b++(zbv x.length++x)).length])) :
  zP zdg [.d (.slice (bcs b)),.d (.slice (bcs x))] σ K:=by
 refine zbN znH.is rfl (fun s=>[σ.length]) fun hl _=>znH.goes ?_;have hlen:=zl (n:=x.length) (by omega);(simp only[znU];refine gq1 ?_;try with_reducible exact True.intro);have hw:IntKind.u64.wrap ((bcs x).length:Int)=(x.length:Int):=by rw[zdW (by simp[bcs];omega)];simp[bcs]
 rw[hw];refine zfy (by omega) (by omega) ?_;(refine gq1 ?_;try with_reducible exact True.intro);refine⟨ziD,by simp[bcs];omega,by simp[bcs],?_⟩;rw[ztI];simp only[List.append_assoc];refine zmA hl rfl ?_;simpa [bcs,Nat.add_assoc] using hK
theorem div128 {m:Nat}(h:m<18446744073709551616):IntKind.u64.wrap ((m:Int).tdiv 128)=((m / 128:Nat):Int):=by
 rw[show((m:Int).tdiv 128)=((m / 128:Nat):Int)from by rw[Int.tdiv_eq_ediv_of_nonneg (by omega)];rfl,zdW (by omega)]
theorem rem128 (m:Nat):(m:Int).tmod 128=((m % 128:Nat):Int):=by
 rw[Int.tmod_eq_emod_of_nonneg (by omega)];rfl
theorem gq3 {P Q:Prop}(h:Q)(e:P=Q:=by simp -dsimp only[↓zlG,↓zbS,↓zee,↓zlH,↓zly,↓zlw,↓zlz,↓zlx,↓zej,↓zef,↓zek,↓zeg,↓zlA,↓zeb,↓zel,↓zeh,↓zem,↓zei,↓zlv,↓zlE,↓zea,↓zep,↓zln,↓zlm,↓zlt,iN,bT,bF,eN,↓zes,↓unC,↓zaB,↓zah,↓zai,↓zav,↓zaX,↓zag,↓zgA,↓zaw,↓zbf,↓zad,↓ze,↓zj,↓zaR,↓zc,↓zaV,↓zN,↓zbT,↓zcl,↓zf,↓zF,↓zp,↓zM,↓zaA,↓zgH,↓zhI,↓zbc,↓zby,↓zcf,↓zcA,↓zdo,↓zJ,↓zbb,↓zak,↓zO,↓zaU,zhr,zdU,zdB,unA,zgx,bnd,ziS,zaO,zL,zic,dm,dm1,zH,zaF,zjW,zjV,keepO,Q0,Q1,Q2,Q3,Q4,Q5,zba,zA,zB,zY,zab,Q6,Q7,Q8,Q9,Q10,Q11,Q12,Q13,Q14,Nat.reduceAdd,Q15,Int.reduceToNat,Q16,Q17,Q18,Q19,Q20,reduceIte,Q21,Q22,rep,zaq,zhW,toD,zaC,Q23,Q24,Q25,Q26,Q27,Q28,Nat.reduceLeDiff,Q29,Nat.reduceSub,Q30,Q31,Q32,sc,Q33,Q34,Q35];rfl):P:=e.mpr h
theorem zeQ {b:List UInt8}{n:Nat}(hn:n<18446744073709551616)(hb:b.length<=1073741824)(hK:K (.own σ.length (bcs (b++zbv n))) (σ++[.tok 1 (b++zbv n).length])) :
  zP zbE [.d (.slice (bcs b)),.d (.int .u64 n)] σ K:=by
 refine zbN zuf.is rfl (fun s=>[σ.length]) fun hl _=>zuf.goes ?_;have hlen:=zl hn;(simp only[zup];refine gq1 ?_;try with_reducible exact True.intro);refine⟨ziD,by simp,by simp[bcs];omega,?_⟩;refine zn 10 (fun k vs s=>∃(m:Nat) (pre:List UInt8),k=pre.length/\vs=[.d (.int .u64 m),.own σ.length (bcs (b++pre))]/\zbv n=pre++zbv m/\m<18446744073709551616 ∧
   s=σ++[.tok 1 (b++pre).length]) ⟨n,[],rfl,by simp,rfl,hn,by simp[bcs]⟩ ?_
 rintro k vs s hk ⟨m,pre,rfl,rfl,hpre,hm,rfl⟩;have hm10:=zl hm;have hpl:pre.length+(zbv m).length<=10:=by rw[hpre]at hlen;simpa using hlen.2
 (refine gq1 ?_;try with_reducible exact True.intro);refine zW (fun h=>?_) (fun h=>?_);all_goals(try(refine gq2 h ?_;try with_reducible exact True.intro))
 ·have h1:¬m<128:=by simp at h;omega
  have h2:=zzR h1;rw[h2]at hpl;simp at hpl;have hc:IntKind.u8.wrap (IntKind.u8.wrap ((m:Int).tmod 128)+128)=((UInt8.ofNat (m % 128+128)).toNat:Int):=by
   rw[rem128,zva (by omega),zpM (by omega),show((m % 128:Nat):Int)+128=((m % 128+128:Nat):Int)from rfl];exact zva (by omega)
  (refine gq3 ?_;try with_reducible exact True.intro);rw[hc,div128 hm];refine⟨by decide,by simp,by simp[bcs];omega,by simp[bcs],by decide,?_⟩;refine zaK.next (by omega) ⟨m / 128,pre++[UInt8.ofNat (m % 128+128)],by simp,?_,by rw[hpre,h2];simp,by omega,?_⟩
  ·simp[bcs,zci]
  ·simp[bcs,Nat.add_assoc]
 ·have h1:m<128:=by simp at h;omega
  have h2:=zpx h1;(refine gq3 ?_;try with_reducible exact True.intro);rw[byte_wrap h1];refine⟨by simp,by simp[bcs];omega,by simp[bcs],?_⟩;rw[hpre,h2]at hK;have e:bcs (b++pre)++[[D.int .u8 ((UInt8.ofNat m).toNat:Int)]]=bcs (b++(pre++[UInt8.ofNat m])):=by simp[bcs,zci]
  rw[e];refine zmA hl rfl ?_;simpa [bcs,Nat.add_assoc] using hK
theorem zhd {b x:List UInt8}(hx:x.length<=1073741824)(hb:b.length<=1073741800)(hK:K (.own σ.length (bcs (b++(zbv x.length++x)))) (σ++[.tok 1 (b++(zbv x.length++x)).length])) :
  zP zcn [.d (.slice (bcs b)),.d (.slice (bcs x))] σ K:=by
 refine zbN zqp.is rfl (fun s=>[σ.length]) fun hl _=>zqp.goes ?_;have hlen:=zl (n:=x.length) (by omega);(simp only[zqD];refine gq1 ?_;try with_reducible exact True.intro);have hw:IntKind.u64.wrap ((bcs x).length:Int)=(x.length:Int):=by rw[zdW (by simp[bcs];omega)];simp[bcs]
 rw[hw];refine zeQ (by omega) (by omega) ?_;(refine gq1 ?_;try with_reducible exact True.intro);refine⟨ziD,by simp[bcs];omega,by simp[bcs],?_⟩;rw[ztI];simp only[List.append_assoc];refine zmA hl rfl ?_;simpa [bcs,Nat.add_assoc] using hK
end Go.Proofs.YtdgcepphjnoalaaGreat

/- Operations: what the document says of them. No program in sight. -/
namespace Go.AW
structure TOp where
 kind:Int
 topic:List UInt8
 group:List UInt8
 offset:Int
 recs:List (List UInt8)
deriving DecidableEq
def zdT (rs:List (List UInt8)):List (List D):=rs.map fun r=>[D.slice (bcs r)]
def opA (o:TOp):AV:=.agg [.d (.int .i64 o.kind),.d (.str o.topic),.d (.str o.group),.d (.int .i64 o.offset),.d (.slice (zdT o.recs))]
def noOp:TOp:=⟨0,[],[],0,[]⟩
theorem zy (rs:List (List UInt8)):(zdT rs).length=rs.length:=by simp[zdT]
theorem zgC {rs:List (List UInt8)}{k:Nat}{r:List UInt8}(h:rs[k]? = some r):(zdT rs)[k]? = some [D.slice (bcs r)]:=by simp[zdT,h]
def zor (o:TOp):TOp:=
 if o.kind=1 then{ noOp with kind:=o.kind,topic:=o.topic }
 else if o.kind=2 then{ noOp with kind:=o.kind,topic:=o.topic,recs:=o.recs }
 else if o.kind=3 then{ noOp with kind:=o.kind,topic:=o.topic,group:=o.group,offset:=o.offset }
 else if o.kind=4 then{ noOp with kind:=o.kind,topic:=o.topic,offset:=o.offset }
 else{ noOp with kind:=o.kind }
def ziH (o:TOp):Bool:=decide (0<=o.kind/\o.kind<=4)
def zaN (name:List UInt8->Bool) (o:TOp):Int:=
 if ziH o=false∨o≠zor o then 60
 else if o.kind≠0/\name o.topic=false then 61
 else if o.kind=3/\name o.group=false then 61
 else if o.kind=2/\(o.recs.length<1∨o.recs.length>4∨o.recs.any (fun r=>decide (r.length>64))=true)then 62
 else if o.offset<0∨o.offset>9007199254740992 then 60
 else 0
def zkq (x:List UInt8):List UInt8:=zbv x.length++x
def zrO (rs:List (List UInt8)):List UInt8:=(rs.map zkq).flatten
def opB (o:TOp):List UInt8:=
 zbv o.kind.toNat++((if o.kind≠0 then zkq o.topic else []) ++
  (if o.kind=2 then zbv o.recs.length++zrO o.recs else if o.kind=3 then zkq o.group++zbv o.offset.toNat else if o.kind=4 then zbv o.offset.toNat else []))
theorem opB_0 {o:TOp}(h:o.kind=0):opB o=zbv o.kind.toNat:=by simp[opB,h]
theorem opB_1 {o:TOp}(h:o.kind=1):opB o=zbv o.kind.toNat++(zbv o.topic.length++o.topic):=by simp[opB,h,zkq]
theorem opB_2 {o:TOp}(h:o.kind=2):opB o=zbv o.kind.toNat++(zbv o.topic.length++(o.topic++(zbv o.recs.length++zrO o.recs))):=by simp[opB,h,zkq]
theorem opB_3 {o:TOp}(h:o.kind=3):opB o=zbv o.kind.toNat++(zbv o.topic.length++(o.topic++(zbv o.group.length++(o.group++zbv o.offset.toNat)))):=by simp[opB,h,zkq]
theorem opB_4 {o:TOp}(h:o.kind=4):opB o=zbv o.kind.toNat++(zbv o.topic.length++(o.topic++zbv o.offset.toNat)):=by simp[opB,h,zkq]
def zmW (o:TOp):Nat:=o.topic.length+o.group.length+(o.recs.map fun r=>r.length+10).sum
theorem zdl {x:List UInt8}(h:x.length<18446744073709551616):(zkq x).length<=x.length+10:=by
 have:=zl h;simp only[zkq,List.length_append];omega
theorem zlY (rs:List (List UInt8))(h:(rs.map fun r=>r.length+10).sum<=1073741824):∀k,(zrO (rs.take k)).length<=(rs.map fun r=>r.length+10).sum:=by
 have key:∀l:List (List UInt8),(l.map fun r=>r.length+10).sum<=1073741824->(zrO l).length<=(l.map fun r=>r.length+10).sum:=by
  intro l;induction l with
  | nil=>simp[zrO]
  | cons r l ih=>
   intro h
   simp only[List.map_cons,List.sum_cons]at h ⊢
   have h1:=ih (by omega)
   have h2:=zdl (x:=r) (by omega)
   simp only[zrO,List.map_cons,List.flatten_cons,List.length_append]at h1 ⊢
   omega
 have sum_take:∀(l:List (List UInt8)) k,((l.take k).map fun r=>r.length+10).sum<=(l.map fun r=>r.length+10).sum:=by
  intro l;induction l with
  | nil=>simp
  | cons r l ih=>
   intro k
   cases k with
   | zero=>simp
   | succ k=>simp only[List.take_succ_cons,List.map_cons,List.sum_cons];have:=ih k;omega
 intro k;have h1:=sum_take rs k;have:=key (rs.take k) (by omega);omega
theorem zyj {rs:List (List UInt8)}{k:Nat}{r:List UInt8}(h:rs[k]? = some r):zrO (rs.take (k+1))=zrO (rs.take k)++zkq r:=by
 rw[List.take_add_one,h];simp[zrO]
theorem zmZ (rs:List (List UInt8)):rs.length<=(rs.map fun r=>r.length+10).sum:=by
 induction rs with
 | nil=>simp
 | cons r l ih=>simp only[List.map_cons,List.sum_cons,List.length_cons];omega
theorem rec_le {rs:List (List UInt8)}{r:List UInt8}(h:r∈rs):r.length<=(rs.map fun r=>r.length+10).sum:=by
 induction rs with
 | nil=>cases h
 | cons x l ih=>
  simp only[List.map_cons,List.sum_cons]
  rcases List.mem_cons.1 h with rfl|h
  ·omega
  ·have:=ih h;omega
theorem zvl {name:List UInt8->Bool}{o:TOp}(h:zaN name o=0):0<=o.kind/\o.kind<=4/\0<=o.offset/\o.offset<=9007199254740992/\o=zor o:=by
 unfold zaN ziH at h;grind
theorem zcu {α:Type}{a b:List α}(hl:a.length=b.length){k:Nat}(hk:k=a.length)(h:a.take k=b.take k):a=b:=by
 rw[hk,List.take_length,hl,List.take_length]at h;exact h
theorem zbq {α:Type}{a b:List α}{k:Nat}{x y:α}(ha:a[k]? = some x)(hb:b[k]? = some y)(h:a.take k=b.take k)(e:x=y):a.take (k+1)=b.take (k+1):=by
 rw[List.take_add_one,List.take_add_one,ha,hb,h,e]
end Go.AW

/- Contracts of operations: which are the same. -/
set_option maxRecDepth 100000
namespace Go.Proofs.YtdgcepphjnoalaaGreat
open Go.AW
variable {σ:List AObj} {K:KT}
theorem gq4 {P Q:Prop}(h:Q)(e:P=Q:=by simp -dsimp only[↓zlG,↓zbS,↓zee,↓zlH,↓zly,↓zlw,↓zlz,↓zlx,↓zej,↓zef,↓zek,↓zeg,↓zlA,↓zeb,↓zel,↓zeh,↓zem,↓zei,↓zlv,↓zlE,↓zea,↓zep,↓zln,↓zlm,↓zlt,iN,bT,bF,eN,↓zes,↓unC,↓zaB,↓zah,↓zai,↓zav,↓zaX,↓zag,↓zgA,↓zaw,↓zbf,↓zad,↓ze,↓zj,↓zaR,↓zc,↓zaV,↓zN,↓zbT,↓zcl,↓zf,↓zF,↓zp,↓zM,↓zaA,↓zgH,↓zhI,↓zbc,↓zby,↓zcf,↓zcA,↓zdo,↓zJ,↓zbb,↓zak,↓zO,↓zaU,zhr,zdU,zdB,unA,zgx,bnd,ziS,zaO,zL,zic,dm,dm1,zH,zaF,zjW,zjV,keepO,Q0,Q1,Q2,Q3,Q4,Q5,zba,zA,zB,zY,zab,Q6,Q7,Q8,Q9,Q10,Q11,Q12,Q13,Q14,Nat.reduceAdd,Q15,Int.reduceToNat,Q16,Q17,Q18,Q19,Q20,reduceIte,Q21,Q22,zy,rep,zaq,zhW,toD,zaC,Q23,Q24,Q25,Q26,Q27,Q28,Nat.reduceLeDiff,Q29,Nat.reduceSub,Q30,Q31,Q32,sc,Q33,Q34,Q35];rfl):P:=e.mpr h
theorem c_only {o:TOp}(hK:K (.tup [opA (zor o),.d (.bool (ziH o))]) σ):zP zvY [opA o] σ K:=by
 refine zeA e_op_only fun hl=>?_;simp only[S_op_only,iN,bT,bF,eN,zl2,opA];(repeat'(first|(refine gq4 ?_;try with_reducible exact True.intro)|(refine zW (fun h=>?_) (fun h=>?_)<;>(try rw[h]))|((with_reducible refine And.intro ?_ ?_);focus(first|omega|rfl|decide))));all_goals refine zu hl ?_
 all_goals simp only[beq_iff_eq,beq_eq_false_iff_ne,ne_eq]at *
 all_goals simp_all[zcm,dmT,dm,dm1,zor,noOp,opA,ziH,zdT]
 have e:(decide (0<=o.kind)&&decide (o.kind<=4))=false:=by simp;omega
 rw[e]at hK;exact hK
theorem c_Same_1 {a b:List UInt8}(hK:K (.d (.bool (a==b))) σ):zP znh [.d (.slice (bcs a)),.d (.slice (bcs b))] σ K:=by
 refine zeq e_op_Same_1 fun hl=>?_;(simp only[zxt];refine gq2 @zy ?_;try with_reducible exact True.intro);refine znx ?_;refine zu hl ?_;exact hK
theorem zd {A B:Prop}(a:A)(b:B):A/\B:=⟨a,b⟩
theorem gq5 {A P Q:Prop}(a:A)(h:Q)(e:A->P=Q:=by intro a;simp -dsimp only[↓zlG,↓zbS,↓zee,↓zlH,↓zly,↓zlw,↓zlz,↓zlx,↓zej,↓zef,↓zek,↓zeg,↓zlA,↓zeb,↓zel,↓zeh,↓zem,↓zei,↓zlv,↓zlE,↓zea,↓zep,↓zln,↓zlm,↓zlt,iN,bT,bF,eN,↓zes,↓unC,↓zaB,↓zah,↓zai,↓zav,↓zaX,↓zag,↓zgA,↓zaw,↓zbf,↓zad,↓ze,↓zj,↓zaR,↓zc,↓zaV,↓zN,↓zbT,↓zcl,↓zf,↓zF,↓zp,↓zM,↓zaA,↓zgH,↓zhI,↓zbc,↓zby,↓zcf,↓zcA,↓zdo,↓zJ,↓zbb,↓zak,↓zO,↓zaU,zhr,zdU,zdB,unA,zgx,bnd,ziS,zaO,zL,zic,dm,dm1,zH,zaF,zjW,zjV,keepO,Q0,Q1,Q2,Q3,Q4,Q5,zba,zA,zB,zY,zab,Q6,Q7,Q8,Q9,Q10,Q11,Q12,Q13,Q14,Nat.reduceAdd,Q15,Int.reduceToNat,Q16,Q17,Q18,Q19,Q20,reduceIte,Q21,Q22,Bool.and_false,Bool.and_self,Bool.false_and,Bool.not_false,Bool.not_true,Bool.true_and,Int.toNat_natCast,Int.toNat_zero,List.drop_zero,List.length_map,List.length_nil,List.nil_append,List.take_length,Nat.sub_zero,Nat.zero_add,Option.isSome_none,Option.isSome_some,Option.map_none,Option.map_some,zam,beq_self_eq_true,bne_self_eq_false,a];rfl):P:=(e a).mpr h
theorem zst {a b:List (List UInt8)}(ha:a.length<=1073741824)(hb:b.length<=1073741824)(hK:K (.d (.bool (a==b))) σ) :
  zP zan [.d (.slice (zdT a)),.d (.slice (zdT b)),.fn (.func znh) [] []] σ K:=by
 refine acE3 zcB fun hl=>?_;(simp only[zbd];refine gq2 @zy ?_;try with_reducible exact True.intro);refine zW (fun h=>?_) (fun h=>?_);all_goals(try(refine gq2 (zd h @zy) ?_;try with_reducible exact True.intro))
 ·refine zu hl ?_;have:(a==b)=false:=by
   rw[beq_eq_false_iff_ne];rintro rfl;simp at h
  rw[this]at hK;exact hK
 have hl2:a.length=b.length:=by simp at h;omega
 refine zn a.length (fun k vs s=>vs=[.d (.int .i64 k)]/\s=σ/\a.take k=b.take k) ⟨rfl,rfl,by simp⟩ ?_;rintro k vs s hk ⟨rfl,rfl,htk⟩;(refine gq2 @zy ?_;try with_reducible exact True.intro);refine zW (fun h=>?_) (fun h=>?_);all_goals(try(refine gq2 (zd h @zy) ?_;try with_reducible exact True.intro))
 ·have hka:k<a.length:=by simp at h;omega
  have hx:a[k]? = some a[k]:=by simp[hka]
  have hy:b[k]? = some (b[k]'(by omega)):=List.getElem?_eq_getElem _;(refine gq5 (zd (zgC hx) (zd (zgC hy) @zy)) ?_;try with_reducible exact True.intro);refine⟨by omega,by omega,c_Same_1 ?_⟩;(refine gq2 (zd @zy @zaU) ?_;try with_reducible exact True.intro);refine zW (fun h=>?_) (fun h=>?_);all_goals(try(refine gq2 (zd h @zy) ?_;try with_reducible exact True.intro))
  ·refine zaK.next hka ⟨?_,rfl,zbq hx hy htk (by simpa using h)⟩;rw[zaW (by omega) (by omega)];rfl
  ·refine zu hl ?_;have:(a==b)=false:=by
    rw[beq_eq_false_iff_ne];rintro rfl;simp at h
   rw[this]at hK;exact hK
 ·refine zu hl ?_;have:(a==b)=true:=by
   rw[beq_iff_eq];exact zcu hl2 (k:=k) (by simp at h;omega) htk
  rw[this]at hK;exact hK
theorem c_Same {a b:TOp}(ha:a.recs.length<=1073741824)(hb:b.recs.length<=1073741824)(hK:K (.d (.bool (decide (a=b)))) σ):zP zrV [opA a,opA b] σ K:=by
 refine zeq e_op_Same fun hl=>?_;simp only[S_op_Same,iN,bT,bF,eN,opA];repeat' first
  | (refine gq4 ?_;try with_reducible exact True.intro)
  | (refine zW (fun h=>?_) (fun h=>?_)<;>(try rw[h]))
  | refine zst ha hb ?_
 all_goals refine zu hl ?_
 all_goals simp only[beq_iff_eq,beq_eq_false_iff_ne,ne_eq]at *
 ·have e:decide (a=b)=(a.recs==b.recs):=by
   rw[Bool.eq_iff_iff];cases a;cases b;simp_all
  rw[e]at hK;exact hK
 all_goals
  have e:decide (a=b)=false:=by
   cases a;cases b;simp_all
  rw[e]at hK;exact hK
end Go.Proofs.YtdgcepphjnoalaaGreat

/- Runes: the first rune of a text, as the document has it and as Go's 'range' has it; names. No program in sight. -/
set_option maxRecDepth 100000
namespace Go.AW
def at8 (s:List UInt8) (i:Nat):Nat:=(s[i]?.getD 0).toNat
def znY (c:Nat):Nat:=if c<128 then 1 else if 194<=c/\c<224 then 2 else if 224<=c/\c<240 then 3 else if 240<=c/\c<245 then 4 else 0
def zis (s:List UInt8) (z:Nat):Nat->Nat
 | 0=>at8 s 0 % 2 ^ (7-z)
 | i+1=>zis s z i*64+at8 s (i+1) % 64
def ztC (s:List UInt8) (i:Nat):Bool:=decide (128<=at8 s i/\at8 s i<192)
def zhh (z:Nat):Nat:=if z=2 then 128 else if z=3 then 2048 else if z=4 then 65536 else 0
def zmm (s:List UInt8):Nat × Nat:=
 let z:=znY (at8 s 0)
 if z=0∨z>s.length then(0,0)
 else if z=1 then(at8 s 0,1)
 else if (∀i,i<z→1<=i->ztC s i=true)then
  if zis s z (z-1)<zhh z∨zis s z (z-1)>1114111∨(55296<=zis s z (z-1)/\zis s z (z-1)<57344)then(0,0)else(zis s z (z-1),z)
 else(0,0)
theorem zxa (s:List UInt8)(i:Nat):at8 s i<256:=(s[i]?.getD 0).toNat_lt
theorem znz (s:List UInt8)(p i:Nat):at8 (s.drop p) i=at8 s (p+i):=by simp[at8,List.getElem?_drop]
theorem get_at8 (s:List UInt8)(i:Nat):((ByteArray.mk s.toArray).get! i).toNat=at8 s i:=by
 simp only[ByteArray.get!,at8];rw[getElem!_def];simp only[List.getElem?_toArray];cases s[i]? <;> rfl
theorem all2 (p:Nat->Bool):(∀i,i<2→1<=i->p i=true)↔p 1=true:=⟨fun h=>h 1 (by omega) (by omega),fun h i h1 h2=>by
 obtain rfl:i=1:=by omega
 exact h⟩
theorem all3 (p:Nat->Bool):(∀i,i<3→1<=i->p i=true)↔p 1=true/\p 2=true:=⟨fun h=>⟨h 1 (by omega) (by omega),h 2 (by omega) (by omega)⟩,fun h i h1 h2=>by
 have:i=1∨i=2:=by omega
 rcases this with rfl|rfl
 ·exact h.1
 ·exact h.2⟩
theorem all4 (p:Nat->Bool):(∀i,i<4→1<=i->p i=true)↔p 1=true/\p 2=true/\p 3=true:=⟨fun h=>⟨h 1 (by omega) (by omega),h 2 (by omega) (by omega),h 3 (by omega) (by omega)⟩,fun h i h1 h2=>by
 have:i=1∨i=2∨i=3:=by omega
 rcases this with rfl|rfl|rfl
 ·exact h.1
 ·exact h.2.1
 ·exact h.2.2⟩
def zrZ (s:List UInt8):Nat × Nat:=if (zmm s).2=0 then(65533,1)else zmm s
theorem decode_eq (s:List UInt8)(p:Nat)(hp:p<s.length):Utf8.decode ⟨s.toArray⟩ p=zrZ (s.drop p):=by
 have hsz:(ByteArray.mk s.toArray).size=s.length:=by simp[ByteArray.size]
 have hl:(s.drop p).length=s.length-p:=by simp
 unfold Utf8.decode;simp only[get_at8,hsz,Nat.add_zero];have h0:=zxa s p;have h1:=zxa s (p+1);have h2:=zxa s (p+2);have h3:=zxa s (p+3);simp only[zrZ,zmm,znY,hl,znz,Nat.add_zero];generalize e0:at8 s p=b0 at *;generalize e1:at8 s (p+1)=b1 at *;generalize e2:at8 s (p+2)=b2 at *;generalize e3:at8 s (p+3)=b3 at *;have hc1:ztC (s.drop p) 1=decide (128<=b1/\b1<192):=by simp only[ztC,znz,e1]
 have hc2:ztC (s.drop p) 2=decide (128<=b2/\b2<192):=by simp only[ztC,znz,e2]
 have hc3:ztC (s.drop p) 3=decide (128<=b3/\b3<192):=by simp only[ztC,znz,e3]
 have p2:zis (s.drop p) 2 1=b0 % 32*64+b1 % 64:=by simp only[zis,znz,Nat.add_zero,e0,e1]
 have p3:zis (s.drop p) 3 2=b0 % 16*4096+b1 % 64*64+b2 % 64:=by simp only[zis,znz,Nat.add_zero,e0,e1,e2];omega
 have p4:zis (s.drop p) 4 3=b0 % 8*262144+b1 % 64*4096+b2 % 64*64+b3 % 64:=by simp only[zis,znz,Nat.add_zero,e0,e1,e2,e3];omega
 have c1:(b1 / 64==2)=decide (128<=b1/\b1<192):=by rw[Bool.eq_iff_iff];simp;omega
 have c2:(b2 / 64==2)=decide (128<=b2/\b2<192):=by rw[Bool.eq_iff_iff];simp;omega
 have c3:(b3 / 64==2)=decide (128<=b3/\b3<192):=by rw[Bool.eq_iff_iff];simp;omega
 simp only[c1,c2,c3];by_cases a1:b0<128
 ·have:¬(1>s.length-p):=by omega
  simp[a1,this]
 by_cases a2:194<=b0/\b0<224
 ·have q1:(b0 / 32==6)=true:=by simp;omega
  have q2:(b0 / 16==14)=false:=by simp;omega
  have q3:(b0 / 8==30)=false:=by simp;omega
  simp only[a1,a2,q1,q2,q3,if_false,if_true,all2,hc1,p2,zhh];by_cases l1:p+1<s.length
  ·have:¬(2>s.length-p):=by omega
   by_cases k1:128<=b1/\b1<192
   ·have g1:128<=b0 % 32*64+b1 % 64:=by omega
    have g2:¬(b0 % 32*64+b1 % 64<128∨b0 % 32*64+b1 % 64>1114111∨55296<=b0 % 32*64+b1 % 64/\b0 % 32*64+b1 % 64<57344):=by omega
    simp[l1,this,k1,g1,g2,all2,hc1,p2,zhh,Utf8.runeError]
   ·simp[l1,this,k1,all2,hc1,p2,zhh,Utf8.runeError]
  ·have:2>s.length-p:=by omega
   simp[l1,this,all2,hc1,p2,zhh,Utf8.runeError]
 by_cases a3:224<=b0/\b0<240
 ·have q1:(b0 / 32==6)=false:=by simp;omega
  have q2:(b0 / 16==14)=true:=by simp;omega
  have q3:(b0 / 8==30)=false:=by simp;omega
  simp only[a1,a2,a3,q1,q2,q3,if_false,if_true,all3,hc1,hc2,p3,zhh];by_cases l1:p+2<s.length
  ·have:¬(3>s.length-p):=by omega
   have l2:p+1<s.length:=by omega
   by_cases k1:128<=b1/\b1<192
   ·by_cases k2:128<=b2/\b2<192
    ·obtain⟨v,hv⟩:∃v,v=b0 % 16*4096+b1 % 64*64+b2 % 64:=⟨_,rfl⟩;simp only[← hv];rw[← hv]at p3;have hv':v<65536:=by omega
     by_cases g:v<2048∨55296<=v/\v<57344
     ·have g1:(decide (v≥2048)&&Utf8.valid (v:Int))=false:=by simp[Utf8.valid];omega
      have g2:v<2048∨v>1114111∨55296<=v/\v<57344:=by omega
      simp[l1,l2,this,k1,k2,g2,g1,all3,hc1,hc2,p3,zhh,Utf8.runeError]
     ·have g1:(decide (v≥2048)&&Utf8.valid (v:Int))=true:=by simp[Utf8.valid];omega
      have g2:¬(v<2048∨v>1114111∨55296<=v/\v<57344):=by omega
      rw[g1];simp[l1,l2,this,k1,k2,g2,all3,hc1,hc2,p3,zhh,Utf8.runeError]
    ·simp[l1,l2,this,k1,k2,all3,hc1,hc2,p3,zhh,Utf8.runeError]
   ·simp[l1,l2,this,k1,all3,hc1,hc2,p3,zhh,Utf8.runeError]
  ·have:3>s.length-p:=by omega
   simp[l1,this,all3,hc1,hc2,p3,zhh,Utf8.runeError]
 by_cases a4:240<=b0/\b0<245
 ·have q1:(b0 / 32==6)=false:=by simp;omega
  have q2:(b0 / 16==14)=false:=by simp;omega
  have q3:(b0 / 8==30)=true:=by simp;omega
  simp only[a1,a2,a3,a4,q1,q2,q3,if_false,if_true,all4,hc1,hc2,hc3,p4,zhh];by_cases l1:p+3<s.length
  ·have:¬(4>s.length-p):=by omega
   have l2:p+1<s.length:=by omega
   have l3:p+2<s.length:=by omega
   by_cases k1:128<=b1/\b1<192
   ·by_cases k2:128<=b2/\b2<192
    ·by_cases k3:128<=b3/\b3<192
     ·obtain⟨v,hv⟩:∃v,v=b0 % 8*262144+b1 % 64*4096+b2 % 64*64+b3 % 64:=⟨_,rfl⟩;simp only[← hv];rw[← hv]at p4;by_cases g:v<65536∨v>1114111
      ·have g1:(decide (v≥65536)&&Utf8.valid (v:Int))=false:=by simp[Utf8.valid];omega
       have g2:v<65536∨v>1114111∨55296<=v/\v<57344:=by omega
       rw[g1];simp[l1,l2,l3,this,k1,k2,k3,g2,all4,hc1,hc2,hc3,p4,zhh,Utf8.runeError]
      ·have g1:(decide (v≥65536)&&Utf8.valid (v:Int))=true:=by simp[Utf8.valid];omega
       have g2:¬(v<65536∨v>1114111∨55296<=v/\v<57344):=by omega
       rw[g1];simp[l1,l2,l3,this,k1,k2,k3,g2,all4,hc1,hc2,hc3,p4,zhh,Utf8.runeError]
     ·simp[l1,l2,l3,this,k1,k2,k3,all4,hc1,hc2,hc3,p4,zhh,Utf8.runeError]
    ·simp[l1,l2,l3,this,k1,k2,all4,hc1,hc2,hc3,p4,zhh,Utf8.runeError]
   ·simp[l1,l2,l3,this,k1,all4,hc1,hc2,hc3,p4,zhh,Utf8.runeError]
  ·have:4>s.length-p:=by omega
   simp[l1,this,all4,hc1,hc2,hc3,p4,zhh,Utf8.runeError]
 ·have q2:(b0 / 16==14)=false:=by simp;omega
  simp only[a1,a2,a3,a4,q2,if_false,if_true];by_cases q:b0 / 32=6
  ·have h192:b0=192∨b0=193:=by omega
   have q3:(b0 / 8==30)=false:=by simp;omega
   have g:¬(b0 % 32*64+b1 % 64≥128):=by omega
   simp[q,q3,g,Utf8.runeError]
  ·by_cases q':b0 / 8=30
   ·have g:¬((b0 % 8*262144+b1 % 64*4096+b2 % 64*64+b3 % 64)<=1114111):=by omega
    obtain⟨v,hv⟩:∃v,v=b0 % 8*262144+b1 % 64*4096+b2 % 64*64+b3 % 64:=⟨_,rfl⟩;rw[← hv]at g;simp only[← hv];have g1:Utf8.valid (v:Int)=false:=by simp[Utf8.valid];omega
    simp[q,q',g1,Utf8.runeError]
   ·simp[q,q',Utf8.runeError]
theorem zmG (s:List UInt8):(zmm s).2<=s.length/\(zmm s).2<=4/\(zmm s).1<=1114111:=by
 have h0:=zxa s 0;have hz:znY (at8 s 0)<=4:=by unfold znY;split<;>(try split)<;>(try split)<;>(try split)<;>omega
 simp only[zmm];split
 ·simp
 ·rename_i h;split
  ·rename_i h1;simp only[];omega
  ·split
   ·split
    ·simp
    ·simp only[];omega
   ·simp
theorem goDec_width (s:List UInt8)(h:s≠[]):1<=(zrZ s).2/\(zrZ s).2<=s.length/\(zrZ s).1<=1114111:=by
 have h1:=zmG s;have h2:0<s.length:=List.length_pos_iff.2 h;unfold zrZ;split
 ·simp;omega
 ·omega
def badF (v:Nat):Bool:=decide (v<33∨(127<=v/\v<=159)∨v=47∨v=65533)
def zfk:Nat->List UInt8->Option Nat
 | 0,_=>none
 | f+1,s=>if s=[]then some 0 else if (zmm s).2=0∨badF (zmm s).1=true then none else(zfk f (s.drop (zmm s).2)).map (· + 1)
def ziP (s:List UInt8):Nat:=match zfk (s.length+1) s with
 | some n=>if n>16 then 0 else n
 | none=>0
def zev (s:List UInt8):Bool:=decide (0<ziP s)
theorem goDec_bad (s:List UInt8):badF (zrZ s).1=(decide ((zmm s).2=0) || badF (zmm s).1):=by
 unfold zrZ;split
 ·rename_i h;simp[h,badF]
 ·rename_i h;simp[h]
theorem goDec_good {s:List UInt8}(h:badF (zrZ s).1=false):zrZ s=zmm s/\(zmm s).2≠0/\badF (zmm s).1=false:=by
 rw[goDec_bad]at h;simp at h;exact⟨by simp[zrZ,h.1],h.1,h.2⟩
theorem zrs:∀(f g:Nat) (s:List UInt8),s.length<f->s.length<g->zfk f s=zfk g s
 | 0,_,_,h,_=>by omega
 | _,0,_,_,h=>by omega
 | f+1,g+1,s,h1,h2=>by
  simp only[zfk];split
  ·rfl
  ·rename_i hs;split
   ·rfl
   ·rename_i hd;have hw:=zmG s;have:0<s.length:=List.length_pos_iff.2 hs;rw[zrs f g _ (by simp;omega) (by simp;omega)]
end Go.AW
