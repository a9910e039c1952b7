/- Contracts of the small functions over bytes. -/
import Derived.Test.YtpgahkdjkanblaaGreatSh
import Derived.Test.YtpgahkdjkanblaaGreatAwEnd
import Derived.Test.YtpgahkdjkanblaaGreatQu1
import Derived.Test.YtpgahkdjkanblaaGreatSpOp
import Derived.Test.YtpgahkdjkanblaaGreatSpTab
set_option linter.all false
set_option maxRecDepth 100000
namespace Go.Proofs.YtpgahkdjkanblaaGreat
open Go.AW
theorem zAJ {σ:List zd} {es:List (List D)} {K:KT} (he:∀ e∈es,e.length=1) (hK:K (.exact es) σ):zj Tryz.prog zeV [.d (.slice es)] σ K:=by
 refine zbT zhq.is rfl (fun _ => []) fun hl _=>zhq.goes ?_
 simp only [zht,iN,bT,bF,eN,gF,gT,gFm,gTm,fl,nfl,gFl,gTl,il,cp,orC,anC,cA,bP,z1,z2,m1,List.map_cons,List.map_nil,zag,zeT,zeQ,bnd,zgq,zw]
 refine ⟨rfl,trivial,by omega,by omega,by omega,he,?_⟩
 simp only [zoj,zrC,getL,zte,zcq,zdY]
 simpa using ⟨hl,hK⟩
theorem zng {σ:List zd} {a b:List UInt8} {K:KT} (hK:K (.d (.bool (a==b))) σ):zj Tryz.prog zhn [.d (.slice (bcs a)),.d (.slice (bcs b))] σ K:=by
 refine zeE zAA fun hl => ?_
 simp only [zsP,iN,bT,bF,eN,gF,gT,gFm,gTm,fl,nfl,gFl,gTl,il,cp,orC,anC,cA,bP,z1,z2,m1,List.map_cons,List.map_nil,zap,zeT,zex,zdT,zfE,zcp,zw]
 exact zwx (by simp [zfF,dmT,dm,dm1,zcq]) hl hK
def bva (bs:List UInt8):List AV:=bs.map fun b => .d (.int .u8 (b.toNat:Int))
def zih (bs:List UInt8):List AV:=bva bs++List.replicate (10-bs.length) (.d (.int .u8 0))
theorem zyz {pre:List UInt8} {b:UInt8} (h:pre.length<10):zar (zih pre) pre.length [.d (.int .u8 (b.toNat:Int))]=zih (pre++[b]):=by
 simp only [zar,zih,bva,List.length_singleton]
 obtain ⟨m,hm⟩:∃ m, 10-pre.length=m+1:=⟨9-pre.length,by omega⟩
 rw [hm,List.take_left' (by simp),List.drop_append]
 simp only [List.length_map]
 rw [List.drop_eq_nil_of_le (by simp),show pre.length+1-pre.length=1 by omega,List.replicate_succ]
 simp [List.length_append,show 10-(pre.length+1)=m by omega]
theorem byte_or (m:Nat):IntKind.u8.wrap ↑(BitVec.ofInt IntKind.u8.bits (IntKind.u8.wrap (m:Int)) ||| BitVec.ofInt IntKind.u8.bits 128).toNat=((UInt8.ofNat (m % 128+128)).toNat:Int):=by
 rw [wrap8 m,show IntKind.u8.bits=8 from rfl,or128 ⟨m % 256,by omega⟩,zvo (by simp;omega),zpT (by omega)]
 simp
theorem byte_wrap {m:Nat} (h:m<128):IntKind.u8.wrap (m:Int)=((UInt8.ofNat m).toNat:Int):=by
 rw [zvo (by omega),zpT (by omega)]
theorem shr7 (m:Nat):((m:Int)).fdiv (2 ^ min 7 IntKind.u64.bits)=((m / 128:Nat):Int):=by
 rw [show min 7 IntKind.u64.bits=7 from rfl,Int.fdiv_eq_ediv_of_nonneg _ (by decide)]
 rfl
theorem zrO {pre:List UInt8} (h:pre.length<=10):(zih pre).length=10:=by simp [zih,bva];omega
theorem pad10_sc (pre:List UInt8):(zih pre).all sc=true:=by
 simp only [zih,bva,List.all_append,List.all_map,List.all_replicate,Bool.and_eq_true]
 refine ⟨by simp [sc],?_⟩
 cases 10-pre.length<;>simp [sc]
theorem pad10_d (pre:List UInt8):zih pre=((pre.map fun b=>D.int .u8 (b.toNat:Int))++List.replicate (10-pre.length) (D.int .u8 0)).map AV.d:=by
 simp [zih,bva,Function.comp_def]
theorem gq19 {P Q:Prop} (h:Q) (e:P=Q:=by simp -dsimp only [↓zhL, ↓zbi, ↓zcI, ↓zhM, ↓zhF, ↓zhD, ↓zhG, ↓zhE, ↓zcN, ↓zcJ, ↓zcO, ↓zcK, ↓zhH, ↓zcH, ↓zcP, ↓zcL, ↓zcQ, ↓zcM, ↓zhC, ↓zhK, ↓zcG, ↓zcR, ↓zhz, ↓zhy, ↓zhB,iN,bT,bF,eN, ↓zdT, ↓unC, ↓zam, ↓zY, ↓zZ, ↓zae, ↓zax, ↓zag, ↓zeQ, ↓zap, ↓zaQ, ↓zW, ↓zg, ↓zh, ↓zcW, ↓zb, ↓zaC, ↓zG, ↓zbv, ↓zbE, ↓zc, ↓zE, ↓zq, ↓zK, ↓zao, ↓zft, ↓zfB, ↓zaL, ↓zaX, ↓zbm, ↓zbC, ↓zcj, ↓zI, ↓zaH, ↓zaa, ↓zM, ↓zaw,zfE,zcw,zcp,unA,zeT,bnd,zgq,zaA,zL,zga,dm,dm1,zw,zad,zgP,zgO,zH,Q0,Q1,Q2,Q3,Q4,Q5,zay,zB,zD,zT,zP,Q6,Q7,Q8,Q9,Q10,Q11,Q12,Q13,Q14,Nat.reduceAdd,Q15,Int.reduceToNat,Q16,Q17,Q18,Q19,Q20,reduceIte,Q21,Q22];rfl):P:=e.mpr h
theorem gq20 {A P Q:Prop} (a:A) (h:Q) (e:A->P=Q:=by intro a;simp -dsimp only [↓zhL, ↓zbi, ↓zcI, ↓zhM, ↓zhF, ↓zhD, ↓zhG, ↓zhE, ↓zcN, ↓zcJ, ↓zcO, ↓zcK, ↓zhH, ↓zcH, ↓zcP, ↓zcL, ↓zcQ, ↓zcM, ↓zhC, ↓zhK, ↓zcG, ↓zcR, ↓zhz, ↓zhy, ↓zhB,iN,bT,bF,eN, ↓zdT, ↓unC, ↓zam, ↓zY, ↓zZ, ↓zae, ↓zax, ↓zag, ↓zeQ, ↓zap, ↓zaQ, ↓zW, ↓zg, ↓zh, ↓zcW, ↓zb, ↓zaC, ↓zG, ↓zbv, ↓zbE, ↓zc, ↓zE, ↓zq, ↓zK, ↓zao, ↓zft, ↓zfB, ↓zaL, ↓zaX, ↓zbm, ↓zbC, ↓zcj, ↓zI, ↓zaH, ↓zaa, ↓zM, ↓zaw,zfE,zcw,zcp,unA,zeT,bnd,zgq,zaA,zL,zga,dm,dm1,zw,zad,zgP,zgO,zH,Q0,Q1,Q2,Q3,Q4,Q5,zay,zB,zD,zT,zP,Q6,Q7,Q8,Q9,Q10,Q11,Q12,Q13,Q14,Nat.reduceAdd,Q15,Int.reduceToNat,Q16,Q17,Q18,Q19,Q20,reduceIte,Q21,Q22,a];rfl):P:=(e a).mpr h
theorem c_form {σ:List zd} {n:Nat} (hn:n<18446744073709551616) {K:KT} (hK:K (.tup [.agg (zih (zcA n)),.d (.int .i64 (zcA n).length)]) σ):zj Tryz.prog zoE [.d (.int .u64 n)] σ K:=by
 refine zdZ e_codec_form fun hl => ?_
 simp only [zuO,iN,bT,bF,eN,zW]
 have hlen:=zm hn
 refine zl 10 (fun k vs s => ∃ (m:Nat) (pre:List UInt8),k=pre.length/\vs = [.d (.int .u64 m),.d (.int .i64 k)]/\zcA n=pre++zcA m/\m<18446744073709551616 ∧
   s = σ++[.box (zih []),.box (zih pre)]) ⟨n,[],rfl,rfl,rfl,hn,by simp [zih,bva]⟩ ?_
 rintro k vs s hk ⟨m,pre,rfl,rfl,hpre,hm,rfl⟩
 have hm10:=zm hm
 have hpl:pre.length+(zcA m).length<=10:=by rw [hpre] at hlen;simpa using hlen.2
 have hp:pre.length<10:=by omega
 (refine gq19 ?_;try with_reducible exact True.intro)
 refine zV (fun h => ?_) (fun h => ?_)
 all_goals (try (refine gq20 h ?_;try with_reducible exact True.intro))
 ·have h1:¬ m<128:=by simp at h;omega
  have h2:=zAe h1
  rw [h2] at hpl
  simp at hpl
  rw [byte_or,shr7,zyz hp]
  refine ⟨by omega,by omega,by have:=zrO (pre:=pre) (by omega);omega,by simp [sc],by omega,?_⟩
  refine zan.next (by omega) ⟨m / 128,pre++[UInt8.ofNat (m % 128+128)],by simp,?_,by rw [hpre,h2];simp,by omega,rfl⟩
  rw [zab (by omega) (by omega)]
  rfl
 ·have h1:m<128:=by simp at h;omega
  have h2:=zpC h1
  rw [byte_wrap h1,zyz hp]
  have hp1:(zih (pre++[UInt8.ofNat m])).length=10:=zrO (by simp;omega)
  have hsp:zar (zih []) 0 (zih (pre++[UInt8.ofNat m]))=zih (pre++[UInt8.ofNat m]):=by
   simp only [zar,Nat.zero_add,List.take_zero,List.nil_append]
   rw [hp1,List.drop_eq_nil_of_le (by simp [zih,bva]),List.append_nil]
  have htk:List.take 10 (List.drop 0 (zih (pre++[UInt8.ofNat m])))=zih (pre++[UInt8.ofNat m]):=by
   rw [List.drop_zero,List.take_of_length_le (by omega)]
  rw [htk,hsp,htk,if_pos (by omega)]
  refine ⟨by omega,by omega,by have:=zrO (pre:=pre) (by omega);omega,by simp [sc],by omega,by omega,by simp [zih,bva],pad10_sc _,?_⟩
  have hd:dmT (zcq [.agg (zih (pre++[UInt8.ofNat m])),.d (.int .i64 (IntKind.i64.wrap (↑pre.length+1)))]) = .tup [.agg (zih (pre++[UInt8.ofNat m])),.d (.int .i64 (zcA n).length)]:=by
   rw [zab (by omega) (by omega),hpre,h2]
   simp only [zcq,dmT,List.map_cons,List.map_nil,dm,pad10_d,map_dm1_d,dm1]
   rw [List.length_append];rfl
  refine ztG ?_ hl ?_
  ·rw [hd,pad10_d,zaU]
   intro c hc
   rcases List.mem_cons.1 hc with rfl|hc
   ·exact .agg _ (zoG _ _)
   ·have hc:=List.mem_singleton.1 hc
    subst hc;exact .d _
  ·rw [hd];rw [hpre,h2] at hK ⊢;exact hK
theorem toDs_bva (bs:List UInt8) (r:List AV) (ds:List D) (h:zgW r=some ds):zgW (bva bs++r)=some ((bs.map fun b=>D.int .u8 (b.toNat:Int))++ds):=by
 induction bs with
 | nil=>simpa [bva] using h
 | cons b bs ih=>simp only [bva,List.map_cons,List.cons_append,zgW,toD] at ih ⊢;rw [ih]
theorem chunks1 (bs:List UInt8):zaz 1 bs.length (bs.map fun b=>D.int .u8 (b.toNat:Int))=bcs bs:=by
 induction bs with
 | nil=>rfl
 | cons b bs ih=>simp only [List.length_cons,List.map_cons,zaz,bcs,List.take_succ_cons,List.take_zero,List.drop_succ_cons,List.drop_zero] at ih ⊢;rw [ih];rfl
theorem zfe {σ:List zd} {b:List UInt8} {n:Nat} (hn:n<18446744073709551616) (hb:b.length<=1073741824) {K:KT} (hK:K (.own σ.length (bcs (b++zcA n))) (σ++[.tok 1 (b++zcA n).length])) :
  zj Tryz.prog zbo [.d (.slice (bcs b)),.d (.int .u64 n)] σ K:=by
 refine zbT zqr.is rfl (fun s => [σ.length+1]) fun hl _=>zqr.goes ?_
 have hlen:=zm hn
 simp only [zqG,iN,bT,bF,eN,gF,gT,gFm,gTm,fl,nfl,gFl,gTl,il,cp,orC,anC,cA,bP,z1,z2,m1,List.map_cons,List.map_nil]
 simp only [dm,dm1]
 refine c_form hn ?_
 have hp:=zrO hlen.2
 have hsp:zar (List.replicate 10 (AV.d (D.int .u8 0))) 0 (zih (zcA n))=zih (zcA n):=by
  simp only [zar,Nat.zero_add,List.take_zero,List.nil_append]
  rw [hp,List.drop_eq_nil_of_le (by simp),List.append_nil]
 have hrep : [AV.d (D.int .u8 0),.d (.int .u8 0),.d (.int .u8 0),.d (.int .u8 0),.d (.int .u8 0),.d (.int .u8 0),.d (.int .u8 0),.d (.int .u8 0),.d (.int .u8 0),.d (.int .u8 0)]=List.replicate 10 (AV.d (D.int .u8 0)):=rfl
 (refine gq19 ?_;try with_reducible exact True.intro)
 refine ⟨hp,by omega,pad10_sc _,by omega,by omega,by omega,by omega,?_⟩
 refine zAJ zez ?_
 rw [hrep,hsp]
 (refine gq19 ?_;try with_reducible exact True.intro)
 have htk:zgW (List.take ((zcA n).length-Int.toNat 0) (List.drop (Int.toNat 0) (zih (zcA n))))=some ((zcA n).map fun b=>D.int .u8 (b.toNat:Int)):=by
  simp only [Int.toNat_zero,Nat.sub_zero,List.drop_zero]
  rw [zih,List.take_left' (by simp [bva])]
  have:=toDs_bva (zcA n) [] [] rfl
  simpa using this
 simp only [Int.toNat_zero] at htk
 rw [htk,if_pos (by omega),Nat.sub_zero]
 simp only [Option.map_some,chunks1]
 refine ⟨zez,zez,by simp [bcs];omega,?_⟩
 rw [zua]
 refine zoJ rfl hl (by omega) (by rw [zB];rfl) ?_
 simpa [bcs] using hK
theorem gq21 {P Q:Prop} (h:Q) (e:P=Q:=by simp -dsimp only [↓zhL, ↓zbi, ↓zcI, ↓zhM, ↓zhF, ↓zhD, ↓zhG, ↓zhE, ↓zcN, ↓zcJ, ↓zcO, ↓zcK, ↓zhH, ↓zcH, ↓zcP, ↓zcL, ↓zcQ, ↓zcM, ↓zhC, ↓zhK, ↓zcG, ↓zcR, ↓zhz, ↓zhy, ↓zhB,iN,bT,bF,eN, ↓zdT, ↓unC, ↓zam, ↓zY, ↓zZ, ↓zae, ↓zax, ↓zag, ↓zeQ, ↓zap, ↓zaQ, ↓zW, ↓zg, ↓zh, ↓zcW, ↓zb, ↓zaC, ↓zG, ↓zbv, ↓zbE, ↓zc, ↓zE, ↓zq, ↓zK, ↓zao, ↓zft, ↓zfB, ↓zaL, ↓zaX, ↓zbm, ↓zbC, ↓zcj, ↓zI, ↓zaH, ↓zaa, ↓zM, ↓zaw,zfE,zcw,zcp,unA,zeT,bnd,zgq,zaA,zL,zga,dm,dm1,zw,zad,zgP,zgO,zH,Q0,Q1,Q2,Q3,Q4,Q5,zay,zB,zD,zT,zP,Q6,Q7,Q8,Q9,Q10,Q11,Q12,Q13,Q14,Nat.reduceAdd,Q15,Int.reduceToNat,Q16,Q17,Q18,Q19,Q20,reduceIte,Q21,Q22,znO];rfl):P:=e.mpr h
theorem zpS {σ:List zd} {b x:List UInt8} (hx:x.length<=1073741824) (hb:b.length<=1073741800) {K:KT} (hK:K (.own σ.length (bcs (b++(zcA x.length++x)))) (σ++[.tok 1 (b++(zcA x.length++x)).length])) :
  zj Tryz.prog zeg [.d (.slice (bcs b)),.d (.slice (bcs x))] σ K:=by
 refine zbT znt.is rfl (fun s => [σ.length]) fun hl _=>znt.goes ?_
 have hlen:=zm (n:=x.length) (by omega)
 (refine gq21 ?_;try with_reducible exact True.intro)
 have hw:IntKind.u64.wrap ((bcs x).length:Int)=(x.length:Int):=by rw [zdq (by simp [bcs];omega)];simp [bcs]
 rw [hw]
 refine zfe (by omega) (by omega) ?_
 (refine gq19 ?_;try with_reducible exact True.intro)
 refine ⟨zez,by simp [bcs];omega,by simp [bcs],?_⟩
 rw [zua]
 simp only [List.append_assoc]
 refine zmb hl rfl ?_
 simpa [bcs,Nat.add_assoc] using hK
theorem div128 {m:Nat} (h:m<18446744073709551616):IntKind.u64.wrap ((m:Int).tdiv 128)=((m / 128:Nat):Int):=by
 rw [show ((m:Int).tdiv 128)=((m / 128:Nat):Int) from by rw [Int.tdiv_eq_ediv_of_nonneg (by omega)];rfl,zdq (by omega)]
theorem rem128 (m:Nat):(m:Int).tmod 128=((m % 128:Nat):Int):=by
 rw [Int.tmod_eq_emod_of_nonneg (by omega)];rfl
theorem gq22 {P Q:Prop} (h:Q) (e:P=Q:=by simp -dsimp only [↓zhL, ↓zbi, ↓zcI, ↓zhM, ↓zhF, ↓zhD, ↓zhG, ↓zhE, ↓zcN, ↓zcJ, ↓zcO, ↓zcK, ↓zhH, ↓zcH, ↓zcP, ↓zcL, ↓zcQ, ↓zcM, ↓zhC, ↓zhK, ↓zcG, ↓zcR, ↓zhz, ↓zhy, ↓zhB,iN,bT,bF,eN, ↓zdT, ↓unC, ↓zam, ↓zY, ↓zZ, ↓zae, ↓zax, ↓zag, ↓zeQ, ↓zap, ↓zaQ, ↓zW, ↓zg, ↓zh, ↓zcW, ↓zb, ↓zaC, ↓zG, ↓zbv, ↓zbE, ↓zc, ↓zE, ↓zq, ↓zK, ↓zao, ↓zft, ↓zfB, ↓zaL, ↓zaX, ↓zbm, ↓zbC, ↓zcj, ↓zI, ↓zaH, ↓zaa, ↓zM, ↓zaw,zfE,zcw,zcp,unA,zeT,bnd,zgq,zaA,zL,zga,dm,dm1,zw,zad,zgP,zgO,zH,Q0,Q1,Q2,Q3,Q4,Q5,zay,zB,zD,zT,zP,Q6,Q7,Q8,Q9,Q10,Q11,Q12,Q13,Q14,Nat.reduceAdd,Q15,Int.reduceToNat,Q16,Q17,Q18,Q19,Q20,reduceIte,Q21,Q22,zuK];rfl):P:=e.mpr h
theorem gq23 {P Q:Prop} (h:Q) (e:P=Q:=by simp -dsimp only [↓zhL, ↓zbi, ↓zcI, ↓zhM, ↓zhF, ↓zhD, ↓zhG, ↓zhE, ↓zcN, ↓zcJ, ↓zcO, ↓zcK, ↓zhH, ↓zcH, ↓zcP, ↓zcL, ↓zcQ, ↓zcM, ↓zhC, ↓zhK, ↓zcG, ↓zcR, ↓zhz, ↓zhy, ↓zhB,iN,bT,bF,eN, ↓zdT, ↓unC, ↓zam, ↓zY, ↓zZ, ↓zae, ↓zax, ↓zag, ↓zeQ, ↓zap, ↓zaQ, ↓zW, ↓zg, ↓zh, ↓zcW, ↓zb, ↓zaC, ↓zG, ↓zbv, ↓zbE, ↓zc, ↓zE, ↓zq, ↓zK, ↓zao, ↓zft, ↓zfB, ↓zaL, ↓zaX, ↓zbm, ↓zbC, ↓zcj, ↓zI, ↓zaH, ↓zaa, ↓zM, ↓zaw,zfE,zcw,zcp,unA,zeT,bnd,zgq,zaA,zL,zga,dm,dm1,zw,zad,zgP,zgO,zH,Q0,Q1,Q2,Q3,Q4,Q5,zay,zB,zD,zT,zP,Q6,Q7,Q8,Q9,Q10,Q11,Q12,Q13,Q14,Nat.reduceAdd,Q15,Int.reduceToNat,Q16,Q17,Q18,Q19,Q20,reduceIte,Q21,Q22,rep,zar,zgW,toD,zaz,Q23,Q24,Q25,Q26,Q27,Q28,Nat.reduceLeDiff,Q29,Nat.reduceSub,Q30,Q31,Q32,sc,Q33,Q34,Q35];rfl):P:=e.mpr h
theorem zfX {σ:List zd} {b:List UInt8} {n:Nat} (hn:n<18446744073709551616) (hb:b.length<=1073741824) {K:KT} (hK:K (.own σ.length (bcs (b++zcA n))) (σ++[.tok 1 (b++zcA n).length])) :
  zj Tryz.prog zci [.d (.slice (bcs b)),.d (.int .u64 n)] σ K:=by
 refine zbT zuw.is rfl (fun s => [σ.length]) fun hl _=>zuw.goes ?_
 have hlen:=zm hn
 (refine gq22 ?_;try with_reducible exact True.intro)
 refine ⟨zez,by simp,by simp [bcs];omega,?_⟩
 refine zl 10 (fun k vs s => ∃ (m:Nat) (pre:List UInt8),k=pre.length/\vs = [.d (.int .u64 m),.own σ.length (bcs (b++pre))]/\zcA n=pre++zcA m/\m<18446744073709551616 ∧
   s = σ++[.tok 1 (b++pre).length]) ⟨n,[],rfl,by simp,rfl,hn,by simp [bcs]⟩ ?_
 rintro k vs s hk ⟨m,pre,rfl,rfl,hpre,hm,rfl⟩
 have hm10:=zm hm
 have hpl:pre.length+(zcA m).length<=10:=by rw [hpre] at hlen;simpa using hlen.2
 (refine gq19 ?_;try with_reducible exact True.intro)
 refine zV (fun h => ?_) (fun h => ?_)
 all_goals (try (refine gq20 h ?_;try with_reducible exact True.intro))
 ·have h1:¬ m<128:=by simp at h;omega
  have h2:=zAe h1
  rw [h2] at hpl
  simp at hpl
  have hc:IntKind.u8.wrap (IntKind.u8.wrap ((m:Int).tmod 128)+128)=((UInt8.ofNat (m % 128+128)).toNat:Int):=by
   rw [rem128,zvo (by omega),zpT (by omega),show ((m % 128:Nat):Int)+128=((m % 128+128:Nat):Int) from rfl]
   exact zvo (by omega)
  (refine gq23 ?_;try with_reducible exact True.intro)
  rw [hc,div128 hm]
  refine ⟨by decide,by simp,by simp [bcs];omega,by simp [bcs],by decide,?_⟩
  refine zan.next (by omega) ⟨m / 128,pre++[UInt8.ofNat (m % 128+128)],by simp,?_,by rw [hpre,h2];simp,by omega,?_⟩
  ·simp [bcs,zcU]
  ·simp [bcs,Nat.add_assoc]
 ·have h1:m<128:=by simp at h;omega
  have h2:=zpC h1
  (refine gq23 ?_;try with_reducible exact True.intro)
  rw [byte_wrap h1]
  refine ⟨by simp,by simp [bcs];omega,by simp [bcs],?_⟩
  rw [hpre,h2] at hK
  have e:bcs (b++pre)++[[D.int .u8 ((UInt8.ofNat m).toNat:Int)]]=bcs (b++(pre++[UInt8.ofNat m])):=by simp [bcs,zcU]
  rw [e]
  refine zmb hl rfl ?_
  simpa [bcs,Nat.add_assoc] using hK
theorem gq24 {P Q:Prop} (h:Q) (e:P=Q:=by simp -dsimp only [↓zhL, ↓zbi, ↓zcI, ↓zhM, ↓zhF, ↓zhD, ↓zhG, ↓zhE, ↓zcN, ↓zcJ, ↓zcO, ↓zcK, ↓zhH, ↓zcH, ↓zcP, ↓zcL, ↓zcQ, ↓zcM, ↓zhC, ↓zhK, ↓zcG, ↓zcR, ↓zhz, ↓zhy, ↓zhB,iN,bT,bF,eN, ↓zdT, ↓unC, ↓zam, ↓zY, ↓zZ, ↓zae, ↓zax, ↓zag, ↓zeQ, ↓zap, ↓zaQ, ↓zW, ↓zg, ↓zh, ↓zcW, ↓zb, ↓zaC, ↓zG, ↓zbv, ↓zbE, ↓zc, ↓zE, ↓zq, ↓zK, ↓zao, ↓zft, ↓zfB, ↓zaL, ↓zaX, ↓zbm, ↓zbC, ↓zcj, ↓zI, ↓zaH, ↓zaa, ↓zM, ↓zaw,zfE,zcw,zcp,unA,zeT,bnd,zgq,zaA,zL,zga,dm,dm1,zw,zad,zgP,zgO,zH,Q0,Q1,Q2,Q3,Q4,Q5,zay,zB,zD,zT,zP,Q6,Q7,Q8,Q9,Q10,Q11,Q12,Q13,Q14,Nat.reduceAdd,Q15,Int.reduceToNat,Q16,Q17,Q18,Q19,Q20,reduceIte,Q21,Q22,zqz];rfl):P:=e.mpr h
theorem zrq {σ:List zd} {b x:List UInt8} (hx:x.length<=1073741824) (hb:b.length<=1073741800) {K:KT} (hK:K (.own σ.length (bcs (b++(zcA x.length++x)))) (σ++[.tok 1 (b++(zcA x.length++x)).length])) :
  zj Tryz.prog zdD [.d (.slice (bcs b)),.d (.slice (bcs x))] σ K:=by
 refine zbT zqp.is rfl (fun s => [σ.length]) fun hl _=>zqp.goes ?_
 have hlen:=zm (n:=x.length) (by omega)
 (refine gq24 ?_;try with_reducible exact True.intro)
 have hw:IntKind.u64.wrap ((bcs x).length:Int)=(x.length:Int):=by rw [zdq (by simp [bcs];omega)];simp [bcs]
 rw [hw]
 refine zfX (by omega) (by omega) ?_
 (refine gq19 ?_;try with_reducible exact True.intro)
 refine ⟨zez,by simp [bcs];omega,by simp [bcs],?_⟩
 rw [zua]
 simp only [List.append_assoc]
 refine zmb hl rfl ?_
 simpa [bcs,Nat.add_assoc] using hK
theorem zyT {P Q:Prop} (h:Q) (e:P=Q:=by simp -dsimp only [↓zhL, ↓zbi, ↓zcI, ↓zhM, ↓zhF, ↓zhD, ↓zhG, ↓zhE, ↓zcN, ↓zcJ, ↓zcO, ↓zcK, ↓zhH, ↓zcH, ↓zcP, ↓zcL, ↓zcQ, ↓zcM, ↓zhC, ↓zhK, ↓zcG, ↓zcR, ↓zhz, ↓zhy, ↓zhB,iN,bT,bF,eN, ↓zdT, ↓unC, ↓zam, ↓zY, ↓zZ, ↓zae, ↓zax, ↓zag, ↓zeQ, ↓zap, ↓zaQ, ↓zW, ↓zg, ↓zh, ↓zcW, ↓zb, ↓zaC, ↓zG, ↓zbv, ↓zbE, ↓zc, ↓zE, ↓zq, ↓zK, ↓zao, ↓zft, ↓zfB, ↓zaL, ↓zaX, ↓zbm, ↓zbC, ↓zcj, ↓zI, ↓zaH, ↓zaa, ↓zM, ↓zaw,zfE,zcw,zcp,unA,zeT,bnd,zgq,zaA,zL,zga,dm,dm1,zw,zad,zgP,zgO,zH,Q0,Q1,Q2,Q3,Q4,Q5,zay,zB,zD,zT,zP,Q6,Q7,Q8,Q9,Q10,Q11,Q12,Q13,Q14,Nat.reduceAdd,Q15,Int.reduceToNat,Q16,Q17,Q18,Q19,Q20,reduceIte,Q21,Q22,zU,rep,zar,zgW,toD,zaz,Q23,Q24,Q25,Q26,Q27,Q28,Nat.reduceLeDiff,Q29,Nat.reduceSub,Q30,Q31,Q32,sc,Q33,Q34,Q35];rfl):P:=e.mpr h
theorem c_only {σ:List zd} {o:TOp} {K:KT} (hK:K (.tup [opA (zou o),.d (.bool (ziw o))]) σ):zj Tryz.prog zvU [opA o] σ K:=by
 refine zdZ e_op_only fun hl => ?_
 simp only [S_op_only,iN,bT,bF,eN,zl5,opA]
 (repeat' (first|(refine zyT ?_;try with_reducible exact True.intro)|(refine zV (fun h => ?_) (fun h => ?_)<;>(try rw [h]))|((with_reducible refine And.intro ?_ ?_);focus (first|omega|rfl|decide))))
 all_goals refine zt hl ?_
 all_goals simp only [beq_iff_eq,beq_eq_false_iff_ne,ne_eq] at *
 all_goals simp_all [zcq,dmT,dm,dm1,zou,noOp,opA,ziw,zeU]
 have e:(decide (0<=o.kind)&&decide (o.kind<=4))=false:=by simp;omega
 rw [e] at hK
 exact hK
theorem gq26 {P Q:Prop} (h:Q) (e:P=Q:=by simp -dsimp only [↓zhL, ↓zbi, ↓zcI, ↓zhM, ↓zhF, ↓zhD, ↓zhG, ↓zhE, ↓zcN, ↓zcJ, ↓zcO, ↓zcK, ↓zhH, ↓zcH, ↓zcP, ↓zcL, ↓zcQ, ↓zcM, ↓zhC, ↓zhK, ↓zcG, ↓zcR, ↓zhz, ↓zhy, ↓zhB,iN,bT,bF,eN, ↓zdT, ↓unC, ↓zam, ↓zY, ↓zZ, ↓zae, ↓zax, ↓zag, ↓zeQ, ↓zap, ↓zaQ, ↓zW, ↓zg, ↓zh, ↓zcW, ↓zb, ↓zaC, ↓zG, ↓zbv, ↓zbE, ↓zc, ↓zE, ↓zq, ↓zK, ↓zao, ↓zft, ↓zfB, ↓zaL, ↓zaX, ↓zbm, ↓zbC, ↓zcj, ↓zI, ↓zaH, ↓zaa, ↓zM, ↓zaw,zfE,zcw,zcp,unA,zeT,bnd,zgq,zaA,zL,zga,dm,dm1,zw,zad,zgP,zgO,zH,Q0,Q1,Q2,Q3,Q4,Q5,zay,zB,zD,zT,zP,Q6,Q7,Q8,Q9,Q10,Q11,Q12,Q13,Q14,Nat.reduceAdd,Q15,Int.reduceToNat,Q16,Q17,Q18,Q19,Q20,reduceIte,Q21,Q22,zxG,zU];rfl):P:=e.mpr h
theorem c_Same_1 {σ:List zd} {a b:List UInt8} {K:KT} (hK:K (.d (.bool (a==b))) σ):zj Tryz.prog zmS [.d (.slice (bcs a)),.d (.slice (bcs b))] σ K:=by
 refine zeE e_op_Same_1 fun hl => ?_
 (refine gq26 ?_;try with_reducible exact True.intro)
 refine zng ?_
 refine zt hl ?_
 exact hK
theorem gqc3 {A B:Prop} (a:A) (b:B):A/\B:=⟨a,b⟩
theorem gq27 {P Q:Prop} (h:Q) (e:P=Q:=by simp -dsimp only [↓zhL, ↓zbi, ↓zcI, ↓zhM, ↓zhF, ↓zhD, ↓zhG, ↓zhE, ↓zcN, ↓zcJ, ↓zcO, ↓zcK, ↓zhH, ↓zcH, ↓zcP, ↓zcL, ↓zcQ, ↓zcM, ↓zhC, ↓zhK, ↓zcG, ↓zcR, ↓zhz, ↓zhy, ↓zhB,iN,bT,bF,eN, ↓zdT, ↓unC, ↓zam, ↓zY, ↓zZ, ↓zae, ↓zax, ↓zag, ↓zeQ, ↓zap, ↓zaQ, ↓zW, ↓zg, ↓zh, ↓zcW, ↓zb, ↓zaC, ↓zG, ↓zbv, ↓zbE, ↓zc, ↓zE, ↓zq, ↓zK, ↓zao, ↓zft, ↓zfB, ↓zaL, ↓zaX, ↓zbm, ↓zbC, ↓zcj, ↓zI, ↓zaH, ↓zaa, ↓zM, ↓zaw,zfE,zcw,zcp,unA,zeT,bnd,zgq,zaA,zL,zga,dm,dm1,zw,zad,zgP,zgO,zH,Q0,Q1,Q2,Q3,Q4,Q5,zay,zB,zD,zT,zP,Q6,Q7,Q8,Q9,Q10,Q11,Q12,Q13,Q14,Nat.reduceAdd,Q15,Int.reduceToNat,Q16,Q17,Q18,Q19,Q20,reduceIte,Q21,Q22,zbd,zU];rfl):P:=e.mpr h
theorem gq28 {A P Q:Prop} (a:A) (h:Q) (e:A->P=Q:=by intro a;simp -dsimp only [↓zhL, ↓zbi, ↓zcI, ↓zhM, ↓zhF, ↓zhD, ↓zhG, ↓zhE, ↓zcN, ↓zcJ, ↓zcO, ↓zcK, ↓zhH, ↓zcH, ↓zcP, ↓zcL, ↓zcQ, ↓zcM, ↓zhC, ↓zhK, ↓zcG, ↓zcR, ↓zhz, ↓zhy, ↓zhB,iN,bT,bF,eN, ↓zdT, ↓unC, ↓zam, ↓zY, ↓zZ, ↓zae, ↓zax, ↓zag, ↓zeQ, ↓zap, ↓zaQ, ↓zW, ↓zg, ↓zh, ↓zcW, ↓zb, ↓zaC, ↓zG, ↓zbv, ↓zbE, ↓zc, ↓zE, ↓zq, ↓zK, ↓zao, ↓zft, ↓zfB, ↓zaL, ↓zaX, ↓zbm, ↓zbC, ↓zcj, ↓zI, ↓zaH, ↓zaa, ↓zM, ↓zaw,zfE,zcw,zcp,unA,zeT,bnd,zgq,zaA,zL,zga,dm,dm1,zw,zad,zgP,zgO,zH,Q0,Q1,Q2,Q3,Q4,Q5,zay,zB,zD,zT,zP,Q6,Q7,Q8,Q9,Q10,Q11,Q12,Q13,Q14,Nat.reduceAdd,Q15,Int.reduceToNat,Q16,Q17,Q18,Q19,Q20,reduceIte,Q21,Q22,zU,a];rfl):P:=(e a).mpr h
theorem gq29 {P Q:Prop} (h:Q) (e:P=Q:=by simp -dsimp only [↓zhL, ↓zbi, ↓zcI, ↓zhM, ↓zhF, ↓zhD, ↓zhG, ↓zhE, ↓zcN, ↓zcJ, ↓zcO, ↓zcK, ↓zhH, ↓zcH, ↓zcP, ↓zcL, ↓zcQ, ↓zcM, ↓zhC, ↓zhK, ↓zcG, ↓zcR, ↓zhz, ↓zhy, ↓zhB,iN,bT,bF,eN, ↓zdT, ↓unC, ↓zam, ↓zY, ↓zZ, ↓zae, ↓zax, ↓zag, ↓zeQ, ↓zap, ↓zaQ, ↓zW, ↓zg, ↓zh, ↓zcW, ↓zb, ↓zaC, ↓zG, ↓zbv, ↓zbE, ↓zc, ↓zE, ↓zq, ↓zK, ↓zao, ↓zft, ↓zfB, ↓zaL, ↓zaX, ↓zbm, ↓zbC, ↓zcj, ↓zI, ↓zaH, ↓zaa, ↓zM, ↓zaw,zfE,zcw,zcp,unA,zeT,bnd,zgq,zaA,zL,zga,dm,dm1,zw,zad,zgP,zgO,zH,Q0,Q1,Q2,Q3,Q4,Q5,zay,zB,zD,zT,zP,Q6,Q7,Q8,Q9,Q10,Q11,Q12,Q13,Q14,Nat.reduceAdd,Q15,Int.reduceToNat,Q16,Q17,Q18,Q19,Q20,reduceIte,Q21,Q22,zU];rfl):P:=e.mpr h
theorem gq30 {A P Q:Prop} (a:A) (h:Q) (e:A->P=Q:=by intro a;simp -dsimp only [↓zhL, ↓zbi, ↓zcI, ↓zhM, ↓zhF, ↓zhD, ↓zhG, ↓zhE, ↓zcN, ↓zcJ, ↓zcO, ↓zcK, ↓zhH, ↓zcH, ↓zcP, ↓zcL, ↓zcQ, ↓zcM, ↓zhC, ↓zhK, ↓zcG, ↓zcR, ↓zhz, ↓zhy, ↓zhB,iN,bT,bF,eN, ↓zdT, ↓unC, ↓zam, ↓zY, ↓zZ, ↓zae, ↓zax, ↓zag, ↓zeQ, ↓zap, ↓zaQ, ↓zW, ↓zg, ↓zh, ↓zcW, ↓zb, ↓zaC, ↓zG, ↓zbv, ↓zbE, ↓zc, ↓zE, ↓zq, ↓zK, ↓zao, ↓zft, ↓zfB, ↓zaL, ↓zaX, ↓zbm, ↓zbC, ↓zcj, ↓zI, ↓zaH, ↓zaa, ↓zM, ↓zaw,zfE,zcw,zcp,unA,zeT,bnd,zgq,zaA,zL,zga,dm,dm1,zw,zad,zgP,zgO,zH,Q0,Q1,Q2,Q3,Q4,Q5,zay,zB,zD,zT,zP,Q6,Q7,Q8,Q9,Q10,Q11,Q12,Q13,Q14,Nat.reduceAdd,Q15,Int.reduceToNat,Q16,Q17,Q18,Q19,Q20,reduceIte,Q21,Q22,Int.toNat_natCast,zU,a];rfl):P:=(e a).mpr h
theorem gq31 {P Q:Prop} (h:Q) (e:P=Q:=by simp -dsimp only [↓zhL, ↓zbi, ↓zcI, ↓zhM, ↓zhF, ↓zhD, ↓zhG, ↓zhE, ↓zcN, ↓zcJ, ↓zcO, ↓zcK, ↓zhH, ↓zcH, ↓zcP, ↓zcL, ↓zcQ, ↓zcM, ↓zhC, ↓zhK, ↓zcG, ↓zcR, ↓zhz, ↓zhy, ↓zhB,iN,bT,bF,eN, ↓zdT, ↓unC, ↓zam, ↓zY, ↓zZ, ↓zae, ↓zax, ↓zag, ↓zeQ, ↓zap, ↓zaQ, ↓zW, ↓zg, ↓zh, ↓zcW, ↓zb, ↓zaC, ↓zG, ↓zbv, ↓zbE, ↓zc, ↓zE, ↓zq, ↓zK, ↓zao, ↓zft, ↓zfB, ↓zaL, ↓zaX, ↓zbm, ↓zbC, ↓zcj, ↓zI, ↓zaH, ↓zaa, ↓zM, ↓zaw,zfE,zcw,zcp,unA,zeT,bnd,zgq,zaA,zL,zga,dm,dm1,zw,zad,zgP,zgO,zH,Q0,Q1,Q2,Q3,Q4,Q5,zay,zB,zD,zT,zP,Q6,Q7,Q8,Q9,Q10,Q11,Q12,Q13,Q14,Nat.reduceAdd,Q15,Int.reduceToNat,Q16,Q17,Q18,Q19,Q20,reduceIte,Q21,Q22,zaw,zU];rfl):P:=e.mpr h
theorem zsA {σ:List zd} {a b:List (List UInt8)} (ha:a.length<=1073741824) (hb:b.length<=1073741824) {K:KT} (hK:K (.d (.bool (a==b))) σ) :
  zj Tryz.prog zau [.d (.slice (zeU a)),.d (.slice (zeU b)),.fn (.func zmS) [] []] σ K:=by
 refine zyo zcD fun hl => ?_
 (refine gq27 ?_;try with_reducible exact True.intro)
 refine zV (fun h => ?_) (fun h => ?_)
 all_goals (try (refine gq28 h ?_;try with_reducible exact True.intro))
 ·refine zt hl ?_
  have:(a==b)=false:=by
   rw [beq_eq_false_iff_ne]
   rintro rfl
   simp at h
  rw [this] at hK;exact hK
 have hl2:a.length=b.length:=by simp at h;omega
 refine zl a.length (fun k vs s=>vs = [.d (.int .i64 k)]/\s = σ/\a.take k=b.take k) ⟨rfl,rfl,by simp⟩ ?_
 rintro k vs s hk ⟨rfl,rfl,htk⟩
 (refine gq29 ?_;try with_reducible exact True.intro)
 refine zV (fun h => ?_) (fun h => ?_)
 all_goals (try (refine gq28 h ?_;try with_reducible exact True.intro))
 ·have hka:k<a.length:=by simp at h;omega
  have hx:a[k]? = some a[k]:=by simp [hka]
  have hy:b[k]? = some (b[k]'(by omega)):=List.getElem?_eq_getElem _
  (refine gq30 (gqc3 (zfM hx) (zfM hy)) ?_;try with_reducible exact True.intro)
  refine ⟨by omega,by omega,c_Same_1 ?_⟩
  (refine gq31 ?_;try with_reducible exact True.intro)
  refine zV (fun h => ?_) (fun h => ?_)
  all_goals (try (refine gq28 h ?_;try with_reducible exact True.intro))
  ·refine zan.next hka ⟨?_,rfl,zby hx hy htk (by simpa using h)⟩
   rw [zab (by omega) (by omega)];rfl
  ·refine zt hl ?_
   have:(a==b)=false:=by
    rw [beq_eq_false_iff_ne]
    rintro rfl
    simp at h
   rw [this] at hK;exact hK
 ·refine zt hl ?_
  have:(a==b)=true:=by
   rw [beq_iff_eq]
   exact zcz hl2 (k:=k) (by simp at h;omega) htk
  rw [this] at hK;exact hK
theorem c_Same {σ:List zd} {a b:TOp} (ha:a.recs.length<=1073741824) (hb:b.recs.length<=1073741824) {K:KT} (hK:K (.d (.bool (decide (a=b)))) σ):zj Tryz.prog zrT [opA a,opA b] σ K:=by
 refine zeE e_op_Same fun hl => ?_
 simp only [S_op_Same,iN,bT,bF,eN,opA]
 repeat' first
  | (refine zyT ?_;try with_reducible exact True.intro)
  | (refine zV (fun h => ?_) (fun h => ?_)<;>(try rw [h]))
  | refine zsA ha hb ?_
 all_goals refine zt hl ?_
 all_goals simp only [beq_iff_eq,beq_eq_false_iff_ne,ne_eq] at *
 ·have e:decide (a=b)=(a.recs==b.recs):=by
   rw [Bool.eq_iff_iff]
   cases a;cases b
   simp_all
  rw [e] at hK;exact hK
 all_goals
  have e:decide (a=b)=false:=by
   cases a;cases b
   simp_all
  rw [e] at hK;exact hK
theorem c_Runes {σ:List zd} {s:List UInt8} (hs:s.length<=1073741824) {K:KT} (hK:K (.d (.int .i64 (ziG s))) σ):zj Tryz.prog ztr [.d (.str s)] σ K:=by
 refine zdZ e_op_Runes fun hl => ?_
 simp only [zzL,iN,bT,bF,eN,zaH]
 refine zl s.length (fun pos vs s' => ∃ cnt:Nat,vs = [.d (.int .i64 cnt)]/\s' = σ++[.iter s pos]/\pos<=s.length/\cnt<=pos/\zfp (s.length+1) s=(zfp (s.length+1) (s.drop pos)).map (· + cnt)) ⟨0,rfl,rfl,by omega,by omega,by simp⟩ ?_
 rintro pos vs s' hp ⟨cnt,rfl,rfl,hps,hc,hr⟩
 simp only [zI,zrR,zD,List.getElem?_cons_zero]
 split
 ·rename_i hlt
  have hd:s.drop pos≠[]:=by intro e;have:=congrArg List.length e;simp at this;omega
  have hw:=goDec_width _ hd
  have hw2:=zmi (s.drop pos)
  simp only [decode_eq s pos hlt]
  have hcount:zfp (s.length+1) (s.drop pos)=if (zlM (s.drop pos)).2=0∨badF (zlM (s.drop pos)).1=true then none else (zfp s.length ((s.drop pos).drop (zlM (s.drop pos)).2)).map (· + 1):=by
   rw [zfp,if_neg hd]
  (repeat' (first|(refine zyT ?_;try with_reducible exact True.intro)|(refine zV (fun h => ?_) (fun h => ?_)<;>(try rw [h]))|((with_reducible refine And.intro ?_ ?_);focus (first|omega|rfl|decide))))
  all_goals first
   | (
    refine zt hl ?_
    have hb:badF (zsb (s.drop pos)).1=true:=by
     simp only [badF]
     (try simp only [decide_eq_true_eq,decide_eq_false_iff_not,beq_iff_eq,beq_eq_false_iff_ne,bne_iff_ne,ne_eq,Bool.not_eq_true',Bool.not_eq_false',bne_eq_false_iff_eq] at *)
     omega
    rw [goDec_bad] at hb
    have:zfp (s.length+1) (s.drop pos)=none:=by rw [hcount,if_pos (by simpa using hb)]
    have h0:ziG s=0:=by simp [ziG,hr,this]
    rw [h0] at hK;exact hK)
   | skip
  all_goals
   have hb:badF (zsb (s.drop pos)).1=false:=by
    simp only [badF]
    (try simp only [decide_eq_true_eq,decide_eq_false_iff_not,beq_iff_eq,beq_eq_false_iff_ne,bne_iff_ne,ne_eq,Bool.not_eq_true',Bool.not_eq_false',bne_eq_false_iff_eq] at *)
    omega
   obtain ⟨g1,g2,g3⟩:=goDec_good hb
   rw [zab (by omega) (by omega)]
   refine zan.to (pos+(zsb (s.drop pos)).2) (by omega) (by simp at hw;omega) ⟨cnt+1,rfl,rfl,by simp at hw;omega,by omega,?_⟩
   rw [hr,hcount,if_neg (by simp [g2,g3]),g1,List.drop_drop,zrm s.length (s.length+1) _ (by simp at *;omega) (by simp;omega)]
   cases zfp (s.length+1) (List.drop (pos+(zlM (s.drop pos)).2) s)<;>simp
   omega
 ·rename_i hlt
  have e:s.drop pos = []:=List.drop_eq_nil_of_le (by omega)
  have hcnt:zfp (s.length+1) s=some cnt:=by rw [hr,e];simp [zfp]
  (refine gq29 ?_;try with_reducible exact True.intro)
  refine zV (fun h => ?_) (fun h => ?_)
  all_goals (try (refine gq28 h ?_;try with_reducible exact True.intro))
  ·refine zt hl ?_
   have h0:ziG s=0:=by simp [ziG,hcnt];simp at h;omega
   rw [h0] at hK;exact hK
  ·refine zt hl ?_
   have h0:ziG s=cnt:=by simp [ziG,hcnt];simp at h;omega
   rw [h0] at hK;exact hK
theorem gq32 {P Q:Prop} (h:Q) (e:P=Q:=by simp -dsimp only [↓zhL, ↓zbi, ↓zcI, ↓zhM, ↓zhF, ↓zhD, ↓zhG, ↓zhE, ↓zcN, ↓zcJ, ↓zcO, ↓zcK, ↓zhH, ↓zcH, ↓zcP, ↓zcL, ↓zcQ, ↓zcM, ↓zhC, ↓zhK, ↓zcG, ↓zcR, ↓zhz, ↓zhy, ↓zhB,iN,bT,bF,eN, ↓zdT, ↓unC, ↓zam, ↓zY, ↓zZ, ↓zae, ↓zax, ↓zag, ↓zeQ, ↓zap, ↓zaQ, ↓zW, ↓zg, ↓zh, ↓zcW, ↓zb, ↓zaC, ↓zG, ↓zbv, ↓zbE, ↓zc, ↓zE, ↓zq, ↓zK, ↓zao, ↓zft, ↓zfB, ↓zaL, ↓zaX, ↓zbm, ↓zbC, ↓zcj, ↓zI, ↓zaH, ↓zaa, ↓zM, ↓zaw,zfE,zcw,zcp,unA,zeT,bnd,zgq,zaA,zL,zga,dm,dm1,zw,zad,zgP,zgO,zH,Q0,Q1,Q2,Q3,Q4,Q5,zay,zB,zD,zT,zP,Q6,Q7,Q8,Q9,Q10,Q11,Q12,Q13,Q14,Nat.reduceAdd,Q15,Int.reduceToNat,Q16,Q17,Q18,Q19,Q20,reduceIte,Q21,Q22,S_op_Name,zU];rfl):P:=e.mpr h
theorem c_Name {σ:List zd} {s:List UInt8} (hs:s.length<=1073741824) {K:KT} (hK:K (.d (.bool (zjG s))) σ):zj Tryz.prog zrU [.d (.str s)] σ K:=by
 refine zdZ e_op_Name fun hl => ?_
 (refine gq32 ?_;try with_reducible exact True.intro)
 refine c_Runes hs ?_
 (refine gq29 ?_;try with_reducible exact True.intro)
 refine zt hl ?_
 have:decide ((ziG s:Int) > 0)=zjG s:=by simp [zjG]
 rw [this];exact hK
theorem c_rsize {σ:List zd} {c:Nat} {K:KT} (hK:K (.d (.int .i64 (znS c))) σ):zj Tryz.prog zto [.d (.int .u8 c)] σ K:=by
 refine zdZ e_r06_size fun hl => ?_
 simp only [zzG,iN,bT,bF,eN]
 (repeat' (first|(refine zyT ?_;try with_reducible exact True.intro)|(refine zV (fun h => ?_) (fun h => ?_)<;>(try rw [h]))|((with_reducible refine And.intro ?_ ?_);focus (first|omega|rfl|decide))))
 all_goals refine zt hl ?_
 all_goals (try simp only [decide_eq_true_eq,decide_eq_false_iff_not,beq_iff_eq,beq_eq_false_iff_ne,bne_iff_ne,ne_eq,Bool.not_eq_true',Bool.not_eq_false',bne_eq_false_iff_eq] at *)
 all_goals
  simp only [zcq,dmT,dm,dm1]
  have e:∀ z:Nat,znS c=z->K (.d (.int .i64 z)) σ:=fun z hz=>by rw [← hz];exact hK
  first
  | exact e 0 (by unfold znS;rw [if_neg (by omega),if_neg (by omega),if_neg (by omega),if_neg (by omega)])
  | exact e 1 (by unfold znS;rw [if_pos (by omega)])
  | exact e 2 (by unfold znS;rw [if_neg (by omega),if_pos (by omega)])
  | exact e 3 (by unfold znS;rw [if_neg (by omega),if_neg (by omega),if_pos (by omega)])
  | exact e 4 (by unfold znS;rw [if_neg (by omega),if_neg (by omega),if_neg (by omega),if_pos (by omega)])
theorem mask_eq (z:Nat) (hz:z=2∨z=3∨z=4) (b:Nat) (hb:b<256) :
  IntKind.i64.wrap ↑(BitVec.ofInt IntKind.i64.bits (b:Int) &&& BitVec.ofInt IntKind.i64.bits (IntKind.i64.wrap (IntKind.i64.wrap (1*2 ^ (min (IntKind.i64.wrap (7-(z:Int))).toNat IntKind.i64.bits))-1))).toNat=((b % 2 ^ (7-z):Nat):Int):=by
 have h0:(BitVec.ofInt 64 (b:Int)).toNat=b:=by simp;omega
 have key:∀ m:Nat,(m=3∨m=4∨m=5)->IntKind.i64.wrap ↑(BitVec.ofInt 64 (b:Int) &&& BitVec.ofInt 64 ((2:Int) ^ m-1)).toNat=((b % 2 ^ m:Nat):Int):=fun m hm=>by
  have:(BitVec.ofInt 64 (b:Int) &&& BitVec.ofInt 64 ((2:Int) ^ m-1)).toNat=b % 2 ^ m:=by
   rw [BitVec.toNat_and,h0]
   rcases hm with rfl|rfl|rfl
   ·exact Nat.and_two_pow_sub_one_eq_mod b 3
   ·exact Nat.and_two_pow_sub_one_eq_mod b 4
   ·exact Nat.and_two_pow_sub_one_eq_mod b 5
  rw [this]
  have:b % 2 ^ m<256:=Nat.lt_of_le_of_lt (Nat.mod_le _ _) hb
  exact zab (by omega) (by omega)
 rcases hz with rfl|rfl|rfl
 ·exact key 5 (by omega)
 ·exact key 4 (by omega)
 ·exact key 3 (by omega)
theorem partF_lt (s:List UInt8) (z:Nat) (hz:2<=z):∀ i,zig s z i<32*64 ^ i
 | 0=>by
  simp only [zig]
  have:2 ^ (7-z)<=2 ^ 5:=Nat.pow_le_pow_right (by omega) (by omega)
  have:=Nat.mod_lt (at8 s 0) (y := 2 ^ (7-z)) (Nat.pos_of_ne_zero (by simp))
  omega
 | i+1=>by
  simp only [zig,Nat.pow_succ]
  have:=partF_lt s z hz i
  omega
theorem at8_some {s:List UInt8} {i:Nat} (h:i<s.length):s[i]? = some s[i]/\(s[i].toNat:Int)=(at8 s i:Int):=by
 have:s[i]? = some s[i]:=List.getElem?_eq_getElem h
 exact ⟨this,by simp [at8,this]⟩
theorem gq33 {A P Q:Prop} (a:A) (h:Q) (e:A->P=Q:=by intro a;simp -dsimp only [↓zhL, ↓zbi, ↓zcI, ↓zhM, ↓zhF, ↓zhD, ↓zhG, ↓zhE, ↓zcN, ↓zcJ, ↓zcO, ↓zcK, ↓zhH, ↓zcH, ↓zcP, ↓zcL, ↓zcQ, ↓zcM, ↓zhC, ↓zhK, ↓zcG, ↓zcR, ↓zhz, ↓zhy, ↓zhB,iN,bT,bF,eN, ↓zdT, ↓unC, ↓zam, ↓zY, ↓zZ, ↓zae, ↓zax, ↓zag, ↓zeQ, ↓zap, ↓zaQ, ↓zW, ↓zg, ↓zh, ↓zcW, ↓zb, ↓zaC, ↓zG, ↓zbv, ↓zbE, ↓zc, ↓zE, ↓zq, ↓zK, ↓zao, ↓zft, ↓zfB, ↓zaL, ↓zaX, ↓zbm, ↓zbC, ↓zcj, ↓zI, ↓zaH, ↓zaa, ↓zM, ↓zaw,zfE,zcw,zcp,unA,zeT,bnd,zgq,zaA,zL,zga,dm,dm1,zw,zad,zgP,zgO,zH,Q0,Q1,Q2,Q3,Q4,Q5,zay,zB,zD,zT,zP,Q6,Q7,Q8,Q9,Q10,Q11,Q12,Q13,Q14,Nat.reduceAdd,Q15,Int.reduceToNat,Q16,Q17,Q18,Q19,Q20,reduceIte,Q21,Q22,zxC,zU,a];rfl):P:=(e a).mpr h
theorem gq34 {A P Q:Prop} (a:A) (h:Q) (e:A->P=Q:=by intro a;simp -dsimp only [↓zhL, ↓zbi, ↓zcI, ↓zhM, ↓zhF, ↓zhD, ↓zhG, ↓zhE, ↓zcN, ↓zcJ, ↓zcO, ↓zcK, ↓zhH, ↓zcH, ↓zcP, ↓zcL, ↓zcQ, ↓zcM, ↓zhC, ↓zhK, ↓zcG, ↓zcR, ↓zhz, ↓zhy, ↓zhB,iN,bT,bF,eN, ↓zdT, ↓unC, ↓zam, ↓zY, ↓zZ, ↓zae, ↓zax, ↓zag, ↓zeQ, ↓zap, ↓zaQ, ↓zW, ↓zg, ↓zh, ↓zcW, ↓zb, ↓zaC, ↓zG, ↓zbv, ↓zbE, ↓zc, ↓zE, ↓zq, ↓zK, ↓zao, ↓zft, ↓zfB, ↓zaL, ↓zaX, ↓zbm, ↓zbC, ↓zcj, ↓zI, ↓zaH, ↓zaa, ↓zM, ↓zaw,zfE,zcw,zcp,unA,zeT,bnd,zgq,zaA,zL,zga,dm,dm1,zw,zad,zgP,zgO,zH,Q0,Q1,Q2,Q3,Q4,Q5,zay,zB,zD,zT,zP,Q6,Q7,Q8,Q9,Q10,Q11,Q12,Q13,Q14,Nat.reduceAdd,Q15,Int.reduceToNat,Q16,Q17,Q18,Q19,Q20,reduceIte,Q21,Q22,zU,rep,zar,zgW,toD,zaz,Q23,Q24,Q25,Q26,Q27,Q28,Nat.reduceLeDiff,Q29,Nat.reduceSub,Q30,Q31,Q32,sc,Q33,Q34,Q35,a];rfl):P:=(e a).mpr h
theorem c_rune1 {σ:List zd} {s:List UInt8} (hs:s.length<=1073741824) (hne:s≠[]) {K:KT} (hK:K (.tup [.d (.int .i64 (zlM s).1),.d (.int .i64 (zlM s).2)]) σ):zj Tryz.prog zqS [.d (.str s)] σ K:=by
 refine zdZ e_r06_rune1 fun hl => ?_
 have hpos:0<s.length:=List.length_pos_iff.2 hne
 obtain ⟨g1,g2⟩:=at8_some hpos
 have hb0:=zxi s 0
 (refine gq33 (gqc3 g1 g2) ?_;try with_reducible exact True.intro)
 refine ⟨by omega,c_rsize ?_⟩
 have hz4:znS (at8 s 0)=0∨znS (at8 s 0)=1∨znS (at8 s 0)=2∨znS (at8 s 0)=3∨znS (at8 s 0)=4:=by
  unfold znS;split<;>(try split)<;>(try split)<;>(try split)<;>omega
 obtain ⟨z,hz⟩:∃ z,z=znS (at8 s 0):=⟨_,rfl⟩
 rw [← hz] at hz4 ⊢
 have bad:z=0∨z > s.length->K (.tup [.d (.int .i64 0),.d (.int .i64 0)]) σ:=fun h=>by
  have:zlM s=(0, 0):=by simp only [zlM, ← hz];rw [if_pos h]
  rw [this] at hK;exact hK
 (refine gq29 ?_;try with_reducible exact True.intro)
 refine zV (fun h => ?_) (fun h => ?_)
 all_goals (try (refine gq28 (gqc3 h (gqc3 g1 g2)) ?_;try with_reducible exact True.intro))
 ·refine zt hl ?_
  exact bad (.inl (by (try simp only [decide_eq_true_eq,decide_eq_false_iff_not,beq_iff_eq,beq_eq_false_iff_ne,bne_iff_ne,ne_eq,Bool.not_eq_true',Bool.not_eq_false',bne_eq_false_iff_eq] at *);omega))
 have hz0:z≠0:=by (try simp only [decide_eq_true_eq,decide_eq_false_iff_not,beq_iff_eq,beq_eq_false_iff_ne,bne_iff_ne,ne_eq,Bool.not_eq_true',Bool.not_eq_false',bne_eq_false_iff_eq] at *);omega
 refine zV (fun h => ?_) (fun h => ?_)
 all_goals (try (refine gq28 (gqc3 h (gqc3 g1 g2)) ?_;try with_reducible exact True.intro))
 ·refine zt hl ?_
  exact bad (.inr (by (try simp only [decide_eq_true_eq,decide_eq_false_iff_not,beq_iff_eq,beq_eq_false_iff_ne,bne_iff_ne,ne_eq,Bool.not_eq_true',Bool.not_eq_false',bne_eq_false_iff_eq] at *);omega))
 have hzl:z<=s.length:=by (try simp only [decide_eq_true_eq,decide_eq_false_iff_not,beq_iff_eq,beq_eq_false_iff_ne,bne_iff_ne,ne_eq,Bool.not_eq_true',Bool.not_eq_false',bne_eq_false_iff_eq] at *);omega
 have hnb:¬ (z=0∨z > s.length):=by omega
 refine zV (fun h => ?_) (fun h => ?_)
 all_goals (try (refine gq28 (gqc3 h (gqc3 g1 g2)) ?_;try with_reducible exact True.intro))
 ·have h1:z=1:=by (try simp only [decide_eq_true_eq,decide_eq_false_iff_not,beq_iff_eq,beq_eq_false_iff_ne,bne_iff_ne,ne_eq,Bool.not_eq_true',Bool.not_eq_false',bne_eq_false_iff_eq] at *);omega
  refine ⟨by omega,?_⟩
  refine zt hl ?_
  have:zlM s=(at8 s 0, 1):=by simp only [zlM, ← hz];rw [if_neg hnb,if_pos h1]
  rw [this] at hK
  simp only [zcq,dmT,dm,dm1,List.map_cons,List.map_nil]
  rw [zab (by omega) (by omega)]
  exact hK
 have hz2:z=2∨z=3∨z=4:=by (try simp only [decide_eq_true_eq,decide_eq_false_iff_not,beq_iff_eq,beq_eq_false_iff_ne,bne_iff_ne,ne_eq,Bool.not_eq_true',Bool.not_eq_false',bne_eq_false_iff_eq] at *);omega
 have h1:¬ z=1:=by omega
 refine ⟨by omega,?_⟩
 have hw:IntKind.i64.wrap (at8 s 0:Int)=(at8 s 0:Int):=zab (by omega) (by omega)
 have hsh:(0:Int)<=IntKind.i64.wrap (7-(z:Int)):=by rw [zab (by omega) (by omega)];omega
 refine ⟨hsh,?_⟩
 rw [hw,mask_eq z hz2 _ hb0]
 refine zl z (fun k vs s'=>s' = σ/\k+1<=z/\vs = [.d (.int .i64 (zig s z k)),.d (.int .i64 (k+1:Nat))]/\∀ i,i<k+1 → 1<=i->ztP s i=true) ⟨rfl,by omega,rfl,fun i h1 h2=>by omega⟩ ?_
 rintro k vs s' hk ⟨rfl,hk1,rfl,hcont⟩
 have hpl:=partF_lt s z (by omega) k
 have hpow:64 ^ k<=64 ^ 3:=Nat.pow_le_pow_right (by omega) (by omega)
 (refine gq29 ?_;try with_reducible exact True.intro)
 have fail:(¬ ∀ i,i<z → 1<=i->ztP s i=true)->K (.tup [.d (.int .i64 0),.d (.int .i64 0)]) s':=fun h=>by
  have:zlM s=(0, 0):=by simp only [zlM, ← hz];rw [if_neg hnb,if_neg h1,if_neg h]
  rw [this] at hK;exact hK
 refine zV (fun h => ?_) (fun h => ?_)
 ·have hkz:k+1<z:=by (try simp only [decide_eq_true_eq,decide_eq_false_iff_not,beq_iff_eq,beq_eq_false_iff_ne,bne_iff_ne,ne_eq,Bool.not_eq_true',Bool.not_eq_false',bne_eq_false_iff_eq] at *);omega
  obtain ⟨f1,f2⟩:=at8_some (s:=s) (i:=k+1) (by omega)
  have hb:=zxi s (k+1)
  repeat' first
   | (refine gq34 (gqc3 f1 f2) ?_;try with_reducible exact True.intro)
   | (refine zV (fun h => ?_) (fun h => ?_)<;>(try rw [h]))
   | ((with_reducible refine And.intro ?_ ?_);focus (first|omega|rfl|decide))
  ·refine zt hl ?_
   exact fail fun h'=>by
    have:=h' (k+1) hkz (by omega)
    simp only [ztP] at this
    (try simp only [decide_eq_true_eq,decide_eq_false_iff_not,beq_iff_eq,beq_eq_false_iff_ne,bne_iff_ne,ne_eq,Bool.not_eq_true',Bool.not_eq_false',bne_eq_false_iff_eq] at *);omega
  ·refine zt hl ?_
   exact fail fun h'=>by
    have:=h' (k+1) hkz (by omega)
    simp only [ztP] at this
    (try simp only [decide_eq_true_eq,decide_eq_false_iff_not,beq_iff_eq,beq_eq_false_iff_ne,bne_iff_ne,ne_eq,Bool.not_eq_true',Bool.not_eq_false',bne_eq_false_iff_eq] at *);omega
  have hv:IntKind.i64.wrap (IntKind.i64.wrap (↑(zig s z k)*64)+(IntKind.i64.wrap ↑(at8 s (k+1))).tmod 64)=((zig s z (k+1):Nat):Int):=by
   have hp2:zig s z k<32*64 ^ 3:=by omega
   have e1:IntKind.i64.wrap ((zig s z k:Int)*64)=(zig s z k:Int)*64:=zab (by omega) (by omega)
   have e2:IntKind.i64.wrap (at8 s (k+1):Int)=(at8 s (k+1):Int):=zab (by omega) (by omega)
   have e3:((at8 s (k+1):Int)).tmod 64=((at8 s (k+1) % 64:Nat):Int):=by rw [Int.tmod_eq_emod_of_nonneg (by omega)];rfl
   rw [e1,e2,e3,zab (by omega) (by omega)]
   simp only [zig]
   omega
  have hw2:IntKind.i64.wrap (((k+1:Nat):Int)+1)=((k+1+1:Nat):Int):=by rw [zab (by omega) (by omega)];rfl
  rw [hv,hw2]
  refine zan.next (by omega) ⟨rfl,by omega,rfl,fun i hi1 hi2 => ?_⟩
  by_cases hi:i<k+1
  ·exact hcont i hi hi2
  ·obtain rfl:i=k+1:=by omega
   simp only [ztP]
   (try simp only [decide_eq_true_eq,decide_eq_false_iff_not,beq_iff_eq,beq_eq_false_iff_ne,bne_iff_ne,ne_eq,Bool.not_eq_true',Bool.not_eq_false',bne_eq_false_iff_eq] at *);omega
 ·have hkz:k+1=z:=by (try simp only [decide_eq_true_eq,decide_eq_false_iff_not,beq_iff_eq,beq_eq_false_iff_ne,bne_iff_ne,ne_eq,Bool.not_eq_true',Bool.not_eq_false',bne_eq_false_iff_eq] at *);omega
  have hall:∀ i,i<z → 1<=i->ztP s i=true:=by rw [← hkz];exact hcont
  have hdec:zlM s=if zig s z k<zgQ z∨zig s z k > 1114111∨(55296<=zig s z k/\zig s z k<57344) then (0, 0) else (zig s z k,z):=by
   have e:z-1=k:=by omega
   simp only [zlM, ← hz]
   rw [if_neg hnb,if_neg h1,if_pos hall,e]
  have hget:∃ l:Nat,l=zgQ z/\([[D.int .i64 0],[D.int .i64 0],[D.int .i64 128],[D.int .i64 2048],[D.int .i64 65536]]:List (List D))[z]? = some [D.int .i64 l]:=by
   rcases hz2 with rfl|rfl|rfl<;>exact ⟨_,rfl,rfl⟩
  obtain ⟨l,hl1,hl2⟩:=hget
  rw [← hl1] at hdec
  repeat' first
   | (refine gq34 hl2 ?_;try with_reducible exact True.intro)
   | (refine zV (fun h => ?_) (fun h => ?_)<;>(try rw [h]))
   | ((with_reducible refine And.intro ?_ ?_);focus (first|omega|rfl|decide))
  all_goals refine zt hl ?_
  all_goals (try simp only [decide_eq_true_eq,decide_eq_false_iff_not,beq_iff_eq,beq_eq_false_iff_ne,bne_iff_ne,ne_eq,Bool.not_eq_true',Bool.not_eq_false',bne_eq_false_iff_eq] at *)
  all_goals simp only [zcq,dmT,dm,dm1,List.map_cons,List.map_nil]
  all_goals first
   | (rw [if_pos (by omega)] at hdec;rw [hdec] at hK;exact hK)
   | (rw [if_neg (by omega)] at hdec;rw [hdec] at hK;exact hK)
theorem badF_ref (v:Nat):badF v=decide (v<33∨127<=v/\v<160∨v=47∨v=65533):=by
 simp only [badF];congr 1;apply propext;omega
theorem c_rRunes {σ:List zd} {s:List UInt8} (hs:s.length<=1073741824) {K:KT} (hK:K (.d (.int .i64 (ziG s))) σ):zj Tryz.prog zqT [.d (.str s)] σ K:=by
 refine zdZ e_r06_Runes fun hl => ?_
 simp only [zxD,iN,bT,bF,eN]
 refine zl s.length (fun pos vs s' => ∃ (cnt:Nat) (t:List UInt8),t.length+pos=s.length/\vs = [.d (.str t),.d (.int .i64 cnt)]/\s' = σ/\cnt<=pos/\cnt<=16/\zfp (s.length+1) s=(zfp (s.length+1) t).map (· + cnt)) ⟨0,s,rfl,rfl,rfl,by omega,by omega,by simp⟩ ?_
 rintro pos vs s' hp ⟨cnt,t,hlen,rfl,rfl,hc,hc16,hr⟩
 (refine gq29 ?_;try with_reducible exact True.intro)
 refine zV (fun h => ?_) (fun h => ?_)
 ·have ht:t≠[]:=by rintro rfl;simp at h
  have htl:0<t.length:=List.length_pos_iff.2 ht
  have hw2:=zmi t
  have hcount:zfp (s.length+1) t=if (zlM t).2=0∨badF (zlM t).1=true then none else (zfp s.length (t.drop (zlM t).2)).map (· + 1):=by
   rw [zfp,if_neg ht]
  refine c_rune1 (by omega) ht ?_
  have stop:(zlM t).2=0∨badF (zlM t).1=true∨cnt=16->K (.d (.int .i64 0)) s':=fun hb=>by
   have h0:ziG s=0:=by
    by_cases hq:(zlM t).2=0∨badF (zlM t).1=true
    ·simp [ziG,hr,hcount,if_pos hq]
    ·have hcn:cnt=16:=by
      rcases hb with hb|hb|hb
      ·exact absurd (.inl hb) hq
      ·exact absurd (.inr hb) hq
      ·exact hb
     simp only [ziG,hr,hcount,if_neg hq]
     cases zfp s.length (t.drop (zlM t).2) with
     | none=>simp
     | some m=>simp;omega
   rw [h0] at hK;exact hK
  (repeat' (first|(refine zyT ?_;try with_reducible exact True.intro)|(refine zV (fun h => ?_) (fun h => ?_)<;>(try rw [h]))|((with_reducible refine And.intro ?_ ?_);focus (first|omega|rfl|decide))))
  all_goals first
   | (
    refine zt hl ?_
    refine stop ?_
    rw [badF_ref,decide_eq_true_eq]
    (try simp only [decide_eq_true_eq,decide_eq_false_iff_not,beq_iff_eq,beq_eq_false_iff_ne,bne_iff_ne,ne_eq,Bool.not_eq_true',Bool.not_eq_false',bne_eq_false_iff_eq] at *)
    omega)
   | skip
  all_goals
   have hb:badF (zlM t).1=false:=by
    rw [badF_ref,decide_eq_false_iff_not]
    (try simp only [decide_eq_true_eq,decide_eq_false_iff_not,beq_iff_eq,beq_eq_false_iff_ne,bne_iff_ne,ne_eq,Bool.not_eq_true',Bool.not_eq_false',bne_eq_false_iff_eq] at *)
    omega
   have h2:(zlM t).2≠0:=by (try simp only [decide_eq_true_eq,decide_eq_false_iff_not,beq_iff_eq,beq_eq_false_iff_ne,bne_iff_ne,ne_eq,Bool.not_eq_true',Bool.not_eq_false',bne_eq_false_iff_eq] at *);omega
   have hcl:cnt<16:=by (try simp only [decide_eq_true_eq,decide_eq_false_iff_not,beq_iff_eq,beq_eq_false_iff_ne,bne_iff_ne,ne_eq,Bool.not_eq_true',Bool.not_eq_false',bne_eq_false_iff_eq] at *);omega
   rw [zab (by omega) (by omega)]
   refine zan.to (pos+(zlM t).2) (by omega) (by omega) ⟨cnt+1,t.drop (zlM t).2,by simp;omega,?_,rfl,by omega,by omega,?_⟩
   ·simp
   ·rw [hr,hcount,if_neg (by simp [h2,hb]),zrm s.length (s.length+1) _ (by simp;omega) (by simp;omega)]
    cases zfp (s.length+1) (t.drop (zlM t).2)<;>simp
    omega
 ·refine zt hl ?_
  have ht:t = []:=by
   have:¬ 0<t.length:=by (try simp only [decide_eq_true_eq,decide_eq_false_iff_not,beq_iff_eq,beq_eq_false_iff_ne,bne_iff_ne,ne_eq,Bool.not_eq_true',Bool.not_eq_false',bne_eq_false_iff_eq] at *);omega
   exact List.length_eq_zero_iff.1 (by omega)
  have h0:ziG s=cnt:=by
   simp only [ziG,hr,ht]
   simp [zfp]
   omega
  rw [h0] at hK;exact hK
theorem c_rName {σ:List zd} {s:List UInt8} (hs:s.length<=1073741824) {K:KT} (hK:K (.d (.bool (zjG s))) σ):zj Tryz.prog zpG [.d (.str s)] σ K:=by
 refine zdZ e_r06_Name fun hl => ?_
 simp only [zzI,iN,bT,bF,eN]
 (refine gq29 ?_;try with_reducible exact True.intro)
 refine c_rRunes hs ?_
 (refine gq29 ?_;try with_reducible exact True.intro)
 refine zt hl ?_
 have:decide ((ziG s:Int) > 0)=zjG s:=by simp [zjG]
 rw [this];exact hK
theorem c_Check_1 {σ:List zd} {r:List UInt8} {K:KT} (hK:K (.d (.bool (decide (r.length > 64)))) σ):zj Tryz.prog zli [.d (.slice (bcs r))] σ K:=by
 refine zdZ e_op_Check_1 fun hl => ?_
 simp only [zuN,iN,bT,bF,eN]
 (refine gq29 ?_;try with_reducible exact True.intro)
 refine zt hl ?_
 have:decide (((bcs r).length:Int) > 64)=decide (r.length > 64):=by simp [bcs];omega
 rw [this];exact hK
theorem gq35 {P Q:Prop} (h:Q) (e:P=Q:=by simp -dsimp only [↓zhL, ↓zbi, ↓zcI, ↓zhM, ↓zhF, ↓zhD, ↓zhG, ↓zhE, ↓zcN, ↓zcJ, ↓zcO, ↓zcK, ↓zhH, ↓zcH, ↓zcP, ↓zcL, ↓zcQ, ↓zcM, ↓zhC, ↓zhK, ↓zcG, ↓zcR, ↓zhz, ↓zhy, ↓zhB,iN,bT,bF,eN, ↓zdT, ↓unC, ↓zam, ↓zY, ↓zZ, ↓zae, ↓zax, ↓zag, ↓zeQ, ↓zap, ↓zaQ, ↓zW, ↓zg, ↓zh, ↓zcW, ↓zb, ↓zaC, ↓zG, ↓zbv, ↓zbE, ↓zc, ↓zE, ↓zq, ↓zK, ↓zao, ↓zft, ↓zfB, ↓zaL, ↓zaX, ↓zbm, ↓zbC, ↓zcj, ↓zI, ↓zaH, ↓zaa, ↓zM, ↓zaw,zfE,zcw,zcp,unA,zeT,bnd,zgq,zaA,zL,zga,dm,dm1,zw,zad,zgP,zgO,zH,Q0,Q1,Q2,Q3,Q4,Q5,zay,zB,zD,zT,zP,Q6,Q7,Q8,Q9,Q10,Q11,Q12,Q13,Q14,Nat.reduceAdd,Q15,Int.reduceToNat,Q16,Q17,Q18,Q19,Q20,reduceIte,Q21,Q22,dmT,zcq,zU];rfl):P:=e.mpr h
theorem zoW {σ:List zd} {a:List (List UInt8)} (ha:a.length<=1073741824) {K:KT} (hK:K (.d (.bool (a.any fun r=>decide (r.length > 64)))) σ) :
  zj Tryz.prog zbt [.d (.slice (zeU a)),.fn (.func zli) [] []] σ K:=by
 refine zeE zfc fun hl => ?_
 simp only [zcy,iN,bT,bF,eN]
 (refine gq29 ?_;try with_reducible exact True.intro)
 refine zeE zfD fun hl => ?_
 simp only [zdf,iN,bT,bF,eN]
 (refine gq29 ?_;try with_reducible exact True.intro)
 refine zl a.length (fun k vs s=>vs = [.d (.int .i64 k)]/\s = σ/\∀ r∈a.take k, ¬ r.length > 64) ⟨rfl,rfl,by simp⟩ ?_
 rintro k vs s hk ⟨rfl,rfl,htk⟩
 (refine gq29 ?_;try with_reducible exact True.intro)
 refine zV (fun h => ?_) (fun h => ?_)
 ·have hka:k<a.length:=by (try simp only [decide_eq_true_eq,decide_eq_false_iff_not,beq_iff_eq,beq_eq_false_iff_ne,bne_iff_ne,ne_eq,Bool.not_eq_true',Bool.not_eq_false',bne_eq_false_iff_eq] at *);omega
  have hx:a[k]? = some a[k]:=by simp [hka]
  (refine gq28 (zfM hx) ?_;try with_reducible exact True.intro)
  refine And.intro (by omega) (c_Check_1 ?_)
  (refine gq29 ?_;try with_reducible exact True.intro)
  refine zV (fun h => ?_) (fun h => ?_)
  ·refine zt hl ?_
   (refine gq35 ?_;try with_reducible exact True.intro)
   refine zt hl ?_
   have e1:decide ((k:Int)≥0)=true:=by simp
   have e2:(a.any fun r=>decide (r.length > 64))=true:=by
    rw [List.any_eq_true]
    exact ⟨a[k],List.getElem_mem _,h⟩
   rw [e2] at hK
   simp only [zcq,dmT,dm,dm1]
   rw [e1];exact hK
  ·(refine gq29 ?_;try with_reducible exact True.intro)
   refine zan.next hka ⟨?_,rfl,fun r hr => ?_⟩
   ·rw [zab (by omega) (by omega)];rfl
   ·rw [List.take_add_one,hx] at hr
    rcases List.mem_append.1 hr with hr|hr
    ·exact htk r hr
    ·have:r=a[k]:=by simpa using hr
     subst this
     simpa using h
 ·refine zt hl ?_
  (refine gq35 ?_;try with_reducible exact True.intro)
  refine zt hl ?_
  have e2:(a.any fun r=>decide (r.length > 64))=false:=by
   rw [List.any_eq_false]
   intro r hr
   have hk':k=a.length:=by (try simp only [decide_eq_true_eq,decide_eq_false_iff_not,beq_iff_eq,beq_eq_false_iff_ne,bne_iff_ne,ne_eq,Bool.not_eq_true',Bool.not_eq_false',bne_eq_false_iff_eq] at *);omega
   rw [hk',List.take_length] at htk
   simpa using htk r hr
  rw [e2] at hK
  exact hK
theorem gq36 {P Q:Prop} (h:Q) (e:P=Q:=by simp -dsimp only [↓zhL, ↓zbi, ↓zcI, ↓zhM, ↓zhF, ↓zhD, ↓zhG, ↓zhE, ↓zcN, ↓zcJ, ↓zcO, ↓zcK, ↓zhH, ↓zcH, ↓zcP, ↓zcL, ↓zcQ, ↓zcM, ↓zhC, ↓zhK, ↓zcG, ↓zcR, ↓zhz, ↓zhy, ↓zhB,iN,bT,bF,eN, ↓zdT, ↓unC, ↓zam, ↓zY, ↓zZ, ↓zae, ↓zax, ↓zag, ↓zeQ, ↓zap, ↓zaQ, ↓zW, ↓zg, ↓zh, ↓zcW, ↓zb, ↓zaC, ↓zG, ↓zbv, ↓zbE, ↓zc, ↓zE, ↓zq, ↓zK, ↓zao, ↓zft, ↓zfB, ↓zaL, ↓zaX, ↓zbm, ↓zbC, ↓zcj, ↓zI, ↓zaH, ↓zaa, ↓zM, ↓zaw,zfE,zcw,zcp,unA,zeT,bnd,zgq,zaA,zL,zga,dm,dm1,zw,zad,zgP,zgO,zH,Q0,Q1,Q2,Q3,Q4,Q5,zay,zB,zD,zT,zP,Q6,Q7,Q8,Q9,Q10,Q11,Q12,Q13,Q14,Nat.reduceAdd,Q15,Int.reduceToNat,Q16,Q17,Q18,Q19,Q20,reduceIte,Q21,Q22,zU,rep,zar,zgW,toD,zaz,Q23,Q24,Q25,Q26,Q27,Q28,Nat.reduceLeDiff,Q29,Nat.reduceSub,Q30,Q31,Q32,sc,Q33,Q34,Q35,Bool.and_false,Bool.and_self,Bool.false_and,Bool.not_false,Bool.not_true,Bool.true_and,Int.toNat_natCast,Int.toNat_zero,List.drop_zero,List.length_map,List.length_nil,List.nil_append,List.take_length,Nat.sub_zero,Nat.zero_add,Option.isSome_none,Option.isSome_some,Option.map_none,Option.map_some,zX,beq_self_eq_true,bne_self_eq_false,zco,zdR,opA];rfl):P:=e.mpr h
theorem c_Check {σ:List zd} {o:TOp} (ht:o.topic.length<=1073741824) (hg:o.group.length<=1073741824) (hr:o.recs.length<=1073741824) {K:KT} (hK:K (.d (.int .i64 (zcT zjG o))) σ):zj Tryz.prog zpH [opA o] σ K:=by
 refine zdZ e_op_Check fun hl => ?_
 simp only [zzN,iN,bT,bF,eN,zl5,opA]
 (refine zyT ?_;try with_reducible exact True.intro)
 refine c_only (o:=o) ?_
 have honly:(zou o).recs.length<=1073741824:=by unfold zou noOp;split<;>(try split)<;>(try split)<;>(try split)<;>simp<;>omega
 (refine gq36 ?_;try with_reducible exact True.intro)
 repeat' first
  | (refine zyT ?_;try with_reducible exact True.intro)
  | refine c_Same (a:=o) (b:=zou o) hr honly ?_
  | refine c_Name ht ?_
  | refine c_Name hg ?_
  | refine zoW hr ?_
  | (refine zV (fun h => ?_) (fun h => ?_)<;>(try rw [h]))
  | ((with_reducible refine And.intro ?_ ?_);focus (first|omega|rfl|decide))
 all_goals refine zt hl ?_
 all_goals (try simp only [decide_eq_true_eq,decide_eq_false_iff_not,beq_iff_eq,beq_eq_false_iff_ne,bne_iff_ne,ne_eq,Bool.not_eq_true',Bool.not_eq_false',bne_eq_false_iff_eq] at *)
 all_goals
  simp only [zcq,dmT,dm,dm1]
  have e:∀ z:Int,zcT zjG o=z->K (.d (.int .i64 z)) σ:=fun z hz=>by rw [← hz];exact hK
  clear hK
  apply e
  first
  | grind [zcT]
  | skip
def zoH (k:Int):Bool:=decide (1<=k/\k<=4)
def zsf (k:Int):Bool:=decide (k=3)
def fOff (k:Int):Bool:=decide (k=3∨k=4)
def zAo (k:Int):Bool:=decide (k=2)
theorem c_fields {σ:List zd} {k:Int} {K:KT} (hK:K (.tup [.d (.bool (zoH k)),.d (.bool (zsf k)),.d (.bool (fOff k)),.d (.bool (zAo k))]) σ):zj Tryz.prog zlh [.d (.int .i64 k)] σ K:=by
 refine zdZ e_r06_fields fun hl => ?_
 simp only [zuJ,iN,bT,bF,eN]
 (repeat' (first|(refine zyT ?_;try with_reducible exact True.intro)|(refine zV (fun h => ?_) (fun h => ?_)<;>(try rw [h]))|((with_reducible refine And.intro ?_ ?_);focus (first|omega|rfl|decide))))
 all_goals refine zt hl ?_
 all_goals (try simp only [decide_eq_true_eq,decide_eq_false_iff_not,beq_iff_eq,beq_eq_false_iff_ne,bne_iff_ne,ne_eq,Bool.not_eq_true',Bool.not_eq_false',bne_eq_false_iff_eq] at *)
 all_goals
  simp only [zcq,dmT,dm,dm1,List.map_cons,List.map_nil]
  have e:∀ a b c d:Bool,zoH k=a->zsf k=b->fOff k=c->zAo k=d->K (.tup [.d (.bool a),.d (.bool b),.d (.bool c),.d (.bool d)]) σ:=fun a b c d h1 h2 h3 h4=>by rw [← h1, ← h2, ← h3, ← h4];exact hK
  clear hK
  apply e<;>simp [zoH,zsf,fOff,zAo]<;>omega
theorem onlyF_iff (o:TOp):o=zou o↔(zoH o.kind=false->o.topic = [])/\(zsf o.kind=false->o.group = [])/\(fOff o.kind=false->o.offset=0)/\(zAo o.kind=false->o.recs = []):=by
 obtain ⟨k,t,g,f,r⟩:=o
 simp only [zou,noOp,zoH,zsf,fOff,zAo,decide_eq_false_iff_not]
 by_cases h1:k=1
 ·subst h1;simp
 by_cases h2:k=2
 ·subst h2;simp
 by_cases h3:k=3
 ·subst h3;simp
 by_cases h4:k=4
 ·subst h4;simp
 ·have:¬ (1<=k/\k<=4):=by omega
  simp [h1,h2,h3,h4,this]
set_option maxHeartbeats 2000000 in
theorem c_rCheck {σ:List zd} {o:TOp} (ht:o.topic.length<=1073741824) (hg:o.group.length<=1073741824) (hr:o.recs.length<=1073741824) {K:KT} (hK:K (.d (.int .i64 (zcT zjG o))) σ):zj Tryz.prog zmP [opA o] σ K:=by
 refine zdZ e_r06_Check fun hl => ?_
 simp only [zxE,iN,bT,bF,eN,opA]
 (refine zyT ?_;try with_reducible exact True.intro)
 refine c_fields ?_
 have fin:∀ z:Int,zcT zjG o=z->K (.d (.int .i64 z)) σ:=fun z hz=>by rw [← hz];exact hK
 have honly:=onlyF_iff o
 have hkind:zoH o.kind=true->ziw o=true:=by simp [zoH,ziw];omega
 have hk1:zoH o.kind=true↔(ziw o=true/\o.kind≠0):=by simp [zoH,ziw];omega
 have hk2:zsf o.kind=true↔o.kind=3:=by simp [zsf]
 have hk3:zAo o.kind=true↔o.kind=2:=by simp [zAo]
 have hk4:ziw o=true↔(0<=o.kind/\o.kind<=4):=by simp [ziw]
 have hnil:o.recs = []↔o.recs.length=0:=List.length_eq_zero_iff.symm
 clear hK
 repeat' first
  | (refine zyT ?_;try with_reducible exact True.intro)
  | refine c_rName ht ?_
  | refine c_rName hg ?_
  | (refine zV (fun h => ?_) (fun h => ?_)<;>(try rw [h]))
  | ((with_reducible refine And.intro ?_ ?_);focus (first|omega|rfl|decide))
 all_goals first
  | (
   refine zt hl ?_
   (try simp only [decide_eq_true_eq,decide_eq_false_iff_not,beq_iff_eq,beq_eq_false_iff_ne,bne_iff_ne,ne_eq,Bool.not_eq_true',Bool.not_eq_false',bne_eq_false_iff_eq] at *)
   simp only [zcq,dmT,dm,dm1]
   apply fin
   grind [zcT])
  | skip
 all_goals
  refine zl o.recs.length (fun k vs s=>vs = [.d (.int .i64 k)]/\s = σ++[.box [.d (.int .i64 o.kind),.d (.str o.topic),.d (.str o.group),.d (.int .i64 o.offset),.d (.slice (zeU o.recs))]]/\∀ r∈o.recs.take k, ¬ r.length > 64) ⟨rfl,rfl,by simp⟩ ?_
  rintro k vs s hk ⟨rfl,rfl,htk⟩
  (refine gq29 ?_;try with_reducible exact True.intro)
  refine zV (fun h => ?_) (fun h => ?_)
  ·have hka:k<o.recs.length:=by (try simp only [decide_eq_true_eq,decide_eq_false_iff_not,beq_iff_eq,beq_eq_false_iff_ne,bne_iff_ne,ne_eq,Bool.not_eq_true',Bool.not_eq_false',bne_eq_false_iff_eq] at *);omega
   have hx:o.recs[k]? = some o.recs[k]:=by simp [hka]
   have hmem:o.recs[k]∈o.recs:=List.getElem_mem _
   have hbl:(bcs o.recs[k]).length=o.recs[k].length:=by simp [bcs]
   (refine gq28 (zfM hx) ?_;try with_reducible exact True.intro)
   refine And.intro (by omega) ?_
   refine zV (fun h => ?_) (fun h => ?_)
   ·have hany:(o.recs.any fun r=>decide (r.length > 64))=true:=by
     rw [List.any_eq_true]
     exact ⟨_,hmem,by (try simp only [decide_eq_true_eq,decide_eq_false_iff_not,beq_iff_eq,beq_eq_false_iff_ne,bne_iff_ne,ne_eq,Bool.not_eq_true',Bool.not_eq_false',bne_eq_false_iff_eq] at *);omega⟩
    refine zt hl ?_
    (try simp only [decide_eq_true_eq,decide_eq_false_iff_not,beq_iff_eq,beq_eq_false_iff_ne,bne_iff_ne,ne_eq,Bool.not_eq_true',Bool.not_eq_false',bne_eq_false_iff_eq] at *)
    simp only [zcq,dmT,dm,dm1]
    apply fin
    grind [zcT]
   ·(refine gq29 ?_;try with_reducible exact True.intro)
    refine zan.next hka ⟨?_,rfl,fun r hr => ?_⟩
    ·rw [zab (by omega) (by omega)];rfl
    ·rw [List.take_add_one,hx] at hr
     rcases List.mem_append.1 hr with hr|hr
     ·exact htk r hr
     ·have:r=o.recs[k]:=by simpa using hr
      subst this
      (try simp only [decide_eq_true_eq,decide_eq_false_iff_not,beq_iff_eq,beq_eq_false_iff_ne,bne_iff_ne,ne_eq,Bool.not_eq_true',Bool.not_eq_false',bne_eq_false_iff_eq] at *)
      omega
  ·have hany:(o.recs.any fun r=>decide (r.length > 64))=false:=by
    rw [List.any_eq_false]
    intro r hr
    have hk':k=o.recs.length:=by (try simp only [decide_eq_true_eq,decide_eq_false_iff_not,beq_iff_eq,beq_eq_false_iff_ne,bne_iff_ne,ne_eq,Bool.not_eq_true',Bool.not_eq_false',bne_eq_false_iff_eq] at *);omega
    rw [hk',List.take_length] at htk
    simpa using htk r hr
   clear htk
   (repeat' (first|(refine zyT ?_;try with_reducible exact True.intro)|(refine zV (fun h => ?_) (fun h => ?_)<;>(try rw [h]))|((with_reducible refine And.intro ?_ ?_);focus (first|omega|rfl|decide))))
   all_goals
    refine zt hl ?_
    (try simp only [decide_eq_true_eq,decide_eq_false_iff_not,beq_iff_eq,beq_eq_false_iff_ne,bne_iff_ne,ne_eq,Bool.not_eq_true',Bool.not_eq_false',bne_eq_false_iff_eq] at *)
    simp only [zcq,dmT,dm,dm1]
    apply fin
    grind [zcT]
end Go.Proofs.YtpgahkdjkanblaaGreat
