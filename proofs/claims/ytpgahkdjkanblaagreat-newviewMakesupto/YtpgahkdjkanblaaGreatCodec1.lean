/- Contracts of the small functions over bytes. -/
import Derived.Test.YtpgahkdjkanblaaGreatSh
import Derived.Test.YtpgahkdjkanblaaGreatAwEnd
import Derived.Test.YtpgahkdjkanblaaGreatQu1
import Derived.Test.YtpgahkdjkanblaaGreatSpOp
import Derived.Test.YtpgahkdjkanblaaGreatSpTab
set_option linter.all false
set_option maxRecDepth 100000
namespace Go.Proofs.YtpgahkdjkanblaaGreat
open Go.AW
theorem zAg {σ:List zh} {es:List (List D)} {K:KT} (he:∀ e ∈ es,e.length=1) (hK:K (.exact es) σ):zo Tryz.prog zfg [.d (.slice es)] σ K:=by
 refine zce zhs.is rfl (fun _ => []) fun hl _=>zhs.goes ?_
 simp only [zhy,iN,bT,bF,eN,gF,gT,gFm,gTm,fl,nfl,gFl,gTl,il,cp,orC,anC,cA,bP,z1,z2,m1,List.map_cons,List.map_nil,zal,zdd,zdb,bnd,zdY,zA]
 refine ⟨rfl,trivial,by omega,by omega,by omega,he,?_⟩
 simp only [zoG,zxt,getL,zuX,zcO,zeR]
 simpa using ⟨hl,hK⟩
theorem znr {σ:List zh} {a b:List UInt8} {K:KT} (hK:K (.d (.bool (a == b))) σ):zo Tryz.prog zhp [.d (.slice (bcs a)),.d (.slice (bcs b))] σ K:=by
 refine zd zsB.is rfl fun hl _=>zsB.goes ?_
 simp only [zsZ,iN,bT,bF,eN,gF,gT,gFm,gTm,fl,nfl,gFl,gTl,il,cp,orC,anC,cA,bP,z1,z2,m1,List.map_cons,List.map_nil,zak,zdd,zgM,zcB,zdx,zbb,zA]
 exact zwb (by simp [zfO,dmT,dm,dm1,zcO]) hl hK
end Go.Proofs.YtpgahkdjkanblaaGreat

/- Contracts: how numbers and byte strings are put. -/
set_option maxRecDepth 100000
namespace Go.Proofs.YtpgahkdjkanblaaGreat
open Go.AW
def bva (bs:List UInt8):List AV:=bs.map fun b => .d (.int .u8 (b.toNat:Int))
def zih (bs:List UInt8):List AV:=bva bs++List.replicate (10 - bs.length) (.d (.int .u8 0))
theorem zxP {pre:List UInt8} {b:UInt8} (h:pre.length<10):zac (zih pre) pre.length [.d (.int .u8 (b.toNat:Int))]=zih (pre++[b]):=by
 simp only [zac,zih,bva,List.length_singleton]
 obtain ⟨m,hm⟩:∃ m, 10 - pre.length=m+1:=⟨9 - pre.length,by omega⟩
 rw [hm,List.take_left' (by simp),List.drop_append]
 simp only [List.length_map]
 rw [List.drop_eq_nil_of_le (by simp),show pre.length+1 - pre.length=1 by omega,List.replicate_succ]
 simp [List.length_append,show 10 - (pre.length+1)=m by omega]
theorem byte_or (m:Nat):IntKind.u8.wrap ↑(BitVec.ofInt IntKind.u8.bits (IntKind.u8.wrap (m:Int)) ||| BitVec.ofInt IntKind.u8.bits 128).toNat=((UInt8.ofNat (m % 128+128)).toNat:Int):=by
 rw [wrap8 m,show IntKind.u8.bits=8 from rfl,or128 ⟨m % 256,by omega⟩,zvf (by simp;omega),zqv (by omega)]
 simp
theorem byte_wrap {m:Nat} (h:m<128):IntKind.u8.wrap (m:Int)=((UInt8.ofNat m).toNat:Int):=by
 rw [zvf (by omega),zqv (by omega)]
theorem shr7 (m:Nat):((m:Int)).fdiv (2 ^ min 7 IntKind.u64.bits)=((m / 128:Nat):Int):=by
 rw [show min 7 IntKind.u64.bits=7 from rfl,Int.fdiv_eq_ediv_of_nonneg _ (by decide)]
 rfl
theorem zrX {pre:List UInt8} (h:pre.length<=10):(zih pre).length=10:=by simp [zih,bva];omega
theorem pad10_sc (pre:List UInt8):(zih pre).all sc=true:=by
 simp only [zih,bva,List.all_append,List.all_map,List.all_replicate,Bool.and_eq_true]
 refine ⟨by simp [sc],?_⟩
 cases 10 - pre.length <;> simp [sc]
theorem pad10_d (pre:List UInt8):zih pre=((pre.map fun b=>D.int .u8 (b.toNat:Int))++List.replicate (10 - pre.length) (D.int .u8 0)).map AV.d:=by
 simp [zih,bva,Function.comp_def]
theorem gq31 {P Q:Prop} (h:Q) (e:P=Q:=by simp -dsimp only [↓zeN, ↓zav, ↓zbq, ↓zeO, ↓zeH, ↓zeF, ↓zeI, ↓zeG, ↓zbv, ↓zbr, ↓zbw, ↓zbs, ↓zeJ, ↓zbp, ↓zbx, ↓zbt, ↓zby, ↓zbu, ↓zeE, ↓zeM, ↓zbo, ↓zbz, ↓zeC, ↓zeB, ↓zeD,iN,bT,bF,eN, ↓zcB, ↓unC, ↓zV, ↓zM, ↓zN, ↓zQ, ↓zY, ↓zal, ↓zdb, ↓zak, ↓zaH, ↓zT, ↓zf, ↓zj, ↓zbZ, ↓zb, ↓zag, ↓zE, ↓zaI, ↓zaO, ↓zc, ↓zy, ↓zl, ↓zG, ↓zaa, ↓zdm, ↓zdw, ↓zaj, ↓zar, ↓zaK, ↓zaS, ↓zaY, ↓zq, ↓zai, ↓zO, ↓zu, ↓zX,zdx,zbg,zbb,unA,zdd,bnd,zdY,zaf,zP,zdR,dm,dm1,zA,zae,zeh,zeg,zI,Q0,Q1,Q2,Q3,Q4,Q5,zZ,zC,zt,zL,zF,Q6,Q7,Q8,Q9,Q10,Q11,Q12,Q13,Q14,Nat.reduceAdd,Q15,Int.reduceToNat,Q16,Q17,Q18,Q19,Q20,reduceIte,Q21,Q22];rfl):P:=e.mpr h
theorem gq32 {A P Q:Prop} (a:A) (h:Q) (e:A->P=Q:=by intro a;simp -dsimp only [↓zeN, ↓zav, ↓zbq, ↓zeO, ↓zeH, ↓zeF, ↓zeI, ↓zeG, ↓zbv, ↓zbr, ↓zbw, ↓zbs, ↓zeJ, ↓zbp, ↓zbx, ↓zbt, ↓zby, ↓zbu, ↓zeE, ↓zeM, ↓zbo, ↓zbz, ↓zeC, ↓zeB, ↓zeD,iN,bT,bF,eN, ↓zcB, ↓unC, ↓zV, ↓zM, ↓zN, ↓zQ, ↓zY, ↓zal, ↓zdb, ↓zak, ↓zaH, ↓zT, ↓zf, ↓zj, ↓zbZ, ↓zb, ↓zag, ↓zE, ↓zaI, ↓zaO, ↓zc, ↓zy, ↓zl, ↓zG, ↓zaa, ↓zdm, ↓zdw, ↓zaj, ↓zar, ↓zaK, ↓zaS, ↓zaY, ↓zq, ↓zai, ↓zO, ↓zu, ↓zX,zdx,zbg,zbb,unA,zdd,bnd,zdY,zaf,zP,zdR,dm,dm1,zA,zae,zeh,zeg,zI,Q0,Q1,Q2,Q3,Q4,Q5,zZ,zC,zt,zL,zF,Q6,Q7,Q8,Q9,Q10,Q11,Q12,Q13,Q14,Nat.reduceAdd,Q15,Int.reduceToNat,Q16,Q17,Q18,Q19,Q20,reduceIte,Q21,Q22,a];rfl):P:=(e a).mpr h
theorem c_form {σ:List zh} {n:Nat} (hn:n<18446744073709551616) {K:KT} (hK:K (.tup [.agg (zih (zcI n)),.d (.int .i64 (zcI n).length)]) σ):zo Tryz.prog zpa [.d (.int .u64 n)] σ K:=by
 refine zd zuD.is rfl fun hl _=>zuD.goes ?_
 simp only [zuT,iN,bT,bF,eN,zT]
 have hlen:=zp hn
 refine zm 10 (fun k vs s => ∃ (m:Nat) (pre:List UInt8),k=pre.length/\vs = [.d (.int .u64 m),.d (.int .i64 k)]/\zcI n=pre++zcI m/\m<18446744073709551616 ∧
   s = σ++[.box (zih []),.box (zih pre)]) ⟨n,[],rfl,rfl,rfl,hn,by simp [zih,bva]⟩ ?_
 rintro k vs s hk ⟨m,pre,rfl,rfl,hpre,hm,rfl⟩
 have hm10:=zp hm
 have hpl:pre.length+(zcI m).length<=10:=by rw [hpre] at hlen;simpa using hlen.2
 have hp:pre.length<10:=by omega
 (refine gq31 ?_;try with_reducible exact True.intro)
 refine zad (fun h => ?_) (fun h => ?_)
 all_goals (try (refine gq32 h ?_;try with_reducible exact True.intro))
 ·have h1:¬ m<128:=by simp at h;omega
  have h2:=zzL h1
  rw [h2] at hpl
  simp at hpl
  rw [byte_or,shr7,zxP hp]
  refine ⟨by omega,by omega,by have:=zrX (pre:=pre) (by omega);omega,by simp [sc],by omega,?_⟩
  refine zaz.next (by omega) ⟨m / 128,pre++[UInt8.ofNat (m % 128+128)],by simp,?_,by rw [hpre,h2];simp,by omega,rfl⟩
  rw [zas (by omega) (by omega)]
  rfl
 ·have h1:m<128:=by simp at h;omega
  have h2:=zqf h1
  rw [byte_wrap h1,zxP hp]
  have hp1:(zih (pre++[UInt8.ofNat m])).length=10:=zrX (by simp;omega)
  have hsp:zac (zih []) 0 (zih (pre++[UInt8.ofNat m]))=zih (pre++[UInt8.ofNat m]):=by
   simp only [zac,Nat.zero_add,List.take_zero,List.nil_append]
   rw [hp1,List.drop_eq_nil_of_le (by simp [zih,bva]),List.append_nil]
  have htk:List.take 10 (List.drop 0 (zih (pre++[UInt8.ofNat m])))=zih (pre++[UInt8.ofNat m]):=by
   rw [List.drop_zero,List.take_of_length_le (by omega)]
  rw [htk,hsp,htk,if_pos (by omega)]
  refine ⟨by omega,by omega,by have:=zrX (pre:=pre) (by omega);omega,by simp [sc],by omega,by omega,by simp [zih,bva],pad10_sc _,?_⟩
  have hd:dmT (zcO [.agg (zih (pre++[UInt8.ofNat m])),.d (.int .i64 (IntKind.i64.wrap (↑pre.length+1)))]) = .tup [.agg (zih (pre++[UInt8.ofNat m])),.d (.int .i64 (zcI n).length)]:=by
   rw [zas (by omega) (by omega),hpre,h2]
   simp only [zcO,dmT,List.map_cons,List.map_nil,dm,pad10_d,map_dm1_d,dm1]
   rw [List.length_append];rfl
  refine ztO ?_ hl ?_
  ·rw [hd,pad10_d,zaU]
   intro c hc
   rcases List.mem_cons.1 hc with rfl | hc
   ·exact .agg _ (zsi _ _)
   ·have hc:=List.mem_singleton.1 hc
    subst hc;exact .d _
  ·rw [hd];rw [hpre,h2] at hK ⊢;exact hK
theorem toDs_bva (bs:List UInt8) (r:List AV) (ds:List D) (h:zel r=some ds):zel (bva bs++r)=some ((bs.map fun b=>D.int .u8 (b.toNat:Int))++ds):=by
 induction bs with
 | nil=>simpa [bva] using h
 | cons b bs ih=>simp only [bva,List.map_cons,List.cons_append,zel,toD] at ih ⊢;rw [ih]
theorem chunks1 (bs:List UInt8):zah 1 bs.length (bs.map fun b=>D.int .u8 (b.toNat:Int))=bcs bs:=by
 induction bs with
 | nil=>rfl
 | cons b bs ih=>simp only [List.length_cons,List.map_cons,zah,bcs,List.take_succ_cons,List.take_zero,List.drop_succ_cons,List.drop_zero] at ih ⊢;rw [ih];rfl
theorem zfr {σ:List zh} {b:List UInt8} {n:Nat} (hn:n<18446744073709551616) (hb:b.length<=1073741824) {K:KT} (hK:K (.own σ.length (bcs (b++zcI n))) (σ++[.tok 1 (b++zcI n).length])) :
  zo Tryz.prog zbE [.d (.slice (bcs b)),.d (.int .u64 n)] σ K:=by
 refine zce zqR.is rfl (fun s => [σ.length+1]) fun hl _=>zqR.goes ?_
 have hlen:=zp hn
 simp only [zre,iN,bT,bF,eN,gF,gT,gFm,gTm,fl,nfl,gFl,gTl,il,cp,orC,anC,cA,bP,z1,z2,m1,List.map_cons,List.map_nil]
 simp only [dm,dm1]
 refine c_form hn ?_
 have hp:=zrX hlen.2
 have hsp:zac (List.replicate 10 (AV.d (D.int .u8 0))) 0 (zih (zcI n))=zih (zcI n):=by
  simp only [zac,Nat.zero_add,List.take_zero,List.nil_append]
  rw [hp,List.drop_eq_nil_of_le (by simp),List.append_nil]
 have hrep : [AV.d (D.int .u8 0),.d (.int .u8 0),.d (.int .u8 0),.d (.int .u8 0),.d (.int .u8 0),.d (.int .u8 0),.d (.int .u8 0),.d (.int .u8 0),.d (.int .u8 0),.d (.int .u8 0)]=List.replicate 10 (AV.d (D.int .u8 0)):=rfl
 (refine gq31 ?_;try with_reducible exact True.intro)
 refine ⟨hp,by omega,pad10_sc _,by omega,by omega,by omega,by omega,?_⟩
 refine zAg zgs ?_
 rw [hrep,hsp]
 (refine gq31 ?_;try with_reducible exact True.intro)
 have htk:zel (List.take ((zcI n).length - Int.toNat 0) (List.drop (Int.toNat 0) (zih (zcI n))))=some ((zcI n).map fun b=>D.int .u8 (b.toNat:Int)):=by
  simp only [Int.toNat_zero,Nat.sub_zero,List.drop_zero]
  rw [zih,List.take_left' (by simp [bva])]
  have:=toDs_bva (zcI n) [] [] rfl
  simpa using this
 simp only [Int.toNat_zero] at htk
 rw [htk,if_pos (by omega),Nat.sub_zero]
 simp only [Option.map_some,chunks1]
 refine ⟨zgs,zgs,by simp [bcs];omega,?_⟩
 rw [ztX]
 refine zpg rfl hl (by omega) (by rw [zC];rfl) ?_
 simpa [bcs] using hK
theorem gq33 {P Q:Prop} (h:Q) (e:P=Q:=by simp -dsimp only [↓zeN, ↓zav, ↓zbq, ↓zeO, ↓zeH, ↓zeF, ↓zeI, ↓zeG, ↓zbv, ↓zbr, ↓zbw, ↓zbs, ↓zeJ, ↓zbp, ↓zbx, ↓zbt, ↓zby, ↓zbu, ↓zeE, ↓zeM, ↓zbo, ↓zbz, ↓zeC, ↓zeB, ↓zeD,iN,bT,bF,eN, ↓zcB, ↓unC, ↓zV, ↓zM, ↓zN, ↓zQ, ↓zY, ↓zal, ↓zdb, ↓zak, ↓zaH, ↓zT, ↓zf, ↓zj, ↓zbZ, ↓zb, ↓zag, ↓zE, ↓zaI, ↓zaO, ↓zc, ↓zy, ↓zl, ↓zG, ↓zaa, ↓zdm, ↓zdw, ↓zaj, ↓zar, ↓zaK, ↓zaS, ↓zaY, ↓zq, ↓zai, ↓zO, ↓zu, ↓zX,zdx,zbg,zbb,unA,zdd,bnd,zdY,zaf,zP,zdR,dm,dm1,zA,zae,zeh,zeg,zI,Q0,Q1,Q2,Q3,Q4,Q5,zZ,zC,zt,zL,zF,Q6,Q7,Q8,Q9,Q10,Q11,Q12,Q13,Q14,Nat.reduceAdd,Q15,Int.reduceToNat,Q16,Q17,Q18,Q19,Q20,reduceIte,Q21,Q22,zol];rfl):P:=e.mpr h
theorem zqu {σ:List zh} {b x:List UInt8} (hx:x.length<=1073741824) (hb:b.length<=1073741800) {K:KT} (hK:K (.own σ.length (bcs (b++(zcI x.length++x)))) (σ++[.tok 1 (b++(zcI x.length++x)).length])) :
  zo Tryz.prog zej [.d (.slice (bcs b)),.d (.slice (bcs x))] σ K:=by
 refine zce znP.is rfl (fun s => [σ.length]) fun hl _=>znP.goes ?_
 have hlen:=zp (n:=x.length) (by omega)
 (refine gq33 ?_;try with_reducible exact True.intro)
 have hw:IntKind.u64.wrap ((bcs x).length:Int)=(x.length:Int):=by rw [zdq (by simp [bcs];omega)];simp [bcs]
 rw [hw]
 refine zfr (by omega) (by omega) ?_
 (refine gq31 ?_;try with_reducible exact True.intro)
 refine ⟨zgs,by simp [bcs];omega,by simp [bcs],?_⟩
 rw [ztX]
 simp only [List.append_assoc]
 refine zmp hl rfl ?_
 simpa [bcs,Nat.add_assoc] using hK
theorem div128 {m:Nat} (h:m<18446744073709551616):IntKind.u64.wrap ((m:Int).tdiv 128)=((m / 128:Nat):Int):=by
 rw [show ((m:Int).tdiv 128)=((m / 128:Nat):Int) from by rw [Int.tdiv_eq_ediv_of_nonneg (by omega)];rfl,zdq (by omega)]
theorem rem128 (m:Nat):(m:Int).tmod 128=((m % 128:Nat):Int):=by
 rw [Int.tmod_eq_emod_of_nonneg (by omega)];rfl
theorem gq34 {P Q:Prop} (h:Q) (e:P=Q:=by simp -dsimp only [↓zeN, ↓zav, ↓zbq, ↓zeO, ↓zeH, ↓zeF, ↓zeI, ↓zeG, ↓zbv, ↓zbr, ↓zbw, ↓zbs, ↓zeJ, ↓zbp, ↓zbx, ↓zbt, ↓zby, ↓zbu, ↓zeE, ↓zeM, ↓zbo, ↓zbz, ↓zeC, ↓zeB, ↓zeD,iN,bT,bF,eN, ↓zcB, ↓unC, ↓zV, ↓zM, ↓zN, ↓zQ, ↓zY, ↓zal, ↓zdb, ↓zak, ↓zaH, ↓zT, ↓zf, ↓zj, ↓zbZ, ↓zb, ↓zag, ↓zE, ↓zaI, ↓zaO, ↓zc, ↓zy, ↓zl, ↓zG, ↓zaa, ↓zdm, ↓zdw, ↓zaj, ↓zar, ↓zaK, ↓zaS, ↓zaY, ↓zq, ↓zai, ↓zO, ↓zu, ↓zX,zdx,zbg,zbb,unA,zdd,bnd,zdY,zaf,zP,zdR,dm,dm1,zA,zae,zeh,zeg,zI,Q0,Q1,Q2,Q3,Q4,Q5,zZ,zC,zt,zL,zF,Q6,Q7,Q8,Q9,Q10,Q11,Q12,Q13,Q14,Nat.reduceAdd,Q15,Int.reduceToNat,Q16,Q17,Q18,Q19,Q20,reduceIte,Q21,Q22,zuP];rfl):P:=e.mpr h
theorem gq35 {P Q:Prop} (h:Q) (e:P=Q:=by simp -dsimp only [↓zeN, ↓zav, ↓zbq, ↓zeO, ↓zeH, ↓zeF, ↓zeI, ↓zeG, ↓zbv, ↓zbr, ↓zbw, ↓zbs, ↓zeJ, ↓zbp, ↓zbx, ↓zbt, ↓zby, ↓zbu, ↓zeE, ↓zeM, ↓zbo, ↓zbz, ↓zeC, ↓zeB, ↓zeD,iN,bT,bF,eN, ↓zcB, ↓unC, ↓zV, ↓zM, ↓zN, ↓zQ, ↓zY, ↓zal, ↓zdb, ↓zak, ↓zaH, ↓zT, ↓zf, ↓zj, ↓zbZ, ↓zb, ↓zag, ↓zE, ↓zaI, ↓zaO, ↓zc, ↓zy, ↓zl, ↓zG, ↓zaa, ↓zdm, ↓zdw, ↓zaj, ↓zar, ↓zaK, ↓zaS, ↓zaY, ↓zq, ↓zai, ↓zO, ↓zu, ↓zX,zdx,zbg,zbb,unA,zdd,bnd,zdY,zaf,zP,zdR,dm,dm1,zA,zae,zeh,zeg,zI,Q0,Q1,Q2,Q3,Q4,Q5,zZ,zC,zt,zL,zF,Q6,Q7,Q8,Q9,Q10,Q11,Q12,Q13,Q14,Nat.reduceAdd,Q15,Int.reduceToNat,Q16,Q17,Q18,Q19,Q20,reduceIte,Q21,Q22,rep,zac,zel,toD,zah,Q23,Q24,Q25,Q26,Q27,Q28,Nat.reduceLeDiff,Q29,Nat.reduceSub,Q30,Q31,Q32,sc,Q33,Q34,Q35];rfl):P:=e.mpr h
theorem zgd {σ:List zh} {b:List UInt8} {n:Nat} (hn:n<18446744073709551616) (hb:b.length<=1073741824) {K:KT} (hK:K (.own σ.length (bcs (b++zcI n))) (σ++[.tok 1 (b++zcI n).length])) :
  zo Tryz.prog zcw [.d (.slice (bcs b)),.d (.int .u64 n)] σ K:=by
 refine zce zuz.is rfl (fun s => [σ.length]) fun hl _=>zuz.goes ?_
 have hlen:=zp hn
 (refine gq34 ?_;try with_reducible exact True.intro)
 refine ⟨zgs,by simp,by simp [bcs];omega,?_⟩
 refine zm 10 (fun k vs s => ∃ (m:Nat) (pre:List UInt8),k=pre.length/\vs = [.d (.int .u64 m),.own σ.length (bcs (b++pre))]/\zcI n=pre++zcI m/\m<18446744073709551616 ∧
   s = σ++[.tok 1 (b++pre).length]) ⟨n,[],rfl,by simp,rfl,hn,by simp [bcs]⟩ ?_
 rintro k vs s hk ⟨m,pre,rfl,rfl,hpre,hm,rfl⟩
 have hm10:=zp hm
 have hpl:pre.length+(zcI m).length<=10:=by rw [hpre] at hlen;simpa using hlen.2
 (refine gq31 ?_;try with_reducible exact True.intro)
 refine zad (fun h => ?_) (fun h => ?_)
 all_goals (try (refine gq32 h ?_;try with_reducible exact True.intro))
 ·have h1:¬ m<128:=by simp at h;omega
  have h2:=zzL h1
  rw [h2] at hpl
  simp at hpl
  have hc:IntKind.u8.wrap (IntKind.u8.wrap ((m:Int).tmod 128)+128)=((UInt8.ofNat (m % 128+128)).toNat:Int):=by
   rw [rem128,zvf (by omega),zqv (by omega),show ((m % 128:Nat):Int)+128=((m % 128+128:Nat):Int) from rfl]
   exact zvf (by omega)
  (refine gq35 ?_;try with_reducible exact True.intro)
  rw [hc,div128 hm]
  refine ⟨by decide,by simp,by simp [bcs];omega,by simp [bcs],by decide,?_⟩
  refine zaz.next (by omega) ⟨m / 128,pre++[UInt8.ofNat (m % 128+128)],by simp,?_,by rw [hpre,h2];simp,by omega,?_⟩
  ·simp [bcs,zcQ]
  ·simp [bcs,Nat.add_assoc]
 ·have h1:m<128:=by simp at h;omega
  have h2:=zqf h1
  (refine gq35 ?_;try with_reducible exact True.intro)
  rw [byte_wrap h1]
  refine ⟨by simp,by simp [bcs];omega,by simp [bcs],?_⟩
  rw [hpre,h2] at hK
  have e:bcs (b++pre)++[[D.int .u8 ((UInt8.ofNat m).toNat:Int)]]=bcs (b++(pre++[UInt8.ofNat m])):=by simp [bcs,zcQ]
  rw [e]
  refine zmp hl rfl ?_
  simpa [bcs,Nat.add_assoc] using hK
theorem gq36 {P Q:Prop} (h:Q) (e:P=Q:=by simp -dsimp only [↓zeN, ↓zav, ↓zbq, ↓zeO, ↓zeH, ↓zeF, ↓zeI, ↓zeG, ↓zbv, ↓zbr, ↓zbw, ↓zbs, ↓zeJ, ↓zbp, ↓zbx, ↓zbt, ↓zby, ↓zbu, ↓zeE, ↓zeM, ↓zbo, ↓zbz, ↓zeC, ↓zeB, ↓zeD,iN,bT,bF,eN, ↓zcB, ↓unC, ↓zV, ↓zM, ↓zN, ↓zQ, ↓zY, ↓zal, ↓zdb, ↓zak, ↓zaH, ↓zT, ↓zf, ↓zj, ↓zbZ, ↓zb, ↓zag, ↓zE, ↓zaI, ↓zaO, ↓zc, ↓zy, ↓zl, ↓zG, ↓zaa, ↓zdm, ↓zdw, ↓zaj, ↓zar, ↓zaK, ↓zaS, ↓zaY, ↓zq, ↓zai, ↓zO, ↓zu, ↓zX,zdx,zbg,zbb,unA,zdd,bnd,zdY,zaf,zP,zdR,dm,dm1,zA,zae,zeh,zeg,zI,Q0,Q1,Q2,Q3,Q4,Q5,zZ,zC,zt,zL,zF,Q6,Q7,Q8,Q9,Q10,Q11,Q12,Q13,Q14,Nat.reduceAdd,Q15,Int.reduceToNat,Q16,Q17,Q18,Q19,Q20,reduceIte,Q21,Q22,zqY];rfl):P:=e.mpr h
theorem zrE {σ:List zh} {b x:List UInt8} (hx:x.length<=1073741824) (hb:b.length<=1073741800) {K:KT} (hK:K (.own σ.length (bcs (b++(zcI x.length++x)))) (σ++[.tok 1 (b++(zcI x.length++x)).length])) :
  zo Tryz.prog zdE [.d (.slice (bcs b)),.d (.slice (bcs x))] σ K:=by
 refine zce zqL.is rfl (fun s => [σ.length]) fun hl _=>zqL.goes ?_
 have hlen:=zp (n:=x.length) (by omega)
 (refine gq36 ?_;try with_reducible exact True.intro)
 have hw:IntKind.u64.wrap ((bcs x).length:Int)=(x.length:Int):=by rw [zdq (by simp [bcs];omega)];simp [bcs]
 rw [hw]
 refine zgd (by omega) (by omega) ?_
 (refine gq31 ?_;try with_reducible exact True.intro)
 refine ⟨zgs,by simp [bcs];omega,by simp [bcs],?_⟩
 rw [ztX]
 simp only [List.append_assoc]
 refine zmp hl rfl ?_
 simpa [bcs,Nat.add_assoc] using hK
end Go.Proofs.YtpgahkdjkanblaaGreat

/- Contracts of operations: which are the same. -/
set_option maxRecDepth 100000
namespace Go.Proofs.YtpgahkdjkanblaaGreat
open Go.AW
theorem zyk {P Q:Prop} (h:Q) (e:P=Q:=by simp -dsimp only [↓zeN, ↓zav, ↓zbq, ↓zeO, ↓zeH, ↓zeF, ↓zeI, ↓zeG, ↓zbv, ↓zbr, ↓zbw, ↓zbs, ↓zeJ, ↓zbp, ↓zbx, ↓zbt, ↓zby, ↓zbu, ↓zeE, ↓zeM, ↓zbo, ↓zbz, ↓zeC, ↓zeB, ↓zeD,iN,bT,bF,eN, ↓zcB, ↓unC, ↓zV, ↓zM, ↓zN, ↓zQ, ↓zY, ↓zal, ↓zdb, ↓zak, ↓zaH, ↓zT, ↓zf, ↓zj, ↓zbZ, ↓zb, ↓zag, ↓zE, ↓zaI, ↓zaO, ↓zc, ↓zy, ↓zl, ↓zG, ↓zaa, ↓zdm, ↓zdw, ↓zaj, ↓zar, ↓zaK, ↓zaS, ↓zaY, ↓zq, ↓zai, ↓zO, ↓zu, ↓zX,zdx,zbg,zbb,unA,zdd,bnd,zdY,zaf,zP,zdR,dm,dm1,zA,zae,zeh,zeg,zI,Q0,Q1,Q2,Q3,Q4,Q5,zZ,zC,zt,zL,zF,Q6,Q7,Q8,Q9,Q10,Q11,Q12,Q13,Q14,Nat.reduceAdd,Q15,Int.reduceToNat,Q16,Q17,Q18,Q19,Q20,reduceIte,Q21,Q22,zH,rep,zac,zel,toD,zah,Q23,Q24,Q25,Q26,Q27,Q28,Nat.reduceLeDiff,Q29,Nat.reduceSub,Q30,Q31,Q32,sc,Q33,Q34,Q35];rfl):P:=e.mpr h
theorem c_only {σ:List zh} {o:TOp} {K:KT} (hK:K (.tup [opA (zoP o),.d (.bool (zix o))]) σ):zo Tryz.prog zvJ [opA o] σ K:=by
 refine zd e_op_only.is rfl fun hl _=>e_op_only.goes ?_
 simp only [S_op_only,iN,bT,bF,eN,opA]
 (repeat' (first | (refine zyk ?_;try with_reducible exact True.intro) | (refine zad (fun h => ?_) (fun h => ?_) <;> (try rw [h])) | ((with_reducible refine And.intro ?_ ?_);focus (first | omega | rfl | decide))))
 all_goals refine zw hl ?_
 all_goals simp only [beq_iff_eq,beq_eq_false_iff_ne,ne_eq] at *
 all_goals simp_all [zcO,dmT,dm,dm1,zoP,noOp,opA,zix,zgp]
 have e:(decide (0<=o.kind) && decide (o.kind<=4))=false:=by simp;omega
 rw [e] at hK
 exact hK
theorem gq38 {P Q:Prop} (h:Q) (e:P=Q:=by simp -dsimp only [↓zeN, ↓zav, ↓zbq, ↓zeO, ↓zeH, ↓zeF, ↓zeI, ↓zeG, ↓zbv, ↓zbr, ↓zbw, ↓zbs, ↓zeJ, ↓zbp, ↓zbx, ↓zbt, ↓zby, ↓zbu, ↓zeE, ↓zeM, ↓zbo, ↓zbz, ↓zeC, ↓zeB, ↓zeD,iN,bT,bF,eN, ↓zcB, ↓unC, ↓zV, ↓zM, ↓zN, ↓zQ, ↓zY, ↓zal, ↓zdb, ↓zak, ↓zaH, ↓zT, ↓zf, ↓zj, ↓zbZ, ↓zb, ↓zag, ↓zE, ↓zaI, ↓zaO, ↓zc, ↓zy, ↓zl, ↓zG, ↓zaa, ↓zdm, ↓zdw, ↓zaj, ↓zar, ↓zaK, ↓zaS, ↓zaY, ↓zq, ↓zai, ↓zO, ↓zu, ↓zX,zdx,zbg,zbb,unA,zdd,bnd,zdY,zaf,zP,zdR,dm,dm1,zA,zae,zeh,zeg,zI,Q0,Q1,Q2,Q3,Q4,Q5,zZ,zC,zt,zL,zF,Q6,Q7,Q8,Q9,Q10,Q11,Q12,Q13,Q14,Nat.reduceAdd,Q15,Int.reduceToNat,Q16,Q17,Q18,Q19,Q20,reduceIte,Q21,Q22,zxl,zH];rfl):P:=e.mpr h
theorem c_Same_1 {σ:List zh} {a b:List UInt8} {K:KT} (hK:K (.d (.bool (a == b))) σ):zo Tryz.prog znb [.d (.slice (bcs a)),.d (.slice (bcs b))] σ K:=by
 refine zd zwt.is rfl fun hl _=>zwt.goes ?_
 (refine gq38 ?_;try with_reducible exact True.intro)
 refine znr ?_
 refine zw hl ?_
 exact hK
theorem gqc3 {A B:Prop} (a:A) (b:B):A/\B:=⟨a,b⟩
theorem gq39 {P Q:Prop} (h:Q) (e:P=Q:=by simp -dsimp only [↓zeN, ↓zav, ↓zbq, ↓zeO, ↓zeH, ↓zeF, ↓zeI, ↓zeG, ↓zbv, ↓zbr, ↓zbw, ↓zbs, ↓zeJ, ↓zbp, ↓zbx, ↓zbt, ↓zby, ↓zbu, ↓zeE, ↓zeM, ↓zbo, ↓zbz, ↓zeC, ↓zeB, ↓zeD,iN,bT,bF,eN, ↓zcB, ↓unC, ↓zV, ↓zM, ↓zN, ↓zQ, ↓zY, ↓zal, ↓zdb, ↓zak, ↓zaH, ↓zT, ↓zf, ↓zj, ↓zbZ, ↓zb, ↓zag, ↓zE, ↓zaI, ↓zaO, ↓zc, ↓zy, ↓zl, ↓zG, ↓zaa, ↓zdm, ↓zdw, ↓zaj, ↓zar, ↓zaK, ↓zaS, ↓zaY, ↓zq, ↓zai, ↓zO, ↓zu, ↓zX,zdx,zbg,zbb,unA,zdd,bnd,zdY,zaf,zP,zdR,dm,dm1,zA,zae,zeh,zeg,zI,Q0,Q1,Q2,Q3,Q4,Q5,zZ,zC,zt,zL,zF,Q6,Q7,Q8,Q9,Q10,Q11,Q12,Q13,Q14,Nat.reduceAdd,Q15,Int.reduceToNat,Q16,Q17,Q18,Q19,Q20,reduceIte,Q21,Q22,zbk,zH];rfl):P:=e.mpr h
theorem gq40 {A P Q:Prop} (a:A) (h:Q) (e:A->P=Q:=by intro a;simp -dsimp only [↓zeN, ↓zav, ↓zbq, ↓zeO, ↓zeH, ↓zeF, ↓zeI, ↓zeG, ↓zbv, ↓zbr, ↓zbw, ↓zbs, ↓zeJ, ↓zbp, ↓zbx, ↓zbt, ↓zby, ↓zbu, ↓zeE, ↓zeM, ↓zbo, ↓zbz, ↓zeC, ↓zeB, ↓zeD,iN,bT,bF,eN, ↓zcB, ↓unC, ↓zV, ↓zM, ↓zN, ↓zQ, ↓zY, ↓zal, ↓zdb, ↓zak, ↓zaH, ↓zT, ↓zf, ↓zj, ↓zbZ, ↓zb, ↓zag, ↓zE, ↓zaI, ↓zaO, ↓zc, ↓zy, ↓zl, ↓zG, ↓zaa, ↓zdm, ↓zdw, ↓zaj, ↓zar, ↓zaK, ↓zaS, ↓zaY, ↓zq, ↓zai, ↓zO, ↓zu, ↓zX,zdx,zbg,zbb,unA,zdd,bnd,zdY,zaf,zP,zdR,dm,dm1,zA,zae,zeh,zeg,zI,Q0,Q1,Q2,Q3,Q4,Q5,zZ,zC,zt,zL,zF,Q6,Q7,Q8,Q9,Q10,Q11,Q12,Q13,Q14,Nat.reduceAdd,Q15,Int.reduceToNat,Q16,Q17,Q18,Q19,Q20,reduceIte,Q21,Q22,zH,a];rfl):P:=(e a).mpr h
theorem gq41 {P Q:Prop} (h:Q) (e:P=Q:=by simp -dsimp only [↓zeN, ↓zav, ↓zbq, ↓zeO, ↓zeH, ↓zeF, ↓zeI, ↓zeG, ↓zbv, ↓zbr, ↓zbw, ↓zbs, ↓zeJ, ↓zbp, ↓zbx, ↓zbt, ↓zby, ↓zbu, ↓zeE, ↓zeM, ↓zbo, ↓zbz, ↓zeC, ↓zeB, ↓zeD,iN,bT,bF,eN, ↓zcB, ↓unC, ↓zV, ↓zM, ↓zN, ↓zQ, ↓zY, ↓zal, ↓zdb, ↓zak, ↓zaH, ↓zT, ↓zf, ↓zj, ↓zbZ, ↓zb, ↓zag, ↓zE, ↓zaI, ↓zaO, ↓zc, ↓zy, ↓zl, ↓zG, ↓zaa, ↓zdm, ↓zdw, ↓zaj, ↓zar, ↓zaK, ↓zaS, ↓zaY, ↓zq, ↓zai, ↓zO, ↓zu, ↓zX,zdx,zbg,zbb,unA,zdd,bnd,zdY,zaf,zP,zdR,dm,dm1,zA,zae,zeh,zeg,zI,Q0,Q1,Q2,Q3,Q4,Q5,zZ,zC,zt,zL,zF,Q6,Q7,Q8,Q9,Q10,Q11,Q12,Q13,Q14,Nat.reduceAdd,Q15,Int.reduceToNat,Q16,Q17,Q18,Q19,Q20,reduceIte,Q21,Q22,zH];rfl):P:=e.mpr h
theorem gq42 {A P Q:Prop} (a:A) (h:Q) (e:A->P=Q:=by intro a;simp -dsimp only [↓zeN, ↓zav, ↓zbq, ↓zeO, ↓zeH, ↓zeF, ↓zeI, ↓zeG, ↓zbv, ↓zbr, ↓zbw, ↓zbs, ↓zeJ, ↓zbp, ↓zbx, ↓zbt, ↓zby, ↓zbu, ↓zeE, ↓zeM, ↓zbo, ↓zbz, ↓zeC, ↓zeB, ↓zeD,iN,bT,bF,eN, ↓zcB, ↓unC, ↓zV, ↓zM, ↓zN, ↓zQ, ↓zY, ↓zal, ↓zdb, ↓zak, ↓zaH, ↓zT, ↓zf, ↓zj, ↓zbZ, ↓zb, ↓zag, ↓zE, ↓zaI, ↓zaO, ↓zc, ↓zy, ↓zl, ↓zG, ↓zaa, ↓zdm, ↓zdw, ↓zaj, ↓zar, ↓zaK, ↓zaS, ↓zaY, ↓zq, ↓zai, ↓zO, ↓zu, ↓zX,zdx,zbg,zbb,unA,zdd,bnd,zdY,zaf,zP,zdR,dm,dm1,zA,zae,zeh,zeg,zI,Q0,Q1,Q2,Q3,Q4,Q5,zZ,zC,zt,zL,zF,Q6,Q7,Q8,Q9,Q10,Q11,Q12,Q13,Q14,Nat.reduceAdd,Q15,Int.reduceToNat,Q16,Q17,Q18,Q19,Q20,reduceIte,Q21,Q22,Int.toNat_natCast,zH,a];rfl):P:=(e a).mpr h
theorem gq43 {P Q:Prop} (h:Q) (e:P=Q:=by simp -dsimp only [↓zeN, ↓zav, ↓zbq, ↓zeO, ↓zeH, ↓zeF, ↓zeI, ↓zeG, ↓zbv, ↓zbr, ↓zbw, ↓zbs, ↓zeJ, ↓zbp, ↓zbx, ↓zbt, ↓zby, ↓zbu, ↓zeE, ↓zeM, ↓zbo, ↓zbz, ↓zeC, ↓zeB, ↓zeD,iN,bT,bF,eN, ↓zcB, ↓unC, ↓zV, ↓zM, ↓zN, ↓zQ, ↓zY, ↓zal, ↓zdb, ↓zak, ↓zaH, ↓zT, ↓zf, ↓zj, ↓zbZ, ↓zb, ↓zag, ↓zE, ↓zaI, ↓zaO, ↓zc, ↓zy, ↓zl, ↓zG, ↓zaa, ↓zdm, ↓zdw, ↓zaj, ↓zar, ↓zaK, ↓zaS, ↓zaY, ↓zq, ↓zai, ↓zO, ↓zu, ↓zX,zdx,zbg,zbb,unA,zdd,bnd,zdY,zaf,zP,zdR,dm,dm1,zA,zae,zeh,zeg,zI,Q0,Q1,Q2,Q3,Q4,Q5,zZ,zC,zt,zL,zF,Q6,Q7,Q8,Q9,Q10,Q11,Q12,Q13,Q14,Nat.reduceAdd,Q15,Int.reduceToNat,Q16,Q17,Q18,Q19,Q20,reduceIte,Q21,Q22,zX,zH];rfl):P:=e.mpr h
theorem zsL {σ:List zh} {a b:List (List UInt8)} (ha:a.length<=1073741824) (hb:b.length<=1073741824) {K:KT} (hK:K (.d (.bool (a == b))) σ) :
  zo Tryz.prog zaB [.d (.slice (zgp a)),.d (.slice (zgp b)),.fn (.func znb) [] []] σ K:=by
 refine zd zbh.is rfl fun hl _=>zbh.goes ?_
 (refine gq39 ?_;try with_reducible exact True.intro)
 refine zad (fun h => ?_) (fun h => ?_)
 all_goals (try (refine gq40 h ?_;try with_reducible exact True.intro))
 ·refine zw hl ?_
  have:(a == b)=false:=by
   rw [beq_eq_false_iff_ne]
   rintro rfl
   simp at h
  rw [this] at hK;exact hK
 have hl2:a.length=b.length:=by simp at h;omega
 refine zm a.length (fun k vs s=>vs = [.d (.int .i64 k)]/\s = σ/\a.take k=b.take k) ⟨rfl,rfl,by simp⟩ ?_
 rintro k vs s hk ⟨rfl,rfl,htk⟩
 (refine gq41 ?_;try with_reducible exact True.intro)
 refine zad (fun h => ?_) (fun h => ?_)
 all_goals (try (refine gq40 h ?_;try with_reducible exact True.intro))
 ·have hka:k<a.length:=by simp at h;omega
  have hx:a[k]? = some a[k]:=by simp [hka]
  have hy:b[k]? = some (b[k]'(by omega)):=List.getElem?_eq_getElem _
  (refine gq42 (gqc3 (zgt hx) (zgt hy)) ?_;try with_reducible exact True.intro)
  refine ⟨by omega,by omega,c_Same_1 ?_⟩
  (refine gq43 ?_;try with_reducible exact True.intro)
  refine zad (fun h => ?_) (fun h => ?_)
  all_goals (try (refine gq40 h ?_;try with_reducible exact True.intro))
  ·refine zaz.next hka ⟨?_,rfl,zbM hx hy htk (by simpa using h)⟩
   rw [zas (by omega) (by omega)];rfl
  ·refine zw hl ?_
   have:(a == b)=false:=by
    rw [beq_eq_false_iff_ne]
    rintro rfl
    simp at h
   rw [this] at hK;exact hK
 ·refine zw hl ?_
  have:(a == b)=true:=by
   rw [beq_iff_eq]
   exact zcH hl2 (k:=k) (by simp at h;omega) htk
  rw [this] at hK;exact hK
theorem c_Same {σ:List zh} {a b:TOp} (ha:a.recs.length<=1073741824) (hb:b.recs.length<=1073741824) {K:KT} (hK:K (.d (.bool (decide (a=b)))) σ):zo Tryz.prog zsc [opA a,opA b] σ K:=by
 refine zd e_op_Same.is rfl fun hl _=>e_op_Same.goes ?_
 simp only [S_op_Same,iN,bT,bF,eN,opA]
 repeat' first
  | (refine zyk ?_;try with_reducible exact True.intro)
  | (refine zad (fun h => ?_) (fun h => ?_) <;> (try rw [h]))
  | refine zsL ha hb ?_
 all_goals refine zw hl ?_
 all_goals simp only [beq_iff_eq,beq_eq_false_iff_ne,ne_eq] at *
 ·have e:decide (a=b)=(a.recs == b.recs):=by
   rw [Bool.eq_iff_iff]
   cases a;cases b
   simp_all
  rw [e] at hK;exact hK
 all_goals
  have e:decide (a=b)=false:=by
   cases a;cases b
   simp_all
  rw [e] at hK;exact hK
end Go.Proofs.YtpgahkdjkanblaaGreat

/- Contracts: runes and names. -/
set_option maxRecDepth 100000
namespace Go.Proofs.YtpgahkdjkanblaaGreat
open Go.AW
theorem c_Runes {σ:List zh} {s:List UInt8} (hs:s.length<=1073741824) {K:KT} (hK:K (.d (.int .i64 (ziL s))) σ):zo Tryz.prog ztz [.d (.str s)] σ K:=by
 refine zd zyG.is rfl fun hl _=>zyG.goes ?_
 simp only [zzs,iN,bT,bF,eN,zai]
 refine zm s.length (fun pos vs s' => ∃ cnt:Nat,vs = [.d (.int .i64 cnt)]/\s' = σ++[.iter s pos]/\pos<=s.length/\cnt<=pos/\zfz (s.length+1) s=(zfz (s.length+1) (s.drop pos)).map (· + cnt)) ⟨0,rfl,rfl,by omega,by omega,by simp⟩ ?_
 rintro pos vs s' hp ⟨cnt,rfl,rfl,hps,hc,hr⟩
 simp only [zq,zrZ,zt,List.getElem?_cons_zero]
 split
 ·rename_i hlt
  have hd:s.drop pos ≠ []:=by intro e;have:=congrArg List.length e;simp at this;omega
  have hw:=goDec_width _ hd
  have hw2:=zmy (s.drop pos)
  simp only [decode_eq s pos hlt]
  have hcount:zfz (s.length+1) (s.drop pos)=if (zlZ (s.drop pos)).2=0 ∨ badF (zlZ (s.drop pos)).1=true then none else (zfz s.length ((s.drop pos).drop (zlZ (s.drop pos)).2)).map (· + 1):=by
   rw [zfz,if_neg hd]
  (repeat' (first | (refine zyk ?_;try with_reducible exact True.intro) | (refine zad (fun h => ?_) (fun h => ?_) <;> (try rw [h])) | ((with_reducible refine And.intro ?_ ?_);focus (first | omega | rfl | decide))))
  all_goals first
   | (
    refine zw hl ?_
    have hb:badF (zsk (s.drop pos)).1=true:=by
     simp only [badF]
     (try simp only [decide_eq_true_eq,decide_eq_false_iff_not,beq_iff_eq,beq_eq_false_iff_ne,bne_iff_ne,ne_eq,Bool.not_eq_true',Bool.not_eq_false',bne_eq_false_iff_eq] at *)
     omega
    rw [goDec_bad] at hb
    have:zfz (s.length+1) (s.drop pos)=none:=by rw [hcount,if_pos (by simpa using hb)]
    have h0:ziL s=0:=by simp [ziL,hr,this]
    rw [h0] at hK;exact hK)
   | skip
  all_goals
   have hb:badF (zsk (s.drop pos)).1=false:=by
    simp only [badF]
    (try simp only [decide_eq_true_eq,decide_eq_false_iff_not,beq_iff_eq,beq_eq_false_iff_ne,bne_iff_ne,ne_eq,Bool.not_eq_true',Bool.not_eq_false',bne_eq_false_iff_eq] at *)
    omega
   obtain ⟨g1,g2,g3⟩:=goDec_good hb
   rw [zas (by omega) (by omega)]
   refine zaz.to (pos+(zsk (s.drop pos)).2) (by omega) (by simp at hw;omega) ⟨cnt+1,rfl,rfl,by simp at hw;omega,by omega,?_⟩
   rw [hr,hcount,if_neg (by simp [g2,g3]),g1,List.drop_drop,zrz s.length (s.length+1) _ (by simp at *;omega) (by simp;omega)]
   cases zfz (s.length+1) (List.drop (pos+(zlZ (s.drop pos)).2) s) <;> simp
   omega
 ·rename_i hlt
  have e:s.drop pos = []:=List.drop_eq_nil_of_le (by omega)
  have hcnt:zfz (s.length+1) s=some cnt:=by rw [hr,e];simp [zfz]
  (refine gq41 ?_;try with_reducible exact True.intro)
  refine zad (fun h => ?_) (fun h => ?_)
  all_goals (try (refine gq40 h ?_;try with_reducible exact True.intro))
  ·refine zw hl ?_
   have h0:ziL s=0:=by simp [ziL,hcnt];simp at h;omega
   rw [h0] at hK;exact hK
  ·refine zw hl ?_
   have h0:ziL s=cnt:=by simp [ziL,hcnt];simp at h;omega
   rw [h0] at hK;exact hK
theorem gq44 {P Q:Prop} (h:Q) (e:P=Q:=by simp -dsimp only [↓zeN, ↓zav, ↓zbq, ↓zeO, ↓zeH, ↓zeF, ↓zeI, ↓zeG, ↓zbv, ↓zbr, ↓zbw, ↓zbs, ↓zeJ, ↓zbp, ↓zbx, ↓zbt, ↓zby, ↓zbu, ↓zeE, ↓zeM, ↓zbo, ↓zbz, ↓zeC, ↓zeB, ↓zeD,iN,bT,bF,eN, ↓zcB, ↓unC, ↓zV, ↓zM, ↓zN, ↓zQ, ↓zY, ↓zal, ↓zdb, ↓zak, ↓zaH, ↓zT, ↓zf, ↓zj, ↓zbZ, ↓zb, ↓zag, ↓zE, ↓zaI, ↓zaO, ↓zc, ↓zy, ↓zl, ↓zG, ↓zaa, ↓zdm, ↓zdw, ↓zaj, ↓zar, ↓zaK, ↓zaS, ↓zaY, ↓zq, ↓zai, ↓zO, ↓zu, ↓zX,zdx,zbg,zbb,unA,zdd,bnd,zdY,zaf,zP,zdR,dm,dm1,zA,zae,zeh,zeg,zI,Q0,Q1,Q2,Q3,Q4,Q5,zZ,zC,zt,zL,zF,Q6,Q7,Q8,Q9,Q10,Q11,Q12,Q13,Q14,Nat.reduceAdd,Q15,Int.reduceToNat,Q16,Q17,Q18,Q19,Q20,reduceIte,Q21,Q22,S_op_Name,zH];rfl):P:=e.mpr h
theorem c_Name {σ:List zh} {s:List UInt8} (hs:s.length<=1073741824) {K:KT} (hK:K (.d (.bool (zjN s))) σ):zo Tryz.prog zsd [.d (.str s)] σ K:=by
 refine zd e_op_Name.is rfl fun hl _=>e_op_Name.goes ?_
 (refine gq44 ?_;try with_reducible exact True.intro)
 refine c_Runes hs ?_
 (refine gq41 ?_;try with_reducible exact True.intro)
 refine zw hl ?_
 have:decide ((ziL s:Int) > 0)=zjN s:=by simp [zjN]
 rw [this];exact hK
end Go.Proofs.YtpgahkdjkanblaaGreat

/- Contracts: the reference's runes and names. -/
set_option maxRecDepth 100000
namespace Go.Proofs.YtpgahkdjkanblaaGreat
open Go.AW
theorem c_rsize {σ:List zh} {c:Nat} {K:KT} (hK:K (.d (.int .i64 (zop c))) σ):zo Tryz.prog ztw [.d (.int .u8 c)] σ K:=by
 refine zd zyB.is rfl fun hl _=>zyB.goes ?_
 simp only [zzn,iN,bT,bF,eN]
 (repeat' (first | (refine zyk ?_;try with_reducible exact True.intro) | (refine zad (fun h => ?_) (fun h => ?_) <;> (try rw [h])) | ((with_reducible refine And.intro ?_ ?_);focus (first | omega | rfl | decide))))
 all_goals refine zw hl ?_
 all_goals (try simp only [decide_eq_true_eq,decide_eq_false_iff_not,beq_iff_eq,beq_eq_false_iff_ne,bne_iff_ne,ne_eq,Bool.not_eq_true',Bool.not_eq_false',bne_eq_false_iff_eq] at *)
 all_goals
  simp only [zcO,dmT,dm,dm1]
  have e:∀ z:Nat,zop c=z->K (.d (.int .i64 z)) σ:=fun z hz=>by rw [← hz];exact hK
  first
  | exact e 0 (by unfold zop;rw [if_neg (by omega),if_neg (by omega),if_neg (by omega),if_neg (by omega)])
  | exact e 1 (by unfold zop;rw [if_pos (by omega)])
  | exact e 2 (by unfold zop;rw [if_neg (by omega),if_pos (by omega)])
  | exact e 3 (by unfold zop;rw [if_neg (by omega),if_neg (by omega),if_pos (by omega)])
  | exact e 4 (by unfold zop;rw [if_neg (by omega),if_neg (by omega),if_neg (by omega),if_pos (by omega)])
theorem mask_eq (z:Nat) (hz:z=2 ∨ z=3 ∨ z=4) (b:Nat) (hb:b<256) :
  IntKind.i64.wrap ↑(BitVec.ofInt IntKind.i64.bits (b:Int) &&& BitVec.ofInt IntKind.i64.bits (IntKind.i64.wrap (IntKind.i64.wrap (1 * 2 ^ (min (IntKind.i64.wrap (7 - (z:Int))).toNat IntKind.i64.bits)) - 1))).toNat=((b % 2 ^ (7 - z):Nat):Int):=by
 have h0:(BitVec.ofInt 64 (b:Int)).toNat=b:=by simp;omega
 have key:∀ m:Nat,(m=3 ∨ m=4 ∨ m=5)->IntKind.i64.wrap ↑(BitVec.ofInt 64 (b:Int) &&& BitVec.ofInt 64 ((2:Int) ^ m - 1)).toNat=((b % 2 ^ m:Nat):Int):=fun m hm=>by
  have:(BitVec.ofInt 64 (b:Int) &&& BitVec.ofInt 64 ((2:Int) ^ m - 1)).toNat=b % 2 ^ m:=by
   rw [BitVec.toNat_and,h0]
   rcases hm with rfl | rfl | rfl
   ·exact Nat.and_two_pow_sub_one_eq_mod b 3
   ·exact Nat.and_two_pow_sub_one_eq_mod b 4
   ·exact Nat.and_two_pow_sub_one_eq_mod b 5
  rw [this]
  have:b % 2 ^ m<256:=Nat.lt_of_le_of_lt (Nat.mod_le _ _) hb
  exact zas (by omega) (by omega)
 rcases hz with rfl | rfl | rfl
 ·exact key 5 (by omega)
 ·exact key 4 (by omega)
 ·exact key 3 (by omega)
theorem partF_lt (s:List UInt8) (z:Nat) (hz:2<=z):∀ i,zig s z i<32 * 64 ^ i
 | 0=>by
  simp only [zig]
  have:2 ^ (7 - z)<=2 ^ 5:=Nat.pow_le_pow_right (by omega) (by omega)
  have:=Nat.mod_lt (at8 s 0) (y := 2 ^ (7 - z)) (Nat.pos_of_ne_zero (by simp))
  omega
 | i+1=>by
  simp only [zig,Nat.pow_succ]
  have:=partF_lt s z hz i
  omega
theorem at8_some {s:List UInt8} {i:Nat} (h:i<s.length):s[i]? = some s[i]/\(s[i].toNat:Int)=(at8 s i:Int):=by
 have:s[i]? = some s[i]:=List.getElem?_eq_getElem h
 exact ⟨this,by simp [at8,this]⟩
theorem gq45 {A P Q:Prop} (a:A) (h:Q) (e:A->P=Q:=by intro a;simp -dsimp only [↓zeN, ↓zav, ↓zbq, ↓zeO, ↓zeH, ↓zeF, ↓zeI, ↓zeG, ↓zbv, ↓zbr, ↓zbw, ↓zbs, ↓zeJ, ↓zbp, ↓zbx, ↓zbt, ↓zby, ↓zbu, ↓zeE, ↓zeM, ↓zbo, ↓zbz, ↓zeC, ↓zeB, ↓zeD,iN,bT,bF,eN, ↓zcB, ↓unC, ↓zV, ↓zM, ↓zN, ↓zQ, ↓zY, ↓zal, ↓zdb, ↓zak, ↓zaH, ↓zT, ↓zf, ↓zj, ↓zbZ, ↓zb, ↓zag, ↓zE, ↓zaI, ↓zaO, ↓zc, ↓zy, ↓zl, ↓zG, ↓zaa, ↓zdm, ↓zdw, ↓zaj, ↓zar, ↓zaK, ↓zaS, ↓zaY, ↓zq, ↓zai, ↓zO, ↓zu, ↓zX,zdx,zbg,zbb,unA,zdd,bnd,zdY,zaf,zP,zdR,dm,dm1,zA,zae,zeh,zeg,zI,Q0,Q1,Q2,Q3,Q4,Q5,zZ,zC,zt,zL,zF,Q6,Q7,Q8,Q9,Q10,Q11,Q12,Q13,Q14,Nat.reduceAdd,Q15,Int.reduceToNat,Q16,Q17,Q18,Q19,Q20,reduceIte,Q21,Q22,zxh,zH,a];rfl):P:=(e a).mpr h
theorem gq46 {A P Q:Prop} (a:A) (h:Q) (e:A->P=Q:=by intro a;simp -dsimp only [↓zeN, ↓zav, ↓zbq, ↓zeO, ↓zeH, ↓zeF, ↓zeI, ↓zeG, ↓zbv, ↓zbr, ↓zbw, ↓zbs, ↓zeJ, ↓zbp, ↓zbx, ↓zbt, ↓zby, ↓zbu, ↓zeE, ↓zeM, ↓zbo, ↓zbz, ↓zeC, ↓zeB, ↓zeD,iN,bT,bF,eN, ↓zcB, ↓unC, ↓zV, ↓zM, ↓zN, ↓zQ, ↓zY, ↓zal, ↓zdb, ↓zak, ↓zaH, ↓zT, ↓zf, ↓zj, ↓zbZ, ↓zb, ↓zag, ↓zE, ↓zaI, ↓zaO, ↓zc, ↓zy, ↓zl, ↓zG, ↓zaa, ↓zdm, ↓zdw, ↓zaj, ↓zar, ↓zaK, ↓zaS, ↓zaY, ↓zq, ↓zai, ↓zO, ↓zu, ↓zX,zdx,zbg,zbb,unA,zdd,bnd,zdY,zaf,zP,zdR,dm,dm1,zA,zae,zeh,zeg,zI,Q0,Q1,Q2,Q3,Q4,Q5,zZ,zC,zt,zL,zF,Q6,Q7,Q8,Q9,Q10,Q11,Q12,Q13,Q14,Nat.reduceAdd,Q15,Int.reduceToNat,Q16,Q17,Q18,Q19,Q20,reduceIte,Q21,Q22,zH,rep,zac,zel,toD,zah,Q23,Q24,Q25,Q26,Q27,Q28,Nat.reduceLeDiff,Q29,Nat.reduceSub,Q30,Q31,Q32,sc,Q33,Q34,Q35,a];rfl):P:=(e a).mpr h
theorem c_rune1 {σ:List zh} {s:List UInt8} (hs:s.length<=1073741824) (hne:s ≠ []) {K:KT} (hK:K (.tup [.d (.int .i64 (zlZ s).1),.d (.int .i64 (zlZ s).2)]) σ):zo Tryz.prog zrq [.d (.str s)] σ K:=by
 refine zd zwp.is rfl fun hl _=>zwp.goes ?_
 have hpos:0<s.length:=List.length_pos_iff.2 hne
 obtain ⟨g1,g2⟩:=at8_some hpos
 have hb0:=zwP s 0
 (refine gq45 (gqc3 g1 g2) ?_;try with_reducible exact True.intro)
 refine ⟨by omega,c_rsize ?_⟩
 have hz4:zop (at8 s 0)=0 ∨ zop (at8 s 0)=1 ∨ zop (at8 s 0)=2 ∨ zop (at8 s 0)=3 ∨ zop (at8 s 0)=4:=by
  unfold zop;split <;> (try split) <;> (try split) <;> (try split) <;> omega
 obtain ⟨z,hz⟩:∃ z,z=zop (at8 s 0):=⟨_,rfl⟩
 rw [← hz] at hz4 ⊢
 have bad:z=0 ∨ z > s.length->K (.tup [.d (.int .i64 0),.d (.int .i64 0)]) σ:=fun h=>by
  have:zlZ s=(0, 0):=by simp only [zlZ, ← hz];rw [if_pos h]
  rw [this] at hK;exact hK
 (refine gq41 ?_;try with_reducible exact True.intro)
 refine zad (fun h => ?_) (fun h => ?_)
 all_goals (try (refine gq40 (gqc3 h (gqc3 g1 g2)) ?_;try with_reducible exact True.intro))
 ·refine zw hl ?_
  exact bad (.inl (by (try simp only [decide_eq_true_eq,decide_eq_false_iff_not,beq_iff_eq,beq_eq_false_iff_ne,bne_iff_ne,ne_eq,Bool.not_eq_true',Bool.not_eq_false',bne_eq_false_iff_eq] at *);omega))
 have hz0:z ≠ 0:=by (try simp only [decide_eq_true_eq,decide_eq_false_iff_not,beq_iff_eq,beq_eq_false_iff_ne,bne_iff_ne,ne_eq,Bool.not_eq_true',Bool.not_eq_false',bne_eq_false_iff_eq] at *);omega
 refine zad (fun h => ?_) (fun h => ?_)
 all_goals (try (refine gq40 (gqc3 h (gqc3 g1 g2)) ?_;try with_reducible exact True.intro))
 ·refine zw hl ?_
  exact bad (.inr (by (try simp only [decide_eq_true_eq,decide_eq_false_iff_not,beq_iff_eq,beq_eq_false_iff_ne,bne_iff_ne,ne_eq,Bool.not_eq_true',Bool.not_eq_false',bne_eq_false_iff_eq] at *);omega))
 have hzl:z<=s.length:=by (try simp only [decide_eq_true_eq,decide_eq_false_iff_not,beq_iff_eq,beq_eq_false_iff_ne,bne_iff_ne,ne_eq,Bool.not_eq_true',Bool.not_eq_false',bne_eq_false_iff_eq] at *);omega
 have hnb:¬ (z=0 ∨ z > s.length):=by omega
 refine zad (fun h => ?_) (fun h => ?_)
 all_goals (try (refine gq40 (gqc3 h (gqc3 g1 g2)) ?_;try with_reducible exact True.intro))
 ·have h1:z=1:=by (try simp only [decide_eq_true_eq,decide_eq_false_iff_not,beq_iff_eq,beq_eq_false_iff_ne,bne_iff_ne,ne_eq,Bool.not_eq_true',Bool.not_eq_false',bne_eq_false_iff_eq] at *);omega
  refine ⟨by omega,?_⟩
  refine zw hl ?_
  have:zlZ s=(at8 s 0, 1):=by simp only [zlZ, ← hz];rw [if_neg hnb,if_pos h1]
  rw [this] at hK
  simp only [zcO,dmT,dm,dm1,List.map_cons,List.map_nil]
  rw [zas (by omega) (by omega)]
  exact hK
 have hz2:z=2 ∨ z=3 ∨ z=4:=by (try simp only [decide_eq_true_eq,decide_eq_false_iff_not,beq_iff_eq,beq_eq_false_iff_ne,bne_iff_ne,ne_eq,Bool.not_eq_true',Bool.not_eq_false',bne_eq_false_iff_eq] at *);omega
 have h1:¬ z=1:=by omega
 refine ⟨by omega,?_⟩
 have hw:IntKind.i64.wrap (at8 s 0:Int)=(at8 s 0:Int):=zas (by omega) (by omega)
 have hsh:(0:Int)<=IntKind.i64.wrap (7 - (z:Int)):=by rw [zas (by omega) (by omega)];omega
 refine ⟨hsh,?_⟩
 rw [hw,mask_eq z hz2 _ hb0]
 refine zm z (fun k vs s'=>s' = σ/\k+1<=z/\vs = [.d (.int .i64 (zig s z k)),.d (.int .i64 (k+1:Nat))]/\∀ i,i<k+1 → 1<=i->ztQ s i=true) ⟨rfl,by omega,rfl,fun i h1 h2=>by omega⟩ ?_
 rintro k vs s' hk ⟨rfl,hk1,rfl,hcont⟩
 have hpl:=partF_lt s z (by omega) k
 have hpow:64 ^ k<=64 ^ 3:=Nat.pow_le_pow_right (by omega) (by omega)
 (refine gq41 ?_;try with_reducible exact True.intro)
 have fail:(¬ ∀ i,i<z → 1<=i->ztQ s i=true)->K (.tup [.d (.int .i64 0),.d (.int .i64 0)]) s':=fun h=>by
  have:zlZ s=(0, 0):=by simp only [zlZ, ← hz];rw [if_neg hnb,if_neg h1,if_neg h]
  rw [this] at hK;exact hK
 refine zad (fun h => ?_) (fun h => ?_)
 ·have hkz:k+1<z:=by (try simp only [decide_eq_true_eq,decide_eq_false_iff_not,beq_iff_eq,beq_eq_false_iff_ne,bne_iff_ne,ne_eq,Bool.not_eq_true',Bool.not_eq_false',bne_eq_false_iff_eq] at *);omega
  obtain ⟨f1,f2⟩:=at8_some (s:=s) (i:=k+1) (by omega)
  have hb:=zwP s (k+1)
  repeat' first
   | (refine gq46 (gqc3 f1 f2) ?_;try with_reducible exact True.intro)
   | (refine zad (fun h => ?_) (fun h => ?_) <;> (try rw [h]))
   | ((with_reducible refine And.intro ?_ ?_);focus (first | omega | rfl | decide))
  ·refine zw hl ?_
   exact fail fun h'=>by
    have:=h' (k+1) hkz (by omega)
    simp only [ztQ] at this
    (try simp only [decide_eq_true_eq,decide_eq_false_iff_not,beq_iff_eq,beq_eq_false_iff_ne,bne_iff_ne,ne_eq,Bool.not_eq_true',Bool.not_eq_false',bne_eq_false_iff_eq] at *);omega
  ·refine zw hl ?_
   exact fail fun h'=>by
    have:=h' (k+1) hkz (by omega)
    simp only [ztQ] at this
    (try simp only [decide_eq_true_eq,decide_eq_false_iff_not,beq_iff_eq,beq_eq_false_iff_ne,bne_iff_ne,ne_eq,Bool.not_eq_true',Bool.not_eq_false',bne_eq_false_iff_eq] at *);omega
  have hv:IntKind.i64.wrap (IntKind.i64.wrap (↑(zig s z k) * 64)+(IntKind.i64.wrap ↑(at8 s (k+1))).tmod 64)=((zig s z (k+1):Nat):Int):=by
   have hp2:zig s z k<32 * 64 ^ 3:=by omega
   have e1:IntKind.i64.wrap ((zig s z k:Int) * 64)=(zig s z k:Int) * 64:=zas (by omega) (by omega)
   have e2:IntKind.i64.wrap (at8 s (k+1):Int)=(at8 s (k+1):Int):=zas (by omega) (by omega)
   have e3:((at8 s (k+1):Int)).tmod 64=((at8 s (k+1) % 64:Nat):Int):=by rw [Int.tmod_eq_emod_of_nonneg (by omega)];rfl
   rw [e1,e2,e3,zas (by omega) (by omega)]
   simp only [zig]
   omega
  have hw2:IntKind.i64.wrap (((k+1:Nat):Int)+1)=((k+1+1:Nat):Int):=by rw [zas (by omega) (by omega)];rfl
  rw [hv,hw2]
  refine zaz.next (by omega) ⟨rfl,by omega,rfl,fun i hi1 hi2 => ?_⟩
  by_cases hi:i<k+1
  ·exact hcont i hi hi2
  ·obtain rfl:i=k+1:=by omega
   simp only [ztQ]
   (try simp only [decide_eq_true_eq,decide_eq_false_iff_not,beq_iff_eq,beq_eq_false_iff_ne,bne_iff_ne,ne_eq,Bool.not_eq_true',Bool.not_eq_false',bne_eq_false_iff_eq] at *);omega
 ·have hkz:k+1=z:=by (try simp only [decide_eq_true_eq,decide_eq_false_iff_not,beq_iff_eq,beq_eq_false_iff_ne,bne_iff_ne,ne_eq,Bool.not_eq_true',Bool.not_eq_false',bne_eq_false_iff_eq] at *);omega
  have hall:∀ i,i<z → 1<=i->ztQ s i=true:=by rw [← hkz];exact hcont
  have hdec:zlZ s=if zig s z k<zgQ z ∨ zig s z k > 1114111 ∨ (55296<=zig s z k/\zig s z k<57344) then (0, 0) else (zig s z k,z):=by
   have e:z - 1=k:=by omega
   simp only [zlZ, ← hz]
   rw [if_neg hnb,if_neg h1,if_pos hall,e]
  have hget:∃ l:Nat,l=zgQ z/\([[D.int .i64 0],[D.int .i64 0],[D.int .i64 128],[D.int .i64 2048],[D.int .i64 65536]]:List (List D))[z]? = some [D.int .i64 l]:=by
   rcases hz2 with rfl | rfl | rfl <;> exact ⟨_,rfl,rfl⟩
  obtain ⟨l,hl1,hl2⟩:=hget
  rw [← hl1] at hdec
  repeat' first
   | (refine gq46 hl2 ?_;try with_reducible exact True.intro)
   | (refine zad (fun h => ?_) (fun h => ?_) <;> (try rw [h]))
   | ((with_reducible refine And.intro ?_ ?_);focus (first | omega | rfl | decide))
  all_goals refine zw hl ?_
  all_goals (try simp only [decide_eq_true_eq,decide_eq_false_iff_not,beq_iff_eq,beq_eq_false_iff_ne,bne_iff_ne,ne_eq,Bool.not_eq_true',Bool.not_eq_false',bne_eq_false_iff_eq] at *)
  all_goals simp only [zcO,dmT,dm,dm1,List.map_cons,List.map_nil]
  all_goals first
   | (rw [if_pos (by omega)] at hdec;rw [hdec] at hK;exact hK)
   | (rw [if_neg (by omega)] at hdec;rw [hdec] at hK;exact hK)
theorem badF_ref (v:Nat):badF v=decide (v<33 ∨ 127<=v/\v<160 ∨ v=47 ∨ v=65533):=by
 simp only [badF];congr 1;apply propext;omega
theorem c_rRunes {σ:List zh} {s:List UInt8} (hs:s.length<=1073741824) {K:KT} (hK:K (.d (.int .i64 (ziL s))) σ):zo Tryz.prog zrr [.d (.str s)] σ K:=by
 refine zd zwq.is rfl fun hl _=>zwq.goes ?_
 simp only [zxi,iN,bT,bF,eN]
 refine zm s.length (fun pos vs s' => ∃ (cnt:Nat) (t:List UInt8),t.length+pos=s.length/\vs = [.d (.str t),.d (.int .i64 cnt)]/\s' = σ/\cnt<=pos/\cnt<=16/\zfz (s.length+1) s=(zfz (s.length+1) t).map (· + cnt)) ⟨0,s,rfl,rfl,rfl,by omega,by omega,by simp⟩ ?_
 rintro pos vs s' hp ⟨cnt,t,hlen,rfl,rfl,hc,hc16,hr⟩
 (refine gq41 ?_;try with_reducible exact True.intro)
 refine zad (fun h => ?_) (fun h => ?_)
 ·have ht:t ≠ []:=by rintro rfl;simp at h
  have htl:0<t.length:=List.length_pos_iff.2 ht
  have hw2:=zmy t
  have hcount:zfz (s.length+1) t=if (zlZ t).2=0 ∨ badF (zlZ t).1=true then none else (zfz s.length (t.drop (zlZ t).2)).map (· + 1):=by
   rw [zfz,if_neg ht]
  refine c_rune1 (by omega) ht ?_
  have stop:(zlZ t).2=0 ∨ badF (zlZ t).1=true ∨ cnt=16->K (.d (.int .i64 0)) s':=fun hb=>by
   have h0:ziL s=0:=by
    by_cases hq:(zlZ t).2=0 ∨ badF (zlZ t).1=true
    ·simp [ziL,hr,hcount,if_pos hq]
    ·have hcn:cnt=16:=by
      rcases hb with hb | hb | hb
      ·exact absurd (.inl hb) hq
      ·exact absurd (.inr hb) hq
      ·exact hb
     simp only [ziL,hr,hcount,if_neg hq]
     cases zfz s.length (t.drop (zlZ t).2) with
     | none=>simp
     | some m=>simp;omega
   rw [h0] at hK;exact hK
  (repeat' (first | (refine zyk ?_;try with_reducible exact True.intro) | (refine zad (fun h => ?_) (fun h => ?_) <;> (try rw [h])) | ((with_reducible refine And.intro ?_ ?_);focus (first | omega | rfl | decide))))
  all_goals first
   | (
    refine zw hl ?_
    refine stop ?_
    rw [badF_ref,decide_eq_true_eq]
    (try simp only [decide_eq_true_eq,decide_eq_false_iff_not,beq_iff_eq,beq_eq_false_iff_ne,bne_iff_ne,ne_eq,Bool.not_eq_true',Bool.not_eq_false',bne_eq_false_iff_eq] at *)
    omega)
   | skip
  all_goals
   have hb:badF (zlZ t).1=false:=by
    rw [badF_ref,decide_eq_false_iff_not]
    (try simp only [decide_eq_true_eq,decide_eq_false_iff_not,beq_iff_eq,beq_eq_false_iff_ne,bne_iff_ne,ne_eq,Bool.not_eq_true',Bool.not_eq_false',bne_eq_false_iff_eq] at *)
    omega
   have h2:(zlZ t).2 ≠ 0:=by (try simp only [decide_eq_true_eq,decide_eq_false_iff_not,beq_iff_eq,beq_eq_false_iff_ne,bne_iff_ne,ne_eq,Bool.not_eq_true',Bool.not_eq_false',bne_eq_false_iff_eq] at *);omega
   have hcl:cnt<16:=by (try simp only [decide_eq_true_eq,decide_eq_false_iff_not,beq_iff_eq,beq_eq_false_iff_ne,bne_iff_ne,ne_eq,Bool.not_eq_true',Bool.not_eq_false',bne_eq_false_iff_eq] at *);omega
   rw [zas (by omega) (by omega)]
   refine zaz.to (pos+(zlZ t).2) (by omega) (by omega) ⟨cnt+1,t.drop (zlZ t).2,by simp;omega,?_,rfl,by omega,by omega,?_⟩
   ·simp
   ·rw [hr,hcount,if_neg (by simp [h2,hb]),zrz s.length (s.length+1) _ (by simp;omega) (by simp;omega)]
    cases zfz (s.length+1) (t.drop (zlZ t).2) <;> simp
    omega
 ·refine zw hl ?_
  have ht:t = []:=by
   have:¬ 0<t.length:=by (try simp only [decide_eq_true_eq,decide_eq_false_iff_not,beq_iff_eq,beq_eq_false_iff_ne,bne_iff_ne,ne_eq,Bool.not_eq_true',Bool.not_eq_false',bne_eq_false_iff_eq] at *);omega
   exact List.length_eq_zero_iff.1 (by omega)
  have h0:ziL s=cnt:=by
   simp only [ziL,hr,ht]
   simp [zfz]
   omega
  rw [h0] at hK;exact hK
theorem c_rName {σ:List zh} {s:List UInt8} (hs:s.length<=1073741824) {K:KT} (hK:K (.d (.bool (zjN s))) σ):zo Tryz.prog zqj [.d (.str s)] σ K:=by
 refine zd zyD.is rfl fun hl _=>zyD.goes ?_
 simp only [zzp,iN,bT,bF,eN]
 (refine gq41 ?_;try with_reducible exact True.intro)
 refine c_rRunes hs ?_
 (refine gq41 ?_;try with_reducible exact True.intro)
 refine zw hl ?_
 have:decide ((ziL s:Int) > 0)=zjN s:=by simp [zjN]
 rw [this];exact hK
end Go.Proofs.YtpgahkdjkanblaaGreat

/- Contracts: which operations may be. -/
set_option maxRecDepth 100000
namespace Go.Proofs.YtpgahkdjkanblaaGreat
open Go.AW
theorem c_Check_1 {σ:List zh} {r:List UInt8} {K:KT} (hK:K (.d (.bool (decide (r.length > 64)))) σ):zo Tryz.prog zll [.d (.slice (bcs r))] σ K:=by
 refine zd zuC.is rfl fun hl _=>zuC.goes ?_
 simp only [zuS,iN,bT,bF,eN]
 (refine gq41 ?_;try with_reducible exact True.intro)
 refine zw hl ?_
 have:decide (((bcs r).length:Int) > 64)=decide (r.length > 64):=by simp [bcs];omega
 rw [this];exact hK
theorem gq47 {P Q:Prop} (h:Q) (e:P=Q:=by simp -dsimp only [↓zeN, ↓zav, ↓zbq, ↓zeO, ↓zeH, ↓zeF, ↓zeI, ↓zeG, ↓zbv, ↓zbr, ↓zbw, ↓zbs, ↓zeJ, ↓zbp, ↓zbx, ↓zbt, ↓zby, ↓zbu, ↓zeE, ↓zeM, ↓zbo, ↓zbz, ↓zeC, ↓zeB, ↓zeD,iN,bT,bF,eN, ↓zcB, ↓unC, ↓zV, ↓zM, ↓zN, ↓zQ, ↓zY, ↓zal, ↓zdb, ↓zak, ↓zaH, ↓zT, ↓zf, ↓zj, ↓zbZ, ↓zb, ↓zag, ↓zE, ↓zaI, ↓zaO, ↓zc, ↓zy, ↓zl, ↓zG, ↓zaa, ↓zdm, ↓zdw, ↓zaj, ↓zar, ↓zaK, ↓zaS, ↓zaY, ↓zq, ↓zai, ↓zO, ↓zu, ↓zX,zdx,zbg,zbb,unA,zdd,bnd,zdY,zaf,zP,zdR,dm,dm1,zA,zae,zeh,zeg,zI,Q0,Q1,Q2,Q3,Q4,Q5,zZ,zC,zt,zL,zF,Q6,Q7,Q8,Q9,Q10,Q11,Q12,Q13,Q14,Nat.reduceAdd,Q15,Int.reduceToNat,Q16,Q17,Q18,Q19,Q20,reduceIte,Q21,Q22,dmT,zcO,zH];rfl):P:=e.mpr h
theorem zpA {σ:List zh} {a:List (List UInt8)} (ha:a.length<=1073741824) {K:KT} (hK:K (.d (.bool (a.any fun r=>decide (r.length > 64)))) σ) :
  zo Tryz.prog zbH [.d (.slice (zgp a)),.fn (.func zll) [] []] σ K:=by
 refine zd zcF.is rfl fun hl _=>zcF.goes ?_
 simp only [zcG,iN,bT,bF,eN]
 (refine gq41 ?_;try with_reducible exact True.intro)
 refine zd zcZ.is rfl fun hl _=>zcZ.goes ?_
 simp only [zda,iN,bT,bF,eN]
 (refine gq41 ?_;try with_reducible exact True.intro)
 refine zm a.length (fun k vs s=>vs = [.d (.int .i64 k)]/\s = σ/\∀ r ∈ a.take k, ¬ r.length > 64) ⟨rfl,rfl,by simp⟩ ?_
 rintro k vs s hk ⟨rfl,rfl,htk⟩
 (refine gq41 ?_;try with_reducible exact True.intro)
 refine zad (fun h => ?_) (fun h => ?_)
 ·have hka:k<a.length:=by (try simp only [decide_eq_true_eq,decide_eq_false_iff_not,beq_iff_eq,beq_eq_false_iff_ne,bne_iff_ne,ne_eq,Bool.not_eq_true',Bool.not_eq_false',bne_eq_false_iff_eq] at *);omega
  have hx:a[k]? = some a[k]:=by simp [hka]
  (refine gq40 (zgt hx) ?_;try with_reducible exact True.intro)
  refine And.intro (by omega) (c_Check_1 ?_)
  (refine gq41 ?_;try with_reducible exact True.intro)
  refine zad (fun h => ?_) (fun h => ?_)
  ·refine zw hl ?_
   (refine gq47 ?_;try with_reducible exact True.intro)
   refine zw hl ?_
   have e1:decide ((k:Int) ≥ 0)=true:=by simp
   have e2:(a.any fun r=>decide (r.length > 64))=true:=by
    rw [List.any_eq_true]
    exact ⟨a[k],List.getElem_mem _,h⟩
   rw [e2] at hK
   simp only [zcO,dmT,dm,dm1]
   rw [e1];exact hK
  ·(refine gq41 ?_;try with_reducible exact True.intro)
   refine zaz.next hka ⟨?_,rfl,fun r hr => ?_⟩
   ·rw [zas (by omega) (by omega)];rfl
   ·rw [List.take_add_one,hx] at hr
    rcases List.mem_append.1 hr with hr | hr
    ·exact htk r hr
    ·have:r=a[k]:=by simpa using hr
     subst this
     simpa using h
 ·refine zw hl ?_
  (refine gq47 ?_;try with_reducible exact True.intro)
  refine zw hl ?_
  have e2:(a.any fun r=>decide (r.length > 64))=false:=by
   rw [List.any_eq_false]
   intro r hr
   have hk':k=a.length:=by (try simp only [decide_eq_true_eq,decide_eq_false_iff_not,beq_iff_eq,beq_eq_false_iff_ne,bne_iff_ne,ne_eq,Bool.not_eq_true',Bool.not_eq_false',bne_eq_false_iff_eq] at *);omega
   rw [hk',List.take_length] at htk
   simpa using htk r hr
  rw [e2] at hK
  exact hK
theorem gq48 {P Q:Prop} (h:Q) (e:P=Q:=by simp -dsimp only [↓zeN, ↓zav, ↓zbq, ↓zeO, ↓zeH, ↓zeF, ↓zeI, ↓zeG, ↓zbv, ↓zbr, ↓zbw, ↓zbs, ↓zeJ, ↓zbp, ↓zbx, ↓zbt, ↓zby, ↓zbu, ↓zeE, ↓zeM, ↓zbo, ↓zbz, ↓zeC, ↓zeB, ↓zeD,iN,bT,bF,eN, ↓zcB, ↓unC, ↓zV, ↓zM, ↓zN, ↓zQ, ↓zY, ↓zal, ↓zdb, ↓zak, ↓zaH, ↓zT, ↓zf, ↓zj, ↓zbZ, ↓zb, ↓zag, ↓zE, ↓zaI, ↓zaO, ↓zc, ↓zy, ↓zl, ↓zG, ↓zaa, ↓zdm, ↓zdw, ↓zaj, ↓zar, ↓zaK, ↓zaS, ↓zaY, ↓zq, ↓zai, ↓zO, ↓zu, ↓zX,zdx,zbg,zbb,unA,zdd,bnd,zdY,zaf,zP,zdR,dm,dm1,zA,zae,zeh,zeg,zI,Q0,Q1,Q2,Q3,Q4,Q5,zZ,zC,zt,zL,zF,Q6,Q7,Q8,Q9,Q10,Q11,Q12,Q13,Q14,Nat.reduceAdd,Q15,Int.reduceToNat,Q16,Q17,Q18,Q19,Q20,reduceIte,Q21,Q22,zH,rep,zac,zel,toD,zah,Q23,Q24,Q25,Q26,Q27,Q28,Nat.reduceLeDiff,Q29,Nat.reduceSub,Q30,Q31,Q32,sc,Q33,Q34,Q35,opA];rfl):P:=e.mpr h
theorem c_Check {σ:List zh} {o:TOp} (ht:o.topic.length<=1073741824) (hg:o.group.length<=1073741824) (hr:o.recs.length<=1073741824) {K:KT} (hK:K (.d (.int .i64 (zcP zjN o))) σ):zo Tryz.prog zqk [opA o] σ K:=by
 refine zd zyI.is rfl fun hl _=>zyI.goes ?_
 simp only [zzu,iN,bT,bF,eN,opA]
 (refine zyk ?_;try with_reducible exact True.intro)
 refine c_only (o:=o) ?_
 have honly:(zoP o).recs.length<=1073741824:=by unfold zoP noOp;split <;> (try split) <;> (try split) <;> (try split) <;> simp <;> omega
 (refine gq48 ?_;try with_reducible exact True.intro)
 repeat' first
  | (refine zyk ?_;try with_reducible exact True.intro)
  | refine c_Same (a:=o) (b:=zoP o) hr honly ?_
  | refine c_Name ht ?_
  | refine c_Name hg ?_
  | refine zpA hr ?_
  | (refine zad (fun h => ?_) (fun h => ?_) <;> (try rw [h]))
  | ((with_reducible refine And.intro ?_ ?_);focus (first | omega | rfl | decide))
 all_goals refine zw hl ?_
 all_goals (try simp only [decide_eq_true_eq,decide_eq_false_iff_not,beq_iff_eq,beq_eq_false_iff_ne,bne_iff_ne,ne_eq,Bool.not_eq_true',Bool.not_eq_false',bne_eq_false_iff_eq] at *)
 all_goals
  simp only [zcO,dmT,dm,dm1]
  have e:∀ z:Int,zcP zjN o=z->K (.d (.int .i64 z)) σ:=fun z hz=>by rw [← hz];exact hK
  clear hK
  apply e
  first
  | grind [zcP]
  | skip
end Go.Proofs.YtpgahkdjkanblaaGreat

/- Contracts: which operations may be, by the reference. -/
set_option maxRecDepth 100000
namespace Go.Proofs.YtpgahkdjkanblaaGreat
open Go.AW
def zpf (k:Int):Bool:=decide (1<=k/\k<=4)
def zso (k:Int):Bool:=decide (k=3)
def fOff (k:Int):Bool:=decide (k=3 ∨ k=4)
def zzY (k:Int):Bool:=decide (k=2)
theorem c_fields {σ:List zh} {k:Int} {K:KT} (hK:K (.tup [.d (.bool (zpf k)),.d (.bool (zso k)),.d (.bool (fOff k)),.d (.bool (zzY k))]) σ):zo Tryz.prog zlk [.d (.int .i64 k)] σ K:=by
 refine zd zuy.is rfl fun hl _=>zuy.goes ?_
 simp only [zuO,iN,bT,bF,eN]
 (repeat' (first | (refine zyk ?_;try with_reducible exact True.intro) | (refine zad (fun h => ?_) (fun h => ?_) <;> (try rw [h])) | ((with_reducible refine And.intro ?_ ?_);focus (first | omega | rfl | decide))))
 all_goals refine zw hl ?_
 all_goals (try simp only [decide_eq_true_eq,decide_eq_false_iff_not,beq_iff_eq,beq_eq_false_iff_ne,bne_iff_ne,ne_eq,Bool.not_eq_true',Bool.not_eq_false',bne_eq_false_iff_eq] at *)
 all_goals
  simp only [zcO,dmT,dm,dm1,List.map_cons,List.map_nil]
  have e:∀ a b c d:Bool,zpf k=a->zso k=b->fOff k=c->zzY k=d->K (.tup [.d (.bool a),.d (.bool b),.d (.bool c),.d (.bool d)]) σ:=fun a b c d h1 h2 h3 h4=>by rw [← h1, ← h2, ← h3, ← h4];exact hK
  clear hK
  apply e <;> simp [zpf,zso,fOff,zzY] <;> omega
theorem onlyF_iff (o:TOp):o=zoP o ↔ (zpf o.kind=false->o.topic = [])/\(zso o.kind=false->o.group = [])/\(fOff o.kind=false->o.offset=0)/\(zzY o.kind=false->o.recs = []):=by
 obtain ⟨k,t,g,f,r⟩:=o
 simp only [zoP,noOp,zpf,zso,fOff,zzY,decide_eq_false_iff_not]
 by_cases h1:k=1
 ·subst h1;simp
 by_cases h2:k=2
 ·subst h2;simp
 by_cases h3:k=3
 ·subst h3;simp
 by_cases h4:k=4
 ·subst h4;simp
 ·have:¬ (1<=k/\k<=4):=by omega
  simp [h1,h2,h3,h4,this]
set_option maxHeartbeats 2000000 in
theorem c_rCheck {σ:List zh} {o:TOp} (ht:o.topic.length<=1073741824) (hg:o.group.length<=1073741824) (hr:o.recs.length<=1073741824) {K:KT} (hK:K (.d (.int .i64 (zcP zjN o))) σ):zo Tryz.prog zmY [opA o] σ K:=by
 refine zd zwr.is rfl fun hl _=>zwr.goes ?_
 simp only [zxj,iN,bT,bF,eN,opA]
 (refine zyk ?_;try with_reducible exact True.intro)
 refine c_fields ?_
 have fin:∀ z:Int,zcP zjN o=z->K (.d (.int .i64 z)) σ:=fun z hz=>by rw [← hz];exact hK
 have honly:=onlyF_iff o
 have hkind:zpf o.kind=true->zix o=true:=by simp [zpf,zix];omega
 have hk1:zpf o.kind=true ↔ (zix o=true/\o.kind ≠ 0):=by simp [zpf,zix];omega
 have hk2:zso o.kind=true ↔ o.kind=3:=by simp [zso]
 have hk3:zzY o.kind=true ↔ o.kind=2:=by simp [zzY]
 have hk4:zix o=true ↔ (0<=o.kind/\o.kind<=4):=by simp [zix]
 have hnil:o.recs = [] ↔ o.recs.length=0:=List.length_eq_zero_iff.symm
 clear hK
 repeat' first
  | (refine zyk ?_;try with_reducible exact True.intro)
  | refine c_rName ht ?_
  | refine c_rName hg ?_
  | (refine zad (fun h => ?_) (fun h => ?_) <;> (try rw [h]))
  | ((with_reducible refine And.intro ?_ ?_);focus (first | omega | rfl | decide))
 all_goals first
  | (
   refine zw hl ?_
   (try simp only [decide_eq_true_eq,decide_eq_false_iff_not,beq_iff_eq,beq_eq_false_iff_ne,bne_iff_ne,ne_eq,Bool.not_eq_true',Bool.not_eq_false',bne_eq_false_iff_eq] at *)
   simp only [zcO,dmT,dm,dm1]
   apply fin
   grind [zcP])
  | skip
 all_goals
  refine zm o.recs.length (fun k vs s=>vs = [.d (.int .i64 k)]/\s = σ++[.box [.d (.int .i64 o.kind),.d (.str o.topic),.d (.str o.group),.d (.int .i64 o.offset),.d (.slice (zgp o.recs))]]/\∀ r ∈ o.recs.take k, ¬ r.length > 64) ⟨rfl,rfl,by simp⟩ ?_
  rintro k vs s hk ⟨rfl,rfl,htk⟩
  (refine gq41 ?_;try with_reducible exact True.intro)
  refine zad (fun h => ?_) (fun h => ?_)
  ·have hka:k<o.recs.length:=by (try simp only [decide_eq_true_eq,decide_eq_false_iff_not,beq_iff_eq,beq_eq_false_iff_ne,bne_iff_ne,ne_eq,Bool.not_eq_true',Bool.not_eq_false',bne_eq_false_iff_eq] at *);omega
   have hx:o.recs[k]? = some o.recs[k]:=by simp [hka]
   have hmem:o.recs[k] ∈ o.recs:=List.getElem_mem _
   have hbl:(bcs o.recs[k]).length=o.recs[k].length:=by simp [bcs]
   (refine gq40 (zgt hx) ?_;try with_reducible exact True.intro)
   refine And.intro (by omega) ?_
   refine zad (fun h => ?_) (fun h => ?_)
   ·have hany:(o.recs.any fun r=>decide (r.length > 64))=true:=by
     rw [List.any_eq_true]
     exact ⟨_,hmem,by (try simp only [decide_eq_true_eq,decide_eq_false_iff_not,beq_iff_eq,beq_eq_false_iff_ne,bne_iff_ne,ne_eq,Bool.not_eq_true',Bool.not_eq_false',bne_eq_false_iff_eq] at *);omega⟩
    refine zw hl ?_
    (try simp only [decide_eq_true_eq,decide_eq_false_iff_not,beq_iff_eq,beq_eq_false_iff_ne,bne_iff_ne,ne_eq,Bool.not_eq_true',Bool.not_eq_false',bne_eq_false_iff_eq] at *)
    simp only [zcO,dmT,dm,dm1]
    apply fin
    grind [zcP]
   ·(refine gq41 ?_;try with_reducible exact True.intro)
    refine zaz.next hka ⟨?_,rfl,fun r hr => ?_⟩
    ·rw [zas (by omega) (by omega)];rfl
    ·rw [List.take_add_one,hx] at hr
     rcases List.mem_append.1 hr with hr | hr
     ·exact htk r hr
     ·have:r=o.recs[k]:=by simpa using hr
      subst this
      (try simp only [decide_eq_true_eq,decide_eq_false_iff_not,beq_iff_eq,beq_eq_false_iff_ne,bne_iff_ne,ne_eq,Bool.not_eq_true',Bool.not_eq_false',bne_eq_false_iff_eq] at *)
      omega
  ·have hany:(o.recs.any fun r=>decide (r.length > 64))=false:=by
    rw [List.any_eq_false]
    intro r hr
    have hk':k=o.recs.length:=by (try simp only [decide_eq_true_eq,decide_eq_false_iff_not,beq_iff_eq,beq_eq_false_iff_ne,bne_iff_ne,ne_eq,Bool.not_eq_true',Bool.not_eq_false',bne_eq_false_iff_eq] at *);omega
    rw [hk',List.take_length] at htk
    simpa using htk r hr
   clear htk
   (repeat' (first | (refine zyk ?_;try with_reducible exact True.intro) | (refine zad (fun h => ?_) (fun h => ?_) <;> (try rw [h])) | ((with_reducible refine And.intro ?_ ?_);focus (first | omega | rfl | decide))))
   all_goals
    refine zw hl ?_
    (try simp only [decide_eq_true_eq,decide_eq_false_iff_not,beq_iff_eq,beq_eq_false_iff_ne,bne_iff_ne,ne_eq,Bool.not_eq_true',Bool.not_eq_false',bne_eq_false_iff_eq] at *)
    simp only [zcO,dmT,dm,dm1]
    apply fin
    grind [zcP]
end Go.Proofs.YtpgahkdjkanblaaGreat
