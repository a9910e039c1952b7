/- Contracts of the small functions over bytes. -/
import Derived.Test.YtfgbofkdhfjegaaGreatSh
import Derived.Test.YtfgbofkdhfjegaaGreatAwEnd
import Derived.Test.YtfgbofkdhfjegaaGreatCl1
set_option linter.all false
set_option maxRecDepth 100000
namespace Go.Proofs.YtfgbofkdhfjegaaGreat
open Go.AW
theorem zyT {σ:List zh} {es:List (List D)} {K:KT} (he:∀ e∈es,e.length=1) (hK:K (.exact es) σ):zp Tryz.prog zee [.d (.slice es)] σ K:=by
 refine zcl zgU.is rfl (fun _ => []) fun hl _=>zgU.goes ?_
 simp only [zgX,iN,bT,bF,eN,gF,gT,gFm,gTm,fl,nfl,gFl,gTl,il,cp,orC,anC,cA,bP,z1,z2,m1,List.map_cons,List.map_nil,zai,zdo,zcv,bnd,zdL,zG]
 refine ⟨rfl,trivial,by omega,by omega,by omega,he,?_⟩
 simp only [zoR,zwE,getL,ztr,zcJ,zdA]
 simpa using ⟨hl,hK⟩
theorem zms {σ:List zh} {a b:List UInt8} {K:KT} (hK:K (.d (.bool (a==b))) σ):zp Tryz.prog zgQ [.d (.slice (bcs a)),.d (.slice (bcs b))] σ K:=by
 refine zeW zyL fun hl => ?_
 simp only [zru,iN,bT,bF,eN,gF,gT,gFm,gTm,fl,nfl,gFl,gTl,il,cp,orC,anC,cA,bP,z1,z2,m1,List.map_cons,List.map_nil,zaf,zdo,zgr,zco,zdr,zbl,zG]
 exact zuQ (by simp [zfz,dmT,dm,dm1,zcJ]) hl hK
def bva (bs:List UInt8):List AV:=bs.map fun b => .d (.int .u8 (b.toNat:Int))
def zhn (bs:List UInt8):List AV:=bva bs++List.replicate (10-bs.length) (.d (.int .u8 0))
theorem zwJ {pre:List UInt8} {b:UInt8} (h:pre.length<10):zaa (zhn pre) pre.length [.d (.int .u8 (b.toNat:Int))]=zhn (pre++[b]):=by
 simp only [zaa,zhn,bva,List.length_singleton]
 obtain ⟨m,hm⟩:∃ m, 10-pre.length=m+1:=⟨9-pre.length,by omega⟩
 rw [hm,List.take_left' (by simp),List.drop_append]
 simp only [List.length_map]
 rw [List.drop_eq_nil_of_le (by simp),show pre.length+1-pre.length=1 by omega,List.replicate_succ]
 simp [List.length_append,show 10-(pre.length+1)=m by omega]
theorem byte_or (m:Nat):IntKind.u8.wrap ↑(BitVec.ofInt IntKind.u8.bits (IntKind.u8.wrap (m:Int)) ||| BitVec.ofInt IntKind.u8.bits 128).toNat=((UInt8.ofNat (m % 128+128)).toNat:Int):=by
 rw [wrap8 m,show IntKind.u8.bits=8 from rfl,or128 ⟨m % 256,by omega⟩,ztM (by simp;omega),zoD (by omega)]
 simp
theorem byte_wrap {m:Nat} (h:m<128):IntKind.u8.wrap (m:Int)=((UInt8.ofNat m).toNat:Int):=by
 rw [ztM (by omega),zoD (by omega)]
theorem shr7 (m:Nat):((m:Int)).fdiv (2 ^ min 7 IntKind.u64.bits)=((m / 128:Nat):Int):=by
 rw [show min 7 IntKind.u64.bits=7 from rfl,Int.fdiv_eq_ediv_of_nonneg _ (by decide)]
 rfl
theorem zqu {pre:List UInt8} (h:pre.length<=10):(zhn pre).length=10:=by simp [zhn,bva];omega
theorem pad10_sc (pre:List UInt8):(zhn pre).all sc=true:=by
 simp only [zhn,bva,List.all_append,List.all_map,List.all_replicate,Bool.and_eq_true]
 refine ⟨by simp [sc],?_⟩
 cases 10-pre.length<;>simp [sc]
theorem pad10_d (pre:List UInt8):zhn pre=((pre.map fun b=>D.int .u8 (b.toNat:Int))++List.replicate (10-pre.length) (D.int .u8 0)).map AV.d:=by
 simp [zhn,bva,Function.comp_def]
theorem gq9 {P Q:Prop} (h:Q) (e:P=Q:=by simp -dsimp only [↓zeU, ↓zaA, ↓zbp, ↓zeV, ↓zeO, ↓zeM, ↓zeP, ↓zeN, ↓zbu, ↓zbq, ↓zbv, ↓zbr, ↓zeQ, ↓zbo, ↓zbw, ↓zbs, ↓zbx, ↓zbt, ↓zeL, ↓zeT, ↓zbn, ↓zby, ↓zeG, ↓zeF, ↓zeK,iN,bT,bF,eN, ↓zco, ↓unC, ↓zX, ↓zM, ↓zN, ↓zQ, ↓zZ, ↓zai, ↓zcv, ↓zaf, ↓zaS, ↓zV, ↓zl, ↓zm, ↓zbg, ↓ze, ↓zae, ↓zC, ↓zaM, ↓zaT, ↓zd, ↓zA, ↓zr, ↓zD, ↓zao, ↓zcY, ↓zdn, ↓zap, ↓zaw, ↓zaN, ↓zaZ, ↓zbk, ↓zw, ↓zaj, ↓zO, ↓zE, ↓zY,zdr,zbm,zbl,unA,zdo,bnd,zdL,zab,zS,zdI,dm,dm1,zG,zak,zdZ,zdY,zH,Q0,Q1,Q2,Q3,Q4,Q5,zW,zx,zy,zT,zL,Q6,Q7,Q8,Q9,Q10,Q11,Q12,Q13,Q14,Nat.reduceAdd,Q15,Int.reduceToNat,Q16,Q17,Q18,Q19,Q20,reduceIte,Q21,Q22];rfl):P:=e.mpr h
theorem gq10 {A P Q:Prop} (a:A) (h:Q) (e:A->P=Q:=by intro a;simp -dsimp only [↓zeU, ↓zaA, ↓zbp, ↓zeV, ↓zeO, ↓zeM, ↓zeP, ↓zeN, ↓zbu, ↓zbq, ↓zbv, ↓zbr, ↓zeQ, ↓zbo, ↓zbw, ↓zbs, ↓zbx, ↓zbt, ↓zeL, ↓zeT, ↓zbn, ↓zby, ↓zeG, ↓zeF, ↓zeK,iN,bT,bF,eN, ↓zco, ↓unC, ↓zX, ↓zM, ↓zN, ↓zQ, ↓zZ, ↓zai, ↓zcv, ↓zaf, ↓zaS, ↓zV, ↓zl, ↓zm, ↓zbg, ↓ze, ↓zae, ↓zC, ↓zaM, ↓zaT, ↓zd, ↓zA, ↓zr, ↓zD, ↓zao, ↓zcY, ↓zdn, ↓zap, ↓zaw, ↓zaN, ↓zaZ, ↓zbk, ↓zw, ↓zaj, ↓zO, ↓zE, ↓zY,zdr,zbm,zbl,unA,zdo,bnd,zdL,zab,zS,zdI,dm,dm1,zG,zak,zdZ,zdY,zH,Q0,Q1,Q2,Q3,Q4,Q5,zW,zx,zy,zT,zL,Q6,Q7,Q8,Q9,Q10,Q11,Q12,Q13,Q14,Nat.reduceAdd,Q15,Int.reduceToNat,Q16,Q17,Q18,Q19,Q20,reduceIte,Q21,Q22,a];rfl):P:=(e a).mpr h
theorem c_form {σ:List zh} {n:Nat} (hn:n<18446744073709551616) {K:KT} (hK:K (.tup [.agg (zhn (zdi n)),.d (.int .i64 (zdi n).length)]) σ):zp Tryz.prog znA [.d (.int .u64 n)] σ K:=by
 refine zfc e_codec_form fun hl => ?_
 simp only [ztm,iN,bT,bF,eN,zV]
 have hlen:=zJ hn
 refine zo 10 (fun k vs s => ∃ (m:Nat) (pre:List UInt8),k=pre.length/\vs = [.d (.int .u64 m),.d (.int .i64 k)]/\zdi n=pre++zdi m/\m<18446744073709551616 ∧
   s = σ++[.box (zhn []),.box (zhn pre)]) ⟨n,[],rfl,rfl,rfl,hn,by simp [zhn,bva]⟩ ?_
 rintro k vs s hk ⟨m,pre,rfl,rfl,hpre,hm,rfl⟩
 have hm10:=zJ hm
 have hpl:pre.length+(zdi m).length<=10:=by rw [hpre] at hlen;simpa using hlen.2
 have hp:pre.length<10:=by omega
 (refine gq9 ?_;try with_reducible exact True.intro)
 refine zaE (fun h => ?_) (fun h => ?_)
 all_goals (try (refine gq10 h ?_;try with_reducible exact True.intro))
 ·have h1:¬ m<128:=by simp at h;omega
  have h2:=zys h1
  rw [h2] at hpl
  simp at hpl
  rw [byte_or,shr7,zwJ hp]
  refine ⟨by omega,by omega,by have:=zqu (pre:=pre) (by omega);omega,by simp [sc],by omega,?_⟩
  refine zas.next (by omega) ⟨m / 128,pre++[UInt8.ofNat (m % 128+128)],by simp,?_,by rw [hpre,h2];simp,by omega,rfl⟩
  rw [zU (by omega) (by omega)]
  rfl
 ·have h1:m<128:=by simp at h;omega
  have h2:=zop h1
  rw [byte_wrap h1,zwJ hp]
  have hp1:(zhn (pre++[UInt8.ofNat m])).length=10:=zqu (by simp;omega)
  have hsp:zaa (zhn []) 0 (zhn (pre++[UInt8.ofNat m]))=zhn (pre++[UInt8.ofNat m]):=by
   simp only [zaa,Nat.zero_add,List.take_zero,List.nil_append]
   rw [hp1,List.drop_eq_nil_of_le (by simp [zhn,bva]),List.append_nil]
  have htk:List.take 10 (List.drop 0 (zhn (pre++[UInt8.ofNat m])))=zhn (pre++[UInt8.ofNat m]):=by
   rw [List.drop_zero,List.take_of_length_le (by omega)]
  rw [htk,hsp,htk,if_pos (by omega)]
  refine ⟨by omega,by omega,by have:=zqu (pre:=pre) (by omega);omega,by simp [sc],by omega,by omega,by simp [zhn,bva],pad10_sc _,?_⟩
  have hd:dmT (zcJ [.agg (zhn (pre++[UInt8.ofNat m])),.d (.int .i64 (IntKind.i64.wrap (↑pre.length+1)))]) = .tup [.agg (zhn (pre++[UInt8.ofNat m])),.d (.int .i64 (zdi n).length)]:=by
   rw [zU (by omega) (by omega),hpre,h2]
   simp only [zcJ,dmT,List.map_cons,List.map_nil,dm,pad10_d,map_dm1_d,dm1]
   rw [List.length_append];rfl
  refine zsl ?_ hl ?_
  ·rw [hd,pad10_d,zcb]
   intro c hc
   rcases List.mem_cons.1 hc with rfl|hc
   ·exact .agg _ (zuB _ _)
   ·have hc:=List.mem_singleton.1 hc
    subst hc;exact .d _
  ·rw [hd];rw [hpre,h2] at hK ⊢;exact hK
theorem toDs_bva (bs:List UInt8) (r:List AV) (ds:List D) (h:zeC r=some ds):zeC (bva bs++r)=some ((bs.map fun b=>D.int .u8 (b.toNat:Int))++ds):=by
 induction bs with
 | nil=>simpa [bva] using h
 | cons b bs ih=>simp only [bva,List.map_cons,List.cons_append,zeC,toD] at ih ⊢;rw [ih]
theorem chunks1 (bs:List UInt8):zag 1 bs.length (bs.map fun b=>D.int .u8 (b.toNat:Int))=bcs bs:=by
 induction bs with
 | nil=>rfl
 | cons b bs ih=>simp only [List.length_cons,List.map_cons,zag,bcs,List.take_succ_cons,List.take_zero,List.drop_succ_cons,List.drop_zero] at ih ⊢;rw [ih];rfl
theorem zmu {σ:List zh} {b:List UInt8} {n:Nat} (hn:n<18446744073709551616) (hb:b.length<=1073741824) {K:KT} (hK:K (.own σ.length (bcs (b++zdi n))) (σ++[.tok 1 (b++zdi n).length])) :
  zp Tryz.prog zcX [.d (.slice (bcs b)),.d (.int .u64 n)] σ K:=by
 refine zcl zpa.is rfl (fun s => [σ.length+1]) fun hl _=>zpa.goes ?_
 have hlen:=zJ hn
 simp only [zpr,iN,bT,bF,eN,gF,gT,gFm,gTm,fl,nfl,gFl,gTl,il,cp,orC,anC,cA,bP,z1,z2,m1,List.map_cons,List.map_nil]
 simp only [dm,dm1]
 refine c_form hn ?_
 have hp:=zqu hlen.2
 have hsp:zaa (List.replicate 10 (AV.d (D.int .u8 0))) 0 (zhn (zdi n))=zhn (zdi n):=by
  simp only [zaa,Nat.zero_add,List.take_zero,List.nil_append]
  rw [hp,List.drop_eq_nil_of_le (by simp),List.append_nil]
 have hrep : [AV.d (D.int .u8 0),.d (.int .u8 0),.d (.int .u8 0),.d (.int .u8 0),.d (.int .u8 0),.d (.int .u8 0),.d (.int .u8 0),.d (.int .u8 0),.d (.int .u8 0),.d (.int .u8 0)]=List.replicate 10 (AV.d (D.int .u8 0)):=rfl
 (refine gq9 ?_;try with_reducible exact True.intro)
 refine ⟨hp,by omega,pad10_sc _,by omega,by omega,by omega,by omega,?_⟩
 refine zyT zgs ?_
 rw [hrep,hsp]
 (refine gq9 ?_;try with_reducible exact True.intro)
 have htk:zeC (List.take ((zdi n).length-Int.toNat 0) (List.drop (Int.toNat 0) (zhn (zdi n))))=some ((zdi n).map fun b=>D.int .u8 (b.toNat:Int)):=by
  simp only [Int.toNat_zero,Nat.sub_zero,List.drop_zero]
  rw [zhn,List.take_left' (by simp [bva])]
  have:=toDs_bva (zdi n) [] [] rfl
  simpa using this
 simp only [Int.toNat_zero] at htk
 rw [htk,if_pos (by omega),Nat.sub_zero]
 simp only [Option.map_some,chunks1]
 refine ⟨zgs,zgs,by simp [bcs];omega,?_⟩
 rw [zsB]
 refine endsK_own rfl hl (by omega) (by rw [zx];rfl) ?_
 simpa [bcs] using hK
theorem gq11 {P Q:Prop} (h:Q) (e:P=Q:=by simp -dsimp only [↓zeU, ↓zaA, ↓zbp, ↓zeV, ↓zeO, ↓zeM, ↓zeP, ↓zeN, ↓zbu, ↓zbq, ↓zbv, ↓zbr, ↓zeQ, ↓zbo, ↓zbw, ↓zbs, ↓zbx, ↓zbt, ↓zeL, ↓zeT, ↓zbn, ↓zby, ↓zeG, ↓zeF, ↓zeK,iN,bT,bF,eN, ↓zco, ↓unC, ↓zX, ↓zM, ↓zN, ↓zQ, ↓zZ, ↓zai, ↓zcv, ↓zaf, ↓zaS, ↓zV, ↓zl, ↓zm, ↓zbg, ↓ze, ↓zae, ↓zC, ↓zaM, ↓zaT, ↓zd, ↓zA, ↓zr, ↓zD, ↓zao, ↓zcY, ↓zdn, ↓zap, ↓zaw, ↓zaN, ↓zaZ, ↓zbk, ↓zw, ↓zaj, ↓zO, ↓zE, ↓zY,zdr,zbm,zbl,unA,zdo,bnd,zdL,zab,zS,zdI,dm,dm1,zG,zak,zdZ,zdY,zH,Q0,Q1,Q2,Q3,Q4,Q5,zW,zx,zy,zT,zL,Q6,Q7,Q8,Q9,Q10,Q11,Q12,Q13,Q14,Nat.reduceAdd,Q15,Int.reduceToNat,Q16,Q17,Q18,Q19,Q20,reduceIte,Q21,Q22,zmR];rfl):P:=e.mpr h
theorem zxA {σ:List zh} {b x:List UInt8} (hx:x.length<=1073741824) (hb:b.length<=1073741800) {K:KT} (hK:K (.own σ.length (bcs (b++(zdi x.length++x)))) (σ++[.tok 1 (b++(zdi x.length++x)).length])) :
  zp Tryz.prog zgf [.d (.slice (bcs b)),.d (.slice (bcs x))] σ K:=by
 refine zcl zmy.is rfl (fun s => [σ.length]) fun hl _=>zmy.goes ?_
 have hlen:=zJ (n:=x.length) (by omega)
 (refine gq11 ?_;try with_reducible exact True.intro)
 have hw:IntKind.u64.wrap ((bcs x).length:Int)=(x.length:Int):=by rw [zdm (by simp [bcs];omega)];simp [bcs]
 rw [hw]
 refine zmu (by omega) (by omega) ?_
 (refine gq9 ?_;try with_reducible exact True.intro)
 refine ⟨zgs,by simp [bcs];omega,by simp [bcs],?_⟩
 rw [zsB]
 simp only [List.append_assoc]
 refine zlf hl rfl ?_
 simpa [bcs,Nat.add_assoc] using hK
theorem div128 {m:Nat} (h:m<18446744073709551616):IntKind.u64.wrap ((m:Int).tdiv 128)=((m / 128:Nat):Int):=by
 rw [show ((m:Int).tdiv 128)=((m / 128:Nat):Int) from by rw [Int.tdiv_eq_ediv_of_nonneg (by omega)];rfl,zdm (by omega)]
theorem rem128 (m:Nat):(m:Int).tmod 128=((m % 128:Nat):Int):=by
 rw [Int.tmod_eq_emod_of_nonneg (by omega)];rfl
theorem gq12 {P Q:Prop} (h:Q) (e:P=Q:=by simp -dsimp only [↓zeU, ↓zaA, ↓zbp, ↓zeV, ↓zeO, ↓zeM, ↓zeP, ↓zeN, ↓zbu, ↓zbq, ↓zbv, ↓zbr, ↓zeQ, ↓zbo, ↓zbw, ↓zbs, ↓zbx, ↓zbt, ↓zeL, ↓zeT, ↓zbn, ↓zby, ↓zeG, ↓zeF, ↓zeK,iN,bT,bF,eN, ↓zco, ↓unC, ↓zX, ↓zM, ↓zN, ↓zQ, ↓zZ, ↓zai, ↓zcv, ↓zaf, ↓zaS, ↓zV, ↓zl, ↓zm, ↓zbg, ↓ze, ↓zae, ↓zC, ↓zaM, ↓zaT, ↓zd, ↓zA, ↓zr, ↓zD, ↓zao, ↓zcY, ↓zdn, ↓zap, ↓zaw, ↓zaN, ↓zaZ, ↓zbk, ↓zw, ↓zaj, ↓zO, ↓zE, ↓zY,zdr,zbm,zbl,unA,zdo,bnd,zdL,zab,zS,zdI,dm,dm1,zG,zak,zdZ,zdY,zH,Q0,Q1,Q2,Q3,Q4,Q5,zW,zx,zy,zT,zL,Q6,Q7,Q8,Q9,Q10,Q11,Q12,Q13,Q14,Nat.reduceAdd,Q15,Int.reduceToNat,Q16,Q17,Q18,Q19,Q20,reduceIte,Q21,Q22,zti];rfl):P:=e.mpr h
theorem gq13 {P Q:Prop} (h:Q) (e:P=Q:=by simp -dsimp only [↓zeU, ↓zaA, ↓zbp, ↓zeV, ↓zeO, ↓zeM, ↓zeP, ↓zeN, ↓zbu, ↓zbq, ↓zbv, ↓zbr, ↓zeQ, ↓zbo, ↓zbw, ↓zbs, ↓zbx, ↓zbt, ↓zeL, ↓zeT, ↓zbn, ↓zby, ↓zeG, ↓zeF, ↓zeK,iN,bT,bF,eN, ↓zco, ↓unC, ↓zX, ↓zM, ↓zN, ↓zQ, ↓zZ, ↓zai, ↓zcv, ↓zaf, ↓zaS, ↓zV, ↓zl, ↓zm, ↓zbg, ↓ze, ↓zae, ↓zC, ↓zaM, ↓zaT, ↓zd, ↓zA, ↓zr, ↓zD, ↓zao, ↓zcY, ↓zdn, ↓zap, ↓zaw, ↓zaN, ↓zaZ, ↓zbk, ↓zw, ↓zaj, ↓zO, ↓zE, ↓zY,zdr,zbm,zbl,unA,zdo,bnd,zdL,zab,zS,zdI,dm,dm1,zG,zak,zdZ,zdY,zH,Q0,Q1,Q2,Q3,Q4,Q5,zW,zx,zy,zT,zL,Q6,Q7,Q8,Q9,Q10,Q11,Q12,Q13,Q14,Nat.reduceAdd,Q15,Int.reduceToNat,Q16,Q17,Q18,Q19,Q20,reduceIte,Q21,Q22,rep,zaa,zeC,toD,zag,Q23,Q24,Q25,Q26,Q27,Q28,Nat.reduceLeDiff,Q29,Nat.reduceSub,Q30,Q31,Q32,sc,Q33,Q34,Q35];rfl):P:=e.mpr h
theorem zdy {σ:List zh} {b:List UInt8} {n:Nat} (hn:n<18446744073709551616) (hb:b.length<=1073741824) {K:KT} (hK:K (.own σ.length (bcs (b++zdi n))) (σ++[.tok 1 (b++zdi n).length])) :
  zp Tryz.prog zbj [.d (.slice (bcs b)),.d (.int .u64 n)] σ K:=by
 refine zcl zsS.is rfl (fun s => [σ.length]) fun hl _=>zsS.goes ?_
 have hlen:=zJ hn
 (refine gq12 ?_;try with_reducible exact True.intro)
 refine ⟨zgs,by simp,by simp [bcs];omega,?_⟩
 refine zo 10 (fun k vs s => ∃ (m:Nat) (pre:List UInt8),k=pre.length/\vs = [.d (.int .u64 m),.own σ.length (bcs (b++pre))]/\zdi n=pre++zdi m/\m<18446744073709551616 ∧
   s = σ++[.tok 1 (b++pre).length]) ⟨n,[],rfl,by simp,rfl,hn,by simp [bcs]⟩ ?_
 rintro k vs s hk ⟨m,pre,rfl,rfl,hpre,hm,rfl⟩
 have hm10:=zJ hm
 have hpl:pre.length+(zdi m).length<=10:=by rw [hpre] at hlen;simpa using hlen.2
 (refine gq9 ?_;try with_reducible exact True.intro)
 refine zaE (fun h => ?_) (fun h => ?_)
 all_goals (try (refine gq10 h ?_;try with_reducible exact True.intro))
 ·have h1:¬ m<128:=by simp at h;omega
  have h2:=zys h1
  rw [h2] at hpl
  simp at hpl
  have hc:IntKind.u8.wrap (IntKind.u8.wrap ((m:Int).tmod 128)+128)=((UInt8.ofNat (m % 128+128)).toNat:Int):=by
   rw [rem128,ztM (by omega),zoD (by omega),show ((m % 128:Nat):Int)+128=((m % 128+128:Nat):Int) from rfl]
   exact ztM (by omega)
  (refine gq13 ?_;try with_reducible exact True.intro)
  rw [hc,div128 hm]
  refine ⟨by decide,by simp,by simp [bcs];omega,by simp [bcs],by decide,?_⟩
  refine zas.next (by omega) ⟨m / 128,pre++[UInt8.ofNat (m % 128+128)],by simp,?_,by rw [hpre,h2];simp,by omega,?_⟩
  ·simp [bcs,zcz]
  ·simp [bcs,Nat.add_assoc]
 ·have h1:m<128:=by simp at h;omega
  have h2:=zop h1
  (refine gq13 ?_;try with_reducible exact True.intro)
  rw [byte_wrap h1]
  refine ⟨by simp,by simp [bcs];omega,by simp [bcs],?_⟩
  rw [hpre,h2] at hK
  have e:bcs (b++pre)++[[D.int .u8 ((UInt8.ofNat m).toNat:Int)]]=bcs (b++(pre++[UInt8.ofNat m])):=by simp [bcs,zcz]
  rw [e]
  refine zlf hl rfl ?_
  simpa [bcs,Nat.add_assoc] using hK
theorem gq14 {P Q:Prop} (h:Q) (e:P=Q:=by simp -dsimp only [↓zeU, ↓zaA, ↓zbp, ↓zeV, ↓zeO, ↓zeM, ↓zeP, ↓zeN, ↓zbu, ↓zbq, ↓zbv, ↓zbr, ↓zeQ, ↓zbo, ↓zbw, ↓zbs, ↓zbx, ↓zbt, ↓zeL, ↓zeT, ↓zbn, ↓zby, ↓zeG, ↓zeF, ↓zeK,iN,bT,bF,eN, ↓zco, ↓unC, ↓zX, ↓zM, ↓zN, ↓zQ, ↓zZ, ↓zai, ↓zcv, ↓zaf, ↓zaS, ↓zV, ↓zl, ↓zm, ↓zbg, ↓ze, ↓zae, ↓zC, ↓zaM, ↓zaT, ↓zd, ↓zA, ↓zr, ↓zD, ↓zao, ↓zcY, ↓zdn, ↓zap, ↓zaw, ↓zaN, ↓zaZ, ↓zbk, ↓zw, ↓zaj, ↓zO, ↓zE, ↓zY,zdr,zbm,zbl,unA,zdo,bnd,zdL,zab,zS,zdI,dm,dm1,zG,zak,zdZ,zdY,zH,Q0,Q1,Q2,Q3,Q4,Q5,zW,zx,zy,zT,zL,Q6,Q7,Q8,Q9,Q10,Q11,Q12,Q13,Q14,Nat.reduceAdd,Q15,Int.reduceToNat,Q16,Q17,Q18,Q19,Q20,reduceIte,Q21,Q22,zpj];rfl):P:=e.mpr h
theorem zhB {σ:List zh} {b x:List UInt8} (hx:x.length<=1073741824) (hb:b.length<=1073741800) {K:KT} (hK:K (.own σ.length (bcs (b++(zdi x.length++x)))) (σ++[.tok 1 (b++(zdi x.length++x)).length])) :
  zp Tryz.prog zbD [.d (.slice (bcs b)),.d (.slice (bcs x))] σ K:=by
 refine zcl zoZ.is rfl (fun s => [σ.length]) fun hl _=>zoZ.goes ?_
 have hlen:=zJ (n:=x.length) (by omega)
 (refine gq14 ?_;try with_reducible exact True.intro)
 have hw:IntKind.u64.wrap ((bcs x).length:Int)=(x.length:Int):=by rw [zdm (by simp [bcs];omega)];simp [bcs]
 rw [hw]
 refine zdy (by omega) (by omega) ?_
 (refine gq9 ?_;try with_reducible exact True.intro)
 refine ⟨zgs,by simp [bcs];omega,by simp [bcs],?_⟩
 rw [zsB]
 simp only [List.append_assoc]
 refine zlf hl rfl ?_
 simpa [bcs,Nat.add_assoc] using hK
end Go.Proofs.YtfgbofkdhfjegaaGreat
