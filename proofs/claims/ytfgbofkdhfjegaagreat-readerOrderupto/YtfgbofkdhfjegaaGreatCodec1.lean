/- Contracts of the small functions over bytes. -/
import Derived.Test.YtfgbofkdhfjegaaGreatSh
import Derived.Test.YtfgbofkdhfjegaaGreatAwEnd
import Derived.Test.YtfgbofkdhfjegaaGreatCl1
set_option linter.all false
set_option maxRecDepth 100000
namespace Go.Proofs.YtfgbofkdhfjegaaGreat
open Go.AW
theorem zwf {σ : List zh} {es : List (List D)} {K : KT} (he : ∀ e ∈ es,e.length = 1) (hK : K (.exact es) σ) : zr Tryz.prog zdG [.d (.slice es)] σ K := by
 refine zce zga.is rfl (fun _ => []) fun hl _ => zga.goes ?_
 simp only [zgh,iN,bT,bF,eN,gF,gT,gFm,gTm,fl,nfl,gFl,gTl,il,cp,orC,anC,cA,bP,z1,z2,m1,List.map_cons,List.map_nil,zax,zdy,zcB,bnd,zec,zC]
 refine ⟨rfl,trivial,by omega,by omega,by omega,he, ?_⟩
 simp only [zni,zua,getL,zrj,zcC,zdh]
 simpa using ⟨hl,hK⟩
theorem zlb {σ : List zh} {a b : List UInt8} {K : KT} (hK : K (.d (.bool (a == b))) σ) : zr Tryz.prog zfX [.d (.slice (bcs a)), .d (.slice (bcs b))] σ K := by
 refine zfJ zvW fun hl => ?_
 simp only [zpB,iN,bT,bF,eN,gF,gT,gFm,gTm,fl,nfl,gFl,gTl,il,cp,orC,anC,cA,bP,z1,z2,m1,List.map_cons,List.map_nil,zal,zdy,ziw,zcF,zdz,zbn,zC]
 exact zsE (by simp [zeD,dmT,dm,dm1,zcC]) hl hK
def bva (bs : List UInt8) : List AV := bs.map fun b => .d (.int .u8 (b.toNat : Int))
def zgt (bs : List UInt8) : List AV := bva bs ++ List.replicate (10 - bs.length) (.d (.int .u8 0))
theorem zuf {pre : List UInt8} {b : UInt8} (h : pre.length < 10) : zZ (zgt pre) pre.length [.d (.int .u8 (b.toNat : Int))] = zgt (pre ++ [b]) := by
 simp only [zZ,zgt,bva,List.length_singleton]
 obtain ⟨m,hm⟩ : ∃ m, 10 - pre.length = m + 1 := ⟨9 - pre.length,by omega⟩
 rw [hm,List.take_left' (by simp),List.drop_append]
 simp only [List.length_map]
 rw [List.drop_eq_nil_of_le (by simp),show pre.length + 1 - pre.length = 1 by omega,List.replicate_succ]
 simp [List.length_append,show 10 - (pre.length + 1) = m by omega]
theorem byte_or (m : Nat) : IntKind.u8.wrap ↑(BitVec.ofInt IntKind.u8.bits (IntKind.u8.wrap (m : Int)) ||| BitVec.ofInt IntKind.u8.bits 128).toNat = ((UInt8.ofNat (m % 128 + 128)).toNat : Int) := by
 rw [wrap8 m,show IntKind.u8.bits = 8 from rfl,or128 ⟨m % 256,by omega⟩,zry (by simp; omega),zmV (by omega)]
 simp
theorem byte_wrap {m : Nat} (h : m < 128) : IntKind.u8.wrap (m : Int) = ((UInt8.ofNat m).toNat : Int) := by
 rw [zry (by omega),zmV (by omega)]
theorem shr7 (m : Nat) : ((m : Int)).fdiv (2 ^ min 7 IntKind.u64.bits) = ((m / 128 : Nat) : Int) := by
 rw [show min 7 IntKind.u64.bits = 7 from rfl,Int.fdiv_eq_ediv_of_nonneg _ (by decide)]
 rfl
theorem zoJ {pre : List UInt8} (h : pre.length ≤ 10) : (zgt pre).length = 10 := by simp [zgt,bva]; omega
theorem pad10_sc (pre : List UInt8) : (zgt pre).all sc = true := by
 simp only [zgt,bva,List.all_append,List.all_map,List.all_replicate,Bool.and_eq_true]
 refine ⟨by simp [sc], ?_⟩
 cases 10 - pre.length <;> simp [sc]
theorem pad10_d (pre : List UInt8) : zgt pre = ((pre.map fun b => D.int .u8 (b.toNat : Int)) ++ List.replicate (10 - pre.length) (D.int .u8 0)).map AV.d := by
 simp [zgt,bva,Function.comp_def]
theorem gq9 {P Q : Prop} (h : Q) (e : P = Q := by simp -dsimp only [↓zeY, ↓zaC, ↓zbz, ↓zeZ, ↓zeU, ↓zeS, ↓zeV, ↓zeT, ↓zbE, ↓zbA, ↓zbF, ↓zbB, ↓zeW, ↓zby, ↓zbG, ↓zbC, ↓zbH, ↓zbD, ↓zeR, ↓zeX, ↓zbx, ↓zbJ, ↓zeP, ↓zeO, ↓zeQ,iN,bT,bF,eN, ↓zcF, ↓unC, ↓zW, ↓zK, ↓zL, ↓zN, ↓zad, ↓zax, ↓zcB, ↓zal, ↓zbj, ↓zQ, ↓zo, ↓zj, ↓zbr, ↓zg, ↓zai, ↓zH, ↓zaM, ↓zaV, ↓ze, ↓zD, ↓zw, ↓zB, ↓zao, ↓zdb, ↓zdx, ↓zaq, ↓zay, ↓zaU, ↓zbd, ↓zbl, ↓zu, ↓zan, ↓zM, ↓zE, ↓zaa,zdz,zbq,zbn,unA,zdy,bnd,zec,zaf,zS,zdY,dm,dm1,zC,zah,zen,zem,zP,Q0,Q1,Q2,Q3,Q4,Q5,zT,zx,zy,zO,zI,Q6,Q7,Q8,Q9,Q10,Q11,Q12,Q13,Q14,Nat.reduceAdd,Q15,Int.reduceToNat,Q16,Q17,Q18,Q19,Q20,reduceIte,Q21,Q22]; rfl) : P := e.mpr h
theorem gq10 {A P Q : Prop} (a : A) (h : Q) (e : A → P = Q := by intro a; simp -dsimp only [↓zeY, ↓zaC, ↓zbz, ↓zeZ, ↓zeU, ↓zeS, ↓zeV, ↓zeT, ↓zbE, ↓zbA, ↓zbF, ↓zbB, ↓zeW, ↓zby, ↓zbG, ↓zbC, ↓zbH, ↓zbD, ↓zeR, ↓zeX, ↓zbx, ↓zbJ, ↓zeP, ↓zeO, ↓zeQ,iN,bT,bF,eN, ↓zcF, ↓unC, ↓zW, ↓zK, ↓zL, ↓zN, ↓zad, ↓zax, ↓zcB, ↓zal, ↓zbj, ↓zQ, ↓zo, ↓zj, ↓zbr, ↓zg, ↓zai, ↓zH, ↓zaM, ↓zaV, ↓ze, ↓zD, ↓zw, ↓zB, ↓zao, ↓zdb, ↓zdx, ↓zaq, ↓zay, ↓zaU, ↓zbd, ↓zbl, ↓zu, ↓zan, ↓zM, ↓zE, ↓zaa,zdz,zbq,zbn,unA,zdy,bnd,zec,zaf,zS,zdY,dm,dm1,zC,zah,zen,zem,zP,Q0,Q1,Q2,Q3,Q4,Q5,zT,zx,zy,zO,zI,Q6,Q7,Q8,Q9,Q10,Q11,Q12,Q13,Q14,Nat.reduceAdd,Q15,Int.reduceToNat,Q16,Q17,Q18,Q19,Q20,reduceIte,Q21,Q22,a]; rfl) : P := (e a).mpr h
theorem c_form {σ : List zh} {n : Nat} (hn : n < 18446744073709551616) {K : KT} (hK : K (.tup [.agg (zgt (zcR n)), .d (.int .i64 (zcR n).length)]) σ) : zr Tryz.prog zlX [.d (.int .u64 n)] σ K := by
 refine zgk e_codec_form fun hl => ?_
 simp only [zrf,iN,bT,bF,eN,zQ]
 have hlen := zF hn
 refine zt 10 (fun k vs s => ∃ (m : Nat) (pre : List UInt8),k = pre.length ∧ vs = [.d (.int .u64 m), .d (.int .i64 k)] ∧ zcR n = pre ++ zcR m ∧ m < 18446744073709551616 ∧
   s = σ ++ [.box (zgt []), .box (zgt pre)]) ⟨n, [],rfl,rfl,rfl,hn,by simp [zgt,bva]⟩ ?_
 rintro k vs s hk ⟨m,pre,rfl,rfl,hpre,hm,rfl⟩
 have hm10 := zF hm
 have hpl : pre.length + (zcR m).length ≤ 10 := by rw [hpre] at hlen; simpa using hlen.2
 have hp : pre.length < 10 := by omega
 (refine gq9 ?_; try with_reducible exact True.intro)
 refine zaL (fun h => ?_) (fun h => ?_)
 all_goals (try (refine gq10 h ?_; try with_reducible exact True.intro))
 ·have h1 : ¬ m < 128 := by simp at h; omega
  have h2 := zvF h1
  rw [h2] at hpl
  simp at hpl
  rw [byte_or,shr7,zuf hp]
  refine ⟨by omega,by omega,by have := zoJ (pre := pre) (by omega); omega,by simp [sc],by omega, ?_⟩
  refine zaF.next (by omega) ⟨m / 128,pre ++ [UInt8.ofNat (m % 128 + 128)],by simp, ?_,by rw [hpre,h2]; simp,by omega,rfl⟩
  rw [zU (by omega) (by omega)]
  rfl
 ·have h1 : m < 128 := by simp at h; omega
  have h2 := zmJ h1
  rw [byte_wrap h1,zuf hp]
  have hp1 : (zgt (pre ++ [UInt8.ofNat m])).length = 10 := zoJ (by simp; omega)
  have hsp : zZ (zgt []) 0 (zgt (pre ++ [UInt8.ofNat m])) = zgt (pre ++ [UInt8.ofNat m]) := by
   simp only [zZ,Nat.zero_add,List.take_zero,List.nil_append]
   rw [hp1,List.drop_eq_nil_of_le (by simp [zgt,bva]),List.append_nil]
  have htk : List.take 10 (List.drop 0 (zgt (pre ++ [UInt8.ofNat m]))) = zgt (pre ++ [UInt8.ofNat m]) := by
   rw [List.drop_zero,List.take_of_length_le (by omega)]
  rw [htk,hsp,htk,if_pos (by omega)]
  refine ⟨by omega,by omega,by have := zoJ (pre := pre) (by omega); omega,by simp [sc],by omega,by omega,by simp [zgt,bva],pad10_sc _, ?_⟩
  have hd : dmT (zcC [.agg (zgt (pre ++ [UInt8.ofNat m])), .d (.int .i64 (IntKind.i64.wrap (↑pre.length + 1)))]) = .tup [.agg (zgt (pre ++ [UInt8.ofNat m])), .d (.int .i64 (zcR n).length)] := by
   rw [zU (by omega) (by omega),hpre,h2]
   simp only [zcC,dmT,List.map_cons,List.map_nil,dm,pad10_d,map_dm1_d,dm1]
   rw [List.length_append]; rfl
  refine zqn ?_ hl ?_
  ·rw [hd,pad10_d,zbT]
   intro c hc
   rcases List.mem_cons.1 hc with rfl | hc
   ·exact .agg _ (zsm _ _)
   ·have hc := List.mem_singleton.1 hc
    subst hc; exact .d _
  ·rw [hd]; rw [hpre,h2] at hK ⊢; exact hK
theorem toDs_bva (bs : List UInt8) (r : List AV) (ds : List D) (h : zeF r = some ds) : zeF (bva bs ++ r) = some ((bs.map fun b => D.int .u8 (b.toNat : Int)) ++ ds) := by
 induction bs with
 | nil => simpa [bva] using h
 | cons b bs ih => simp only [bva,List.map_cons,List.cons_append,zeF,toD] at ih ⊢; rw [ih]
theorem chunks1 (bs : List UInt8) : zaj 1 bs.length (bs.map fun b => D.int .u8 (b.toNat : Int)) = bcs bs := by
 induction bs with
 | nil => rfl
 | cons b bs ih => simp only [List.length_cons,List.map_cons,zaj,bcs,List.take_succ_cons,List.take_zero,List.drop_succ_cons,List.drop_zero] at ih ⊢; rw [ih]; rfl
theorem zld {σ : List zh} {b : List UInt8} {n : Nat} (hn : n < 18446744073709551616) (hb : b.length ≤ 1073741824) {K : KT} (hK : K (.own σ.length (bcs (b ++ zcR n))) (σ ++ [.tok 1 (b ++ zcR n).length])) :
  zr Tryz.prog zcG [.d (.slice (bcs b)), .d (.int .u64 n)] σ K := by
 refine zce znq.is rfl (fun s => [σ.length + 1]) fun hl _ => znq.goes ?_
 have hlen := zF hn
 simp only [znG,iN,bT,bF,eN,gF,gT,gFm,gTm,fl,nfl,gFl,gTl,il,cp,orC,anC,cA,bP,z1,z2,m1,List.map_cons,List.map_nil]
 simp only [dm,dm1]
 refine c_form hn ?_
 have hp := zoJ hlen.2
 have hsp : zZ (List.replicate 10 (AV.d (D.int .u8 0))) 0 (zgt (zcR n)) = zgt (zcR n) := by
  simp only [zZ,Nat.zero_add,List.take_zero,List.nil_append]
  rw [hp,List.drop_eq_nil_of_le (by simp),List.append_nil]
 have hrep : [AV.d (D.int .u8 0), .d (.int .u8 0), .d (.int .u8 0), .d (.int .u8 0), .d (.int .u8 0), .d (.int .u8 0), .d (.int .u8 0), .d (.int .u8 0), .d (.int .u8 0), .d (.int .u8 0)] = List.replicate 10 (AV.d (D.int .u8 0)) := rfl
 (refine gq9 ?_; try with_reducible exact True.intro)
 refine ⟨hp,by omega,pad10_sc _,by omega,by omega,by omega,by omega, ?_⟩
 refine zwf zgd ?_
 rw [hrep,hsp]
 (refine gq9 ?_; try with_reducible exact True.intro)
 have htk : zeF (List.take ((zcR n).length - Int.toNat 0) (List.drop (Int.toNat 0) (zgt (zcR n)))) = some ((zcR n).map fun b => D.int .u8 (b.toNat : Int)) := by
  simp only [Int.toNat_zero,Nat.sub_zero,List.drop_zero]
  rw [zgt,List.take_left' (by simp [bva])]
  have := toDs_bva (zcR n) [] [] rfl
  simpa using this
 simp only [Int.toNat_zero] at htk
 rw [htk,if_pos (by omega),Nat.sub_zero]
 simp only [Option.map_some,chunks1]
 refine ⟨zgd,zgd,by simp [bcs]; omega, ?_⟩
 rw [zqz]
 refine endsK_own rfl hl (by omega) (by rw [zx]; rfl) ?_
 simpa [bcs] using hK
theorem gq11 {P Q : Prop} (h : Q) (e : P = Q := by simp -dsimp only [↓zeY, ↓zaC, ↓zbz, ↓zeZ, ↓zeU, ↓zeS, ↓zeV, ↓zeT, ↓zbE, ↓zbA, ↓zbF, ↓zbB, ↓zeW, ↓zby, ↓zbG, ↓zbC, ↓zbH, ↓zbD, ↓zeR, ↓zeX, ↓zbx, ↓zbJ, ↓zeP, ↓zeO, ↓zeQ,iN,bT,bF,eN, ↓zcF, ↓unC, ↓zW, ↓zK, ↓zL, ↓zN, ↓zad, ↓zax, ↓zcB, ↓zal, ↓zbj, ↓zQ, ↓zo, ↓zj, ↓zbr, ↓zg, ↓zai, ↓zH, ↓zaM, ↓zaV, ↓ze, ↓zD, ↓zw, ↓zB, ↓zao, ↓zdb, ↓zdx, ↓zaq, ↓zay, ↓zaU, ↓zbd, ↓zbl, ↓zu, ↓zan, ↓zM, ↓zE, ↓zaa,zdz,zbq,zbn,unA,zdy,bnd,zec,zaf,zS,zdY,dm,dm1,zC,zah,zen,zem,zP,Q0,Q1,Q2,Q3,Q4,Q5,zT,zx,zy,zO,zI,Q6,Q7,Q8,Q9,Q10,Q11,Q12,Q13,Q14,Nat.reduceAdd,Q15,Int.reduceToNat,Q16,Q17,Q18,Q19,Q20,reduceIte,Q21,Q22,zlu]; rfl) : P := e.mpr h
theorem zuU {σ : List zh} {b x : List UInt8} (hx : x.length ≤ 1073741824) (hb : b.length ≤ 1073741800) {K : KT} (hK : K (.own σ.length (bcs (b ++ (zcR x.length ++ x)))) (σ ++ [.tok 1 (b ++ (zcR x.length ++ x)).length])) :
  zr Tryz.prog zfr [.d (.slice (bcs b)), .d (.slice (bcs x))] σ K := by
 refine zce zli.is rfl (fun s => [σ.length]) fun hl _ => zli.goes ?_
 have hlen := zF (n := x.length) (by omega)
 (refine gq11 ?_; try with_reducible exact True.intro)
 have hw : IntKind.u64.wrap ((bcs x).length : Int) = (x.length : Int) := by rw [zcU (by simp [bcs]; omega)]; simp [bcs]
 rw [hw]
 refine zld (by omega) (by omega) ?_
 (refine gq9 ?_; try with_reducible exact True.intro)
 refine ⟨zgd,by simp [bcs]; omega,by simp [bcs], ?_⟩
 rw [zqz]
 simp only [List.append_assoc]
 refine zjT hl rfl ?_
 simpa [bcs,Nat.add_assoc] using hK
theorem div128 {m : Nat} (h : m < 18446744073709551616) : IntKind.u64.wrap ((m : Int).tdiv 128) = ((m / 128 : Nat) : Int) := by
 rw [show ((m : Int).tdiv 128) = ((m / 128 : Nat) : Int) from by rw [Int.tdiv_eq_ediv_of_nonneg (by omega)]; rfl,zcU (by omega)]
theorem rem128 (m : Nat) : (m : Int).tmod 128 = ((m % 128 : Nat) : Int) := by
 rw [Int.tmod_eq_emod_of_nonneg (by omega)]; rfl
theorem gq12 {P Q : Prop} (h : Q) (e : P = Q := by simp -dsimp only [↓zeY, ↓zaC, ↓zbz, ↓zeZ, ↓zeU, ↓zeS, ↓zeV, ↓zeT, ↓zbE, ↓zbA, ↓zbF, ↓zbB, ↓zeW, ↓zby, ↓zbG, ↓zbC, ↓zbH, ↓zbD, ↓zeR, ↓zeX, ↓zbx, ↓zbJ, ↓zeP, ↓zeO, ↓zeQ,iN,bT,bF,eN, ↓zcF, ↓unC, ↓zW, ↓zK, ↓zL, ↓zN, ↓zad, ↓zax, ↓zcB, ↓zal, ↓zbj, ↓zQ, ↓zo, ↓zj, ↓zbr, ↓zg, ↓zai, ↓zH, ↓zaM, ↓zaV, ↓ze, ↓zD, ↓zw, ↓zB, ↓zao, ↓zdb, ↓zdx, ↓zaq, ↓zay, ↓zaU, ↓zbd, ↓zbl, ↓zu, ↓zan, ↓zM, ↓zE, ↓zaa,zdz,zbq,zbn,unA,zdy,bnd,zec,zaf,zS,zdY,dm,dm1,zC,zah,zen,zem,zP,Q0,Q1,Q2,Q3,Q4,Q5,zT,zx,zy,zO,zI,Q6,Q7,Q8,Q9,Q10,Q11,Q12,Q13,Q14,Nat.reduceAdd,Q15,Int.reduceToNat,Q16,Q17,Q18,Q19,Q20,reduceIte,Q21,Q22,zrb]; rfl) : P := e.mpr h
theorem gq13 {P Q : Prop} (h : Q) (e : P = Q := by simp -dsimp only [↓zeY, ↓zaC, ↓zbz, ↓zeZ, ↓zeU, ↓zeS, ↓zeV, ↓zeT, ↓zbE, ↓zbA, ↓zbF, ↓zbB, ↓zeW, ↓zby, ↓zbG, ↓zbC, ↓zbH, ↓zbD, ↓zeR, ↓zeX, ↓zbx, ↓zbJ, ↓zeP, ↓zeO, ↓zeQ,iN,bT,bF,eN, ↓zcF, ↓unC, ↓zW, ↓zK, ↓zL, ↓zN, ↓zad, ↓zax, ↓zcB, ↓zal, ↓zbj, ↓zQ, ↓zo, ↓zj, ↓zbr, ↓zg, ↓zai, ↓zH, ↓zaM, ↓zaV, ↓ze, ↓zD, ↓zw, ↓zB, ↓zao, ↓zdb, ↓zdx, ↓zaq, ↓zay, ↓zaU, ↓zbd, ↓zbl, ↓zu, ↓zan, ↓zM, ↓zE, ↓zaa,zdz,zbq,zbn,unA,zdy,bnd,zec,zaf,zS,zdY,dm,dm1,zC,zah,zen,zem,zP,Q0,Q1,Q2,Q3,Q4,Q5,zT,zx,zy,zO,zI,Q6,Q7,Q8,Q9,Q10,Q11,Q12,Q13,Q14,Nat.reduceAdd,Q15,Int.reduceToNat,Q16,Q17,Q18,Q19,Q20,reduceIte,Q21,Q22,rep,zZ,zeF,toD,zaj,Q23,Q24,Q25,Q26,Q27,Q28,Nat.reduceLeDiff,Q29,Nat.reduceSub,Q30,Q31,Q32,sc,Q33,Q34,Q35]; rfl) : P := e.mpr h
theorem zde {σ : List zh} {b : List UInt8} {n : Nat} (hn : n < 18446744073709551616) (hb : b.length ≤ 1073741824) {K : KT} (hK : K (.own σ.length (bcs (b ++ zcR n))) (σ ++ [.tok 1 (b ++ zcR n).length])) :
  zr Tryz.prog zaZ [.d (.slice (bcs b)), .d (.int .u64 n)] σ K := by
 refine zce zqR.is rfl (fun s => [σ.length]) fun hl _ => zqR.goes ?_
 have hlen := zF hn
 (refine gq12 ?_; try with_reducible exact True.intro)
 refine ⟨zgd,by simp,by simp [bcs]; omega, ?_⟩
 refine zt 10 (fun k vs s => ∃ (m : Nat) (pre : List UInt8),k = pre.length ∧ vs = [.d (.int .u64 m), .own σ.length (bcs (b ++ pre))] ∧ zcR n = pre ++ zcR m ∧ m < 18446744073709551616 ∧
   s = σ ++ [.tok 1 (b ++ pre).length]) ⟨n, [],rfl,by simp,rfl,hn,by simp [bcs]⟩ ?_
 rintro k vs s hk ⟨m,pre,rfl,rfl,hpre,hm,rfl⟩
 have hm10 := zF hm
 have hpl : pre.length + (zcR m).length ≤ 10 := by rw [hpre] at hlen; simpa using hlen.2
 (refine gq9 ?_; try with_reducible exact True.intro)
 refine zaL (fun h => ?_) (fun h => ?_)
 all_goals (try (refine gq10 h ?_; try with_reducible exact True.intro))
 ·have h1 : ¬ m < 128 := by simp at h; omega
  have h2 := zvF h1
  rw [h2] at hpl
  simp at hpl
  have hc : IntKind.u8.wrap (IntKind.u8.wrap ((m : Int).tmod 128) + 128) = ((UInt8.ofNat (m % 128 + 128)).toNat : Int) := by
   rw [rem128,zry (by omega),zmV (by omega),show ((m % 128 : Nat) : Int) + 128 = ((m % 128 + 128 : Nat) : Int) from rfl]
   exact zry (by omega)
  (refine gq13 ?_; try with_reducible exact True.intro)
  rw [hc,div128 hm]
  refine ⟨by decide,by simp,by simp [bcs]; omega,by simp [bcs],by decide, ?_⟩
  refine zaF.next (by omega) ⟨m / 128,pre ++ [UInt8.ofNat (m % 128 + 128)],by simp, ?_,by rw [hpre,h2]; simp,by omega, ?_⟩
  ·simp [bcs,zco]
  ·simp [bcs,Nat.add_assoc]
 ·have h1 : m < 128 := by simp at h; omega
  have h2 := zmJ h1
  (refine gq13 ?_; try with_reducible exact True.intro)
  rw [byte_wrap h1]
  refine ⟨by simp,by simp [bcs]; omega,by simp [bcs], ?_⟩
  rw [hpre,h2] at hK
  have e : bcs (b ++ pre) ++ [[D.int .u8 ((UInt8.ofNat m).toNat : Int)]] = bcs (b ++ (pre ++ [UInt8.ofNat m])) := by simp [bcs,zco]
  rw [e]
  refine zjT hl rfl ?_
  simpa [bcs,Nat.add_assoc] using hK
theorem gq14 {P Q : Prop} (h : Q) (e : P = Q := by simp -dsimp only [↓zeY, ↓zaC, ↓zbz, ↓zeZ, ↓zeU, ↓zeS, ↓zeV, ↓zeT, ↓zbE, ↓zbA, ↓zbF, ↓zbB, ↓zeW, ↓zby, ↓zbG, ↓zbC, ↓zbH, ↓zbD, ↓zeR, ↓zeX, ↓zbx, ↓zbJ, ↓zeP, ↓zeO, ↓zeQ,iN,bT,bF,eN, ↓zcF, ↓unC, ↓zW, ↓zK, ↓zL, ↓zN, ↓zad, ↓zax, ↓zcB, ↓zal, ↓zbj, ↓zQ, ↓zo, ↓zj, ↓zbr, ↓zg, ↓zai, ↓zH, ↓zaM, ↓zaV, ↓ze, ↓zD, ↓zw, ↓zB, ↓zao, ↓zdb, ↓zdx, ↓zaq, ↓zay, ↓zaU, ↓zbd, ↓zbl, ↓zu, ↓zan, ↓zM, ↓zE, ↓zaa,zdz,zbq,zbn,unA,zdy,bnd,zec,zaf,zS,zdY,dm,dm1,zC,zah,zen,zem,zP,Q0,Q1,Q2,Q3,Q4,Q5,zT,zx,zy,zO,zI,Q6,Q7,Q8,Q9,Q10,Q11,Q12,Q13,Q14,Nat.reduceAdd,Q15,Int.reduceToNat,Q16,Q17,Q18,Q19,Q20,reduceIte,Q21,Q22,znz]; rfl) : P := e.mpr h
theorem zgB {σ : List zh} {b x : List UInt8} (hx : x.length ≤ 1073741824) (hb : b.length ≤ 1073741800) {K : KT} (hK : K (.own σ.length (bcs (b ++ (zcR x.length ++ x)))) (σ ++ [.tok 1 (b ++ (zcR x.length ++ x)).length])) :
  zr Tryz.prog zbm [.d (.slice (bcs b)), .d (.slice (bcs x))] σ K := by
 refine zce znp.is rfl (fun s => [σ.length]) fun hl _ => znp.goes ?_
 have hlen := zF (n := x.length) (by omega)
 (refine gq14 ?_; try with_reducible exact True.intro)
 have hw : IntKind.u64.wrap ((bcs x).length : Int) = (x.length : Int) := by rw [zcU (by simp [bcs]; omega)]; simp [bcs]
 rw [hw]
 refine zde (by omega) (by omega) ?_
 (refine gq9 ?_; try with_reducible exact True.intro)
 refine ⟨zgd,by simp [bcs]; omega,by simp [bcs], ?_⟩
 rw [zqz]
 simp only [List.append_assoc]
 refine zjT hl rfl ?_
 simpa [bcs,Nat.add_assoc] using hK
end Go.Proofs.YtfgbofkdhfjegaaGreat
