/- Contracts of the small functions over bytes. -/
import Derived.Test.YtfjommppajkpoaaGreatSh
import Derived.Test.YtfjommppajkpoaaGreatAwEnd
import Derived.Test.YtfjommppajkpoaaGreatCl1
set_option linter.all false
set_option maxRecDepth 100000
namespace Go.Proofs.YtfjommppajkpoaaGreat
open Go.AW
theorem zvi {σ : List zg} {es : List (List D)} {K : KT} (he : ∀ e ∈ es,e.length = 1) (hK : K (.exact es) σ) : zq Tryz.prog zcS [.d (.slice es)] σ K := by
 refine zct zeV.is rfl (fun _ => []) fun hl _ => zeV.goes ?_
 simp only [zeZ,iN,bT,bF,eN,gF,gT,gFm,gTm,fl,nfl,gFl,gTl,il,cp,orC,anC,cA,bP,z1,z2,m1,List.map_cons,List.map_nil,zau,zei,zco,bnd,zeF,zB]
 refine ⟨rfl,trivial,by omega,by omega,by omega,he, ?_⟩
 simp only [zsv,zvy,getL,zqQ,zbY,zcH]
 simpa using ⟨hl,hK⟩
def bva (bs : List UInt8) : List AV := bs.map fun b => .d (.int .u8 (b.toNat : Int))
def zfp (bs : List UInt8) : List AV := bva bs ++ List.replicate (10 - bs.length) (.d (.int .u8 0))
theorem zsX {pre : List UInt8} {b : UInt8} (h : pre.length < 10) : zX (zfp pre) pre.length [.d (.int .u8 (b.toNat : Int))] = zfp (pre ++ [b]) := by
 simp only [zX,zfp,bva,List.length_singleton]
 obtain ⟨m,hm⟩ : ∃ m, 10 - pre.length = m + 1 := ⟨9 - pre.length,by omega⟩
 rw [hm,List.take_left' (by simp),List.drop_append]
 simp only [List.length_map]
 rw [List.drop_eq_nil_of_le (by simp),show pre.length + 1 - pre.length = 1 by omega,List.replicate_succ]
 simp [List.length_append,show 10 - (pre.length + 1) = m by omega]
theorem byte_or (m : Nat) : IntKind.u8.wrap ↑(BitVec.ofInt IntKind.u8.bits (IntKind.u8.wrap (m : Int)) ||| BitVec.ofInt IntKind.u8.bits 128).toNat = ((UInt8.ofNat (m % 128 + 128)).toNat : Int) := by
 rw [wrap8 m,show IntKind.u8.bits = 8 from rfl,or128 ⟨m % 256,by omega⟩,zqo (by simp; omega),zlJ (by omega)]
 simp
theorem byte_wrap {m : Nat} (h : m < 128) : IntKind.u8.wrap (m : Int) = ((UInt8.ofNat m).toNat : Int) := by
 rw [zqo (by omega),zlJ (by omega)]
theorem shr7 (m : Nat) : ((m : Int)).fdiv (2 ^ min 7 IntKind.u64.bits) = ((m / 128 : Nat) : Int) := by
 rw [show min 7 IntKind.u64.bits = 7 from rfl,Int.fdiv_eq_ediv_of_nonneg _ (by decide)]
 rfl
theorem znq {pre : List UInt8} (h : pre.length ≤ 10) : (zfp pre).length = 10 := by simp [zfp,bva]; omega
theorem pad10_sc (pre : List UInt8) : (zfp pre).all sc = true := by
 simp only [zfp,bva,List.all_append,List.all_map,List.all_replicate,Bool.and_eq_true]
 refine ⟨by simp [sc], ?_⟩
 cases 10 - pre.length <;> simp [sc]
theorem pad10_d (pre : List UInt8) : zfp pre = ((pre.map fun b => D.int .u8 (b.toNat : Int)) ++ List.replicate (10 - pre.length) (D.int .u8 0)).map AV.d := by
 simp [zfp,bva,Function.comp_def]
theorem gq9 {P Q : Prop} (h : Q) (e : P = Q := by simp -dsimp only [↓zgr, ↓zaF, ↓zbL, ↓zgt, ↓zgn, ↓zgl, ↓zgo, ↓zgm, ↓zbR, ↓zbN, ↓zbS, ↓zbO, ↓zgp, ↓zbJ, ↓zbT, ↓zbP, ↓zbU, ↓zbQ, ↓zgj, ↓zgq, ↓zbI, ↓zbX, ↓zgc, ↓zgb, ↓zgi,iN,bT,bF,eN, ↓zdN, ↓unC, ↓zac, ↓zQ, ↓zR, ↓zV, ↓zak, ↓zau, ↓zco, ↓zag, ↓zaJ, ↓zW, ↓zp, ↓zo, ↓zbF, ↓zl, ↓zan, ↓zF, ↓zaM, ↓zaW, ↓ze, ↓zC, ↓zu, ↓zy, ↓zav, ↓zdr, ↓zdU, ↓zat, ↓zaB, ↓zaU, ↓zbk, ↓zbv, ↓zD, ↓zaq, ↓zS, ↓zE, ↓zam,zeb,zbD,zbB,unA,zei,bnd,zeF,zai,zP,zeE,dm,dm1,zB,zal,zfg,zff,zx,Q0,Q1,Q2,Q3,Q4,Q5,zZ,zh,zm,zT,zN,Q6,Q7,Q8,Q9,Q10,Q11,Q12,Q13,Q14,Nat.reduceAdd,Q15,Int.reduceToNat,Q16,Q17,Q18,Q19,Q20,reduceIte,Q21,Q22]; rfl) : P := e.mpr h
theorem gq10 {A P Q : Prop} (a : A) (h : Q) (e : A → P = Q := by intro a; simp -dsimp only [↓zgr, ↓zaF, ↓zbL, ↓zgt, ↓zgn, ↓zgl, ↓zgo, ↓zgm, ↓zbR, ↓zbN, ↓zbS, ↓zbO, ↓zgp, ↓zbJ, ↓zbT, ↓zbP, ↓zbU, ↓zbQ, ↓zgj, ↓zgq, ↓zbI, ↓zbX, ↓zgc, ↓zgb, ↓zgi,iN,bT,bF,eN, ↓zdN, ↓unC, ↓zac, ↓zQ, ↓zR, ↓zV, ↓zak, ↓zau, ↓zco, ↓zag, ↓zaJ, ↓zW, ↓zp, ↓zo, ↓zbF, ↓zl, ↓zan, ↓zF, ↓zaM, ↓zaW, ↓ze, ↓zC, ↓zu, ↓zy, ↓zav, ↓zdr, ↓zdU, ↓zat, ↓zaB, ↓zaU, ↓zbk, ↓zbv, ↓zD, ↓zaq, ↓zS, ↓zE, ↓zam,zeb,zbD,zbB,unA,zei,bnd,zeF,zai,zP,zeE,dm,dm1,zB,zal,zfg,zff,zx,Q0,Q1,Q2,Q3,Q4,Q5,zZ,zh,zm,zT,zN,Q6,Q7,Q8,Q9,Q10,Q11,Q12,Q13,Q14,Nat.reduceAdd,Q15,Int.reduceToNat,Q16,Q17,Q18,Q19,Q20,reduceIte,Q21,Q22,a]; rfl) : P := (e a).mpr h
theorem c_form {σ : List zg} {n : Nat} (hn : n < 18446744073709551616) {K : KT} (hK : K (.tup [.agg (zfp (zcn n)), .d (.int .i64 (zcn n).length)]) σ) : zq Tryz.prog zkL [.d (.int .u64 n)] σ K := by
 refine zec e_codec_form fun hl => ?_
 simp only [zpV,iN,bT,bF,eN,zW]
 have hlen := zt hn
 refine zw 10 (fun k vs s => ∃ (m : Nat) (pre : List UInt8),k = pre.length ∧ vs = [.d (.int .u64 m), .d (.int .i64 k)] ∧ zcn n = pre ++ zcn m ∧ m < 18446744073709551616 ∧
   s = σ ++ [.box (zfp []), .box (zfp pre)]) ⟨n, [],rfl,rfl,rfl,hn,by simp [zfp,bva]⟩ ?_
 rintro k vs s hk ⟨m,pre,rfl,rfl,hpre,hm,rfl⟩
 have hm10 := zt hm
 have hpl : pre.length + (zcn m).length ≤ 10 := by rw [hpre] at hlen; simpa using hlen.2
 have hp : pre.length < 10 := by omega
 (refine gq9 ?_; try with_reducible exact True.intro)
 refine zaG (fun h => ?_) (fun h => ?_)
 all_goals (try (refine gq10 h ?_; try with_reducible exact True.intro))
 ·have h1 : ¬ m < 128 := by simp at h; omega
  have h2 := zuB h1
  rw [h2] at hpl
  simp at hpl
  rw [byte_or,shr7,zsX hp]
  refine ⟨by omega,by omega,by have := znq (pre := pre) (by omega); omega,by simp [sc],by omega, ?_⟩
  refine zap.next (by omega) ⟨m / 128,pre ++ [UInt8.ofNat (m % 128 + 128)],by simp, ?_,by rw [hpre,h2]; simp,by omega,rfl⟩
  rw [zJ (by omega) (by omega)]
  rfl
 ·have h1 : m < 128 := by simp at h; omega
  have h2 := zly h1
  rw [byte_wrap h1,zsX hp]
  have hp1 : (zfp (pre ++ [UInt8.ofNat m])).length = 10 := znq (by simp; omega)
  have hsp : zX (zfp []) 0 (zfp (pre ++ [UInt8.ofNat m])) = zfp (pre ++ [UInt8.ofNat m]) := by
   simp only [zX,Nat.zero_add,List.take_zero,List.nil_append]
   rw [hp1,List.drop_eq_nil_of_le (by simp [zfp,bva]),List.append_nil]
  have htk : List.take 10 (List.drop 0 (zfp (pre ++ [UInt8.ofNat m]))) = zfp (pre ++ [UInt8.ofNat m]) := by
   rw [List.drop_zero,List.take_of_length_le (by omega)]
  rw [htk,hsp,htk,if_pos (by omega)]
  refine ⟨by omega,by omega,by have := znq (pre := pre) (by omega); omega,by simp [sc],by omega,by omega,by simp [zfp,bva],pad10_sc _, ?_⟩
  have hd : dmT (zbY [.agg (zfp (pre ++ [UInt8.ofNat m])), .d (.int .i64 (IntKind.i64.wrap (↑pre.length + 1)))]) = .tup [.agg (zfp (pre ++ [UInt8.ofNat m])), .d (.int .i64 (zcn n).length)] := by
   rw [zJ (by omega) (by omega),hpre,h2]
   simp only [zbY,dmT,List.map_cons,List.map_nil,dm,pad10_d,map_dm1_d,dm1]
   rw [List.length_append]; rfl
  refine zoZ ?_ hl ?_
  ·rw [hd,pad10_d,zbf]
   intro c hc
   rcases List.mem_cons.1 hc with rfl | hc
   ·exact .agg _ (low_map_d _ _)
   ·have hc := List.mem_singleton.1 hc
    subst hc; exact .d _
  ·rw [hd]; rw [hpre,h2] at hK ⊢; exact hK
theorem toDs_bva (bs : List UInt8) (r : List AV) (ds : List D) (h : zfc r = some ds) : zfc (bva bs ++ r) = some ((bs.map fun b => D.int .u8 (b.toNat : Int)) ++ ds) := by
 induction bs with
 | nil => simpa [bva] using h
 | cons b bs ih => simp only [bva,List.map_cons,List.cons_append,zfc,toD] at ih ⊢; rw [ih]
theorem chunks1 (bs : List UInt8) : zah 1 bs.length (bs.map fun b => D.int .u8 (b.toNat : Int)) = bcs bs := by
 induction bs with
 | nil => rfl
 | cons b bs ih => simp only [List.length_cons,List.map_cons,zah,bcs,List.take_succ_cons,List.take_zero,List.drop_succ_cons,List.drop_zero] at ih ⊢; rw [ih]; rfl
theorem zjF {σ : List zg} {b : List UInt8} {n : Nat} (hn : n < 18446744073709551616) (hb : b.length ≤ 1073741824) {K : KT} (hK : K (.own σ.length (bcs (b ++ zcn n))) (σ ++ [.tok 1 (b ++ zcn n).length])) :
  zq Tryz.prog zce [.d (.slice (bcs b)), .d (.int .u64 n)] σ K := by
 refine zct zmh.is rfl (fun s => [σ.length + 1]) fun hl _ => zmh.goes ?_
 have hlen := zt hn
 simp only [zms,iN,bT,bF,eN,gF,gT,gFm,gTm,fl,nfl,gFl,gTl,il,cp,orC,anC,cA,bP,z1,z2,m1,List.map_cons,List.map_nil]
 simp only [dm,dm1]
 refine c_form hn ?_
 have hp := znq hlen.2
 have hsp : zX (List.replicate 10 (AV.d (D.int .u8 0))) 0 (zfp (zcn n)) = zfp (zcn n) := by
  simp only [zX,Nat.zero_add,List.take_zero,List.nil_append]
  rw [hp,List.drop_eq_nil_of_le (by simp),List.append_nil]
 have hrep : [AV.d (D.int .u8 0), .d (.int .u8 0), .d (.int .u8 0), .d (.int .u8 0), .d (.int .u8 0), .d (.int .u8 0), .d (.int .u8 0), .d (.int .u8 0), .d (.int .u8 0), .d (.int .u8 0)] = List.replicate 10 (AV.d (D.int .u8 0)) := rfl
 (refine gq9 ?_; try with_reducible exact True.intro)
 refine ⟨hp,by omega,pad10_sc _,by omega,by omega,by omega,by omega, ?_⟩
 refine zvi zgs ?_
 rw [hrep,hsp]
 (refine gq9 ?_; try with_reducible exact True.intro)
 have htk : zfc (List.take ((zcn n).length - Int.toNat 0) (List.drop (Int.toNat 0) (zfp (zcn n)))) = some ((zcn n).map fun b => D.int .u8 (b.toNat : Int)) := by
  simp only [Int.toNat_zero,Nat.sub_zero,List.drop_zero]
  rw [zfp,List.take_left' (by simp [bva])]
  have := toDs_bva (zcn n) [] [] rfl
  simpa using this
 simp only [Int.toNat_zero] at htk
 rw [htk,if_pos (by omega),Nat.sub_zero]
 simp only [Option.map_some,chunks1]
 refine ⟨zgs,zgs,by simp [bcs]; omega, ?_⟩
 rw [zpl]
 refine endsK_own rfl hl (by omega) (by rw [zh]; rfl) ?_
 simpa [bcs] using hK
theorem gq11 {P Q : Prop} (h : Q) (e : P = Q := by simp -dsimp only [↓zgr, ↓zaF, ↓zbL, ↓zgt, ↓zgn, ↓zgl, ↓zgo, ↓zgm, ↓zbR, ↓zbN, ↓zbS, ↓zbO, ↓zgp, ↓zbJ, ↓zbT, ↓zbP, ↓zbU, ↓zbQ, ↓zgj, ↓zgq, ↓zbI, ↓zbX, ↓zgc, ↓zgb, ↓zgi,iN,bT,bF,eN, ↓zdN, ↓unC, ↓zac, ↓zQ, ↓zR, ↓zV, ↓zak, ↓zau, ↓zco, ↓zag, ↓zaJ, ↓zW, ↓zp, ↓zo, ↓zbF, ↓zl, ↓zan, ↓zF, ↓zaM, ↓zaW, ↓ze, ↓zC, ↓zu, ↓zy, ↓zav, ↓zdr, ↓zdU, ↓zat, ↓zaB, ↓zaU, ↓zbk, ↓zbv, ↓zD, ↓zaq, ↓zS, ↓zE, ↓zam,zeb,zbD,zbB,unA,zei,bnd,zeF,zai,zP,zeE,dm,dm1,zB,zal,zfg,zff,zx,Q0,Q1,Q2,Q3,Q4,Q5,zZ,zh,zm,zT,zN,Q6,Q7,Q8,Q9,Q10,Q11,Q12,Q13,Q14,Nat.reduceAdd,Q15,Int.reduceToNat,Q16,Q17,Q18,Q19,Q20,reduceIte,Q21,Q22,zjX]; rfl) : P := e.mpr h
theorem ztQ {σ : List zg} {b x : List UInt8} (hx : x.length ≤ 1073741824) (hb : b.length ≤ 1073741800) {K : KT} (hK : K (.own σ.length (bcs (b ++ (zcn x.length ++ x)))) (σ ++ [.tok 1 (b ++ (zcn x.length ++ x)).length])) :
  zq Tryz.prog zeo [.d (.slice (bcs b)), .d (.slice (bcs x))] σ K := by
 refine zct zjJ.is rfl (fun s => [σ.length]) fun hl _ => zjJ.goes ?_
 have hlen := zt (n := x.length) (by omega)
 (refine gq11 ?_; try with_reducible exact True.intro)
 have hw : IntKind.u64.wrap ((bcs x).length : Int) = (x.length : Int) := by rw [zci (by simp [bcs]; omega)]; simp [bcs]
 rw [hw]
 refine zjF (by omega) (by omega) ?_
 (refine gq9 ?_; try with_reducible exact True.intro)
 refine ⟨zgs,by simp [bcs]; omega,by simp [bcs], ?_⟩
 rw [zpl]
 simp only [List.append_assoc]
 refine ziH hl rfl ?_
 simpa [bcs,Nat.add_assoc] using hK
theorem div128 {m : Nat} (h : m < 18446744073709551616) : IntKind.u64.wrap ((m : Int).tdiv 128) = ((m / 128 : Nat) : Int) := by
 rw [show ((m : Int).tdiv 128) = ((m / 128 : Nat) : Int) from by rw [Int.tdiv_eq_ediv_of_nonneg (by omega)]; rfl,zci (by omega)]
theorem rem128 (m : Nat) : (m : Int).tmod 128 = ((m % 128 : Nat) : Int) := by
 rw [Int.tmod_eq_emod_of_nonneg (by omega)]; rfl
theorem gq12 {P Q : Prop} (h : Q) (e : P = Q := by simp -dsimp only [↓zgr, ↓zaF, ↓zbL, ↓zgt, ↓zgn, ↓zgl, ↓zgo, ↓zgm, ↓zbR, ↓zbN, ↓zbS, ↓zbO, ↓zgp, ↓zbJ, ↓zbT, ↓zbP, ↓zbU, ↓zbQ, ↓zgj, ↓zgq, ↓zbI, ↓zbX, ↓zgc, ↓zgb, ↓zgi,iN,bT,bF,eN, ↓zdN, ↓unC, ↓zac, ↓zQ, ↓zR, ↓zV, ↓zak, ↓zau, ↓zco, ↓zag, ↓zaJ, ↓zW, ↓zp, ↓zo, ↓zbF, ↓zl, ↓zan, ↓zF, ↓zaM, ↓zaW, ↓ze, ↓zC, ↓zu, ↓zy, ↓zav, ↓zdr, ↓zdU, ↓zat, ↓zaB, ↓zaU, ↓zbk, ↓zbv, ↓zD, ↓zaq, ↓zS, ↓zE, ↓zam,zeb,zbD,zbB,unA,zei,bnd,zeF,zai,zP,zeE,dm,dm1,zB,zal,zfg,zff,zx,Q0,Q1,Q2,Q3,Q4,Q5,zZ,zh,zm,zT,zN,Q6,Q7,Q8,Q9,Q10,Q11,Q12,Q13,Q14,Nat.reduceAdd,Q15,Int.reduceToNat,Q16,Q17,Q18,Q19,Q20,reduceIte,Q21,Q22,zpQ]; rfl) : P := e.mpr h
theorem gq13 {P Q : Prop} (h : Q) (e : P = Q := by simp -dsimp only [↓zgr, ↓zaF, ↓zbL, ↓zgt, ↓zgn, ↓zgl, ↓zgo, ↓zgm, ↓zbR, ↓zbN, ↓zbS, ↓zbO, ↓zgp, ↓zbJ, ↓zbT, ↓zbP, ↓zbU, ↓zbQ, ↓zgj, ↓zgq, ↓zbI, ↓zbX, ↓zgc, ↓zgb, ↓zgi,iN,bT,bF,eN, ↓zdN, ↓unC, ↓zac, ↓zQ, ↓zR, ↓zV, ↓zak, ↓zau, ↓zco, ↓zag, ↓zaJ, ↓zW, ↓zp, ↓zo, ↓zbF, ↓zl, ↓zan, ↓zF, ↓zaM, ↓zaW, ↓ze, ↓zC, ↓zu, ↓zy, ↓zav, ↓zdr, ↓zdU, ↓zat, ↓zaB, ↓zaU, ↓zbk, ↓zbv, ↓zD, ↓zaq, ↓zS, ↓zE, ↓zam,zeb,zbD,zbB,unA,zei,bnd,zeF,zai,zP,zeE,dm,dm1,zB,zal,zfg,zff,zx,Q0,Q1,Q2,Q3,Q4,Q5,zZ,zh,zm,zT,zN,Q6,Q7,Q8,Q9,Q10,Q11,Q12,Q13,Q14,Nat.reduceAdd,Q15,Int.reduceToNat,Q16,Q17,Q18,Q19,Q20,reduceIte,Q21,Q22,rep,zX,zfc,toD,zah,Q23,Q24,Q25,Q26,Q27,Q28,Nat.reduceLeDiff,Q29,Nat.reduceSub,Q30,Q31,Q32,sc,Q33,Q34,Q35]; rfl) : P := e.mpr h
theorem zcx {σ : List zg} {b : List UInt8} {n : Nat} (hn : n < 18446744073709551616) (hb : b.length ≤ 1073741824) {K : KT} (hK : K (.own σ.length (bcs (b ++ zcn n))) (σ ++ [.tok 1 (b ++ zcn n).length])) :
  zq Tryz.prog zaC [.d (.slice (bcs b)), .d (.int .u64 n)] σ K := by
 refine zct zpA.is rfl (fun s => [σ.length]) fun hl _ => zpA.goes ?_
 have hlen := zt hn
 (refine gq12 ?_; try with_reducible exact True.intro)
 refine ⟨zgs,by simp,by simp [bcs]; omega, ?_⟩
 refine zw 10 (fun k vs s => ∃ (m : Nat) (pre : List UInt8),k = pre.length ∧ vs = [.d (.int .u64 m), .own σ.length (bcs (b ++ pre))] ∧ zcn n = pre ++ zcn m ∧ m < 18446744073709551616 ∧
   s = σ ++ [.tok 1 (b ++ pre).length]) ⟨n, [],rfl,by simp,rfl,hn,by simp [bcs]⟩ ?_
 rintro k vs s hk ⟨m,pre,rfl,rfl,hpre,hm,rfl⟩
 have hm10 := zt hm
 have hpl : pre.length + (zcn m).length ≤ 10 := by rw [hpre] at hlen; simpa using hlen.2
 (refine gq9 ?_; try with_reducible exact True.intro)
 refine zaG (fun h => ?_) (fun h => ?_)
 all_goals (try (refine gq10 h ?_; try with_reducible exact True.intro))
 ·have h1 : ¬ m < 128 := by simp at h; omega
  have h2 := zuB h1
  rw [h2] at hpl
  simp at hpl
  have hc : IntKind.u8.wrap (IntKind.u8.wrap ((m : Int).tmod 128) + 128) = ((UInt8.ofNat (m % 128 + 128)).toNat : Int) := by
   rw [rem128,zqo (by omega),zlJ (by omega),show ((m % 128 : Nat) : Int) + 128 = ((m % 128 + 128 : Nat) : Int) from rfl]
   exact zqo (by omega)
  (refine gq13 ?_; try with_reducible exact True.intro)
  rw [hc,div128 hm]
  refine ⟨by decide,by simp,by simp [bcs]; omega,by simp [bcs],by decide, ?_⟩
  refine zap.next (by omega) ⟨m / 128,pre ++ [UInt8.ofNat (m % 128 + 128)],by simp, ?_,by rw [hpre,h2]; simp,by omega, ?_⟩
  ·simp [bcs,zbA]
  ·simp [bcs,Nat.add_assoc]
 ·have h1 : m < 128 := by simp at h; omega
  have h2 := zly h1
  (refine gq13 ?_; try with_reducible exact True.intro)
  rw [byte_wrap h1]
  refine ⟨by simp,by simp [bcs]; omega,by simp [bcs], ?_⟩
  rw [hpre,h2] at hK
  have e : bcs (b ++ pre) ++ [[D.int .u8 ((UInt8.ofNat m).toNat : Int)]] = bcs (b ++ (pre ++ [UInt8.ofNat m])) := by simp [bcs,zbA]
  rw [e]
  refine ziH hl rfl ?_
  simpa [bcs,Nat.add_assoc] using hK
theorem gq14 {P Q : Prop} (h : Q) (e : P = Q := by simp -dsimp only [↓zgr, ↓zaF, ↓zbL, ↓zgt, ↓zgn, ↓zgl, ↓zgo, ↓zgm, ↓zbR, ↓zbN, ↓zbS, ↓zbO, ↓zgp, ↓zbJ, ↓zbT, ↓zbP, ↓zbU, ↓zbQ, ↓zgj, ↓zgq, ↓zbI, ↓zbX, ↓zgc, ↓zgb, ↓zgi,iN,bT,bF,eN, ↓zdN, ↓unC, ↓zac, ↓zQ, ↓zR, ↓zV, ↓zak, ↓zau, ↓zco, ↓zag, ↓zaJ, ↓zW, ↓zp, ↓zo, ↓zbF, ↓zl, ↓zan, ↓zF, ↓zaM, ↓zaW, ↓ze, ↓zC, ↓zu, ↓zy, ↓zav, ↓zdr, ↓zdU, ↓zat, ↓zaB, ↓zaU, ↓zbk, ↓zbv, ↓zD, ↓zaq, ↓zS, ↓zE, ↓zam,zeb,zbD,zbB,unA,zei,bnd,zeF,zai,zP,zeE,dm,dm1,zB,zal,zfg,zff,zx,Q0,Q1,Q2,Q3,Q4,Q5,zZ,zh,zm,zT,zN,Q6,Q7,Q8,Q9,Q10,Q11,Q12,Q13,Q14,Nat.reduceAdd,Q15,Int.reduceToNat,Q16,Q17,Q18,Q19,Q20,reduceIte,Q21,Q22,zmm]; rfl) : P := e.mpr h
theorem zfA {σ : List zg} {b x : List UInt8} (hx : x.length ≤ 1073741824) (hb : b.length ≤ 1073741800) {K : KT} (hK : K (.own σ.length (bcs (b ++ (zcn x.length ++ x)))) (σ ++ [.tok 1 (b ++ (zcn x.length ++ x)).length])) :
  zq Tryz.prog zaR [.d (.slice (bcs b)), .d (.slice (bcs x))] σ K := by
 refine zct zmg.is rfl (fun s => [σ.length]) fun hl _ => zmg.goes ?_
 have hlen := zt (n := x.length) (by omega)
 (refine gq14 ?_; try with_reducible exact True.intro)
 have hw : IntKind.u64.wrap ((bcs x).length : Int) = (x.length : Int) := by rw [zci (by simp [bcs]; omega)]; simp [bcs]
 rw [hw]
 refine zcx (by omega) (by omega) ?_
 (refine gq9 ?_; try with_reducible exact True.intro)
 refine ⟨zgs,by simp [bcs]; omega,by simp [bcs], ?_⟩
 rw [zpl]
 simp only [List.append_assoc]
 refine ziH hl rfl ?_
 simpa [bcs,Nat.add_assoc] using hK
end Go.Proofs.YtfjommppajkpoaaGreat
