/- Contracts of the small functions over bytes. -/
import Derived.Test.YtfgbofkdhfjegaaGreatSh
import Derived.Test.YtfgbofkdhfjegaaGreatAwEnd
import Derived.Test.YtfgbofkdhfjegaaGreatCl1
set_option linter.all false
set_option maxRecDepth 100000
namespace Go.Proofs.YtfgbofkdhfjegaaGreat
open Go.AW
theorem zwo {σ : List zh} {es : List (List D)} {K : KT} (he : ∀ e ∈ es,e.length = 1) (hK : K (.exact es) σ) : zp Tryz.prog zdD [.d (.slice es)] σ K := by
 refine zbB zgr.is rfl (fun _ => []) fun hl _ => zgr.goes ?_
 simp only [zgx,iN,bT,bF,eN,gF,gT,gFm,gTm,fl,nfl,gFl,gTl,il,cp,orC,anC,cA,bP,z1,z2,m1,List.map_cons,List.map_nil,zaz,zdL,zcK,bnd,zeq,zD]
 refine ⟨rfl,trivial,by omega,by omega,by omega,he, ?_⟩
 simp only [zmN,zuh,getL,zrq,zcC,zdb]
 simpa using ⟨hl,hK⟩
theorem zib {σ : List zh} {a b : List UInt8} {K : KT} (hK : K (.d (.bool (a == b))) σ) : zp Tryz.prog zeD [.d (.slice (bcs a)), .d (.slice (bcs b))] σ K := by
 refine zfY zwe fun hl => ?_
 simp only [zpJ,iN,bT,bF,eN,gF,gT,gFm,gTm,fl,nfl,gFl,gTl,il,cp,orC,anC,cA,bP,z1,z2,m1,List.map_cons,List.map_nil,zar,zdL,zlq,zcJ,zdP,zbC,zD]
 exact zsM (by simp [zeU,dmT,dm,dm1,zcC]) hl hK
def bva (bs : List UInt8) : List AV := bs.map fun b => .d (.int .u8 (b.toNat : Int))
def zgL (bs : List UInt8) : List AV := bva bs ++ List.replicate (10 - bs.length) (.d (.int .u8 0))
theorem zum {pre : List UInt8} {b : UInt8} (h : pre.length < 10) : zab (zgL pre) pre.length [.d (.int .u8 (b.toNat : Int))] = zgL (pre ++ [b]) := by
 simp only [zab,zgL,bva,List.length_singleton]
 obtain ⟨m,hm⟩ : ∃ m, 10 - pre.length = m + 1 := ⟨9 - pre.length,by omega⟩
 rw [hm,List.take_left' (by simp),List.drop_append]
 simp only [List.length_map]
 rw [List.drop_eq_nil_of_le (by simp),show pre.length + 1 - pre.length = 1 by omega,List.replicate_succ]
 simp [List.length_append,show 10 - (pre.length + 1) = m by omega]
theorem byte_or (m : Nat) : IntKind.u8.wrap ↑(BitVec.ofInt IntKind.u8.bits (IntKind.u8.wrap (m : Int)) ||| BitVec.ofInt IntKind.u8.bits 128).toNat = ((UInt8.ofNat (m % 128 + 128)).toNat : Int) := by
 rw [wrap8 m,show IntKind.u8.bits = 8 from rfl,or128 ⟨m % 256,by omega⟩,zrF (by simp; omega),znk (by omega)]
 simp
theorem byte_wrap {m : Nat} (h : m < 128) : IntKind.u8.wrap (m : Int) = ((UInt8.ofNat m).toNat : Int) := by
 rw [zrF (by omega),znk (by omega)]
theorem shr7 (m : Nat) : ((m : Int)).fdiv (2 ^ min 7 IntKind.u64.bits) = ((m / 128 : Nat) : Int) := by
 rw [show min 7 IntKind.u64.bits = 7 from rfl,Int.fdiv_eq_ediv_of_nonneg _ (by decide)]
 rfl
theorem zoV {pre : List UInt8} (h : pre.length ≤ 10) : (zgL pre).length = 10 := by simp [zgL,bva]; omega
theorem pad10_sc (pre : List UInt8) : (zgL pre).all sc = true := by
 simp only [zgL,bva,List.all_append,List.all_map,List.all_replicate,Bool.and_eq_true]
 refine ⟨by simp [sc], ?_⟩
 cases 10 - pre.length <;> simp [sc]
theorem pad10_d (pre : List UInt8) : zgL pre = ((pre.map fun b => D.int .u8 (b.toNat : Int)) ++ List.replicate (10 - pre.length) (D.int .u8 0)).map AV.d := by
 simp [zgL,bva,Function.comp_def]
theorem gq9 {P Q : Prop} (h : Q) (e : P = Q := by simp -dsimp only [↓zfT, ↓zaI, ↓zbP, ↓zfV, ↓zfN, ↓zfL, ↓zfO, ↓zfM, ↓zbU, ↓zbQ, ↓zbV, ↓zbR, ↓zfP, ↓zbN, ↓zbW, ↓zbS, ↓zbX, ↓zbT, ↓zfK, ↓zfQ, ↓zbM, ↓zbY, ↓zfF, ↓zfE, ↓zfH,iN,bT,bF,eN, ↓zcJ, ↓unC, ↓zaa, ↓zK, ↓zL, ↓zO, ↓zaf, ↓zaz, ↓zcK, ↓zar, ↓zbk, ↓zR, ↓zo, ↓zj, ↓zbz, ↓zg, ↓zam, ↓zH, ↓zaV, ↓zbc, ↓ze, ↓zB, ↓zu, ↓zC, ↓zap, ↓zdk, ↓zdO, ↓zav, ↓zaF, ↓zaZ, ↓zbj, ↓zbt, ↓zA, ↓zas, ↓zM, ↓zF, ↓zae,zdP,zbI,zbC,unA,zdL,bnd,zeq,zag,zQ,zek,dm,dm1,zD,zak,zeP,zeO,zP,Q0,Q1,Q2,Q3,Q4,Q5,zW,zt,zy,zN,zJ,Q6,Q7,Q8,Q9,Q10,Q11,Q12,Q13,Q14,Nat.reduceAdd,Q15,Int.reduceToNat,Q16,Q17,Q18,Q19,Q20,reduceIte,Q21,Q22]; rfl) : P := e.mpr h
theorem gq10 {A P Q : Prop} (a : A) (h : Q) (e : A → P = Q := by intro a; simp -dsimp only [↓zfT, ↓zaI, ↓zbP, ↓zfV, ↓zfN, ↓zfL, ↓zfO, ↓zfM, ↓zbU, ↓zbQ, ↓zbV, ↓zbR, ↓zfP, ↓zbN, ↓zbW, ↓zbS, ↓zbX, ↓zbT, ↓zfK, ↓zfQ, ↓zbM, ↓zbY, ↓zfF, ↓zfE, ↓zfH,iN,bT,bF,eN, ↓zcJ, ↓unC, ↓zaa, ↓zK, ↓zL, ↓zO, ↓zaf, ↓zaz, ↓zcK, ↓zar, ↓zbk, ↓zR, ↓zo, ↓zj, ↓zbz, ↓zg, ↓zam, ↓zH, ↓zaV, ↓zbc, ↓ze, ↓zB, ↓zu, ↓zC, ↓zap, ↓zdk, ↓zdO, ↓zav, ↓zaF, ↓zaZ, ↓zbj, ↓zbt, ↓zA, ↓zas, ↓zM, ↓zF, ↓zae,zdP,zbI,zbC,unA,zdL,bnd,zeq,zag,zQ,zek,dm,dm1,zD,zak,zeP,zeO,zP,Q0,Q1,Q2,Q3,Q4,Q5,zW,zt,zy,zN,zJ,Q6,Q7,Q8,Q9,Q10,Q11,Q12,Q13,Q14,Nat.reduceAdd,Q15,Int.reduceToNat,Q16,Q17,Q18,Q19,Q20,reduceIte,Q21,Q22,a]; rfl) : P := (e a).mpr h
theorem c_form {σ : List zh} {n : Nat} (hn : n < 18446744073709551616) {K : KT} (hK : K (.tup [.agg (zgL (zcO n)), .d (.int .i64 (zcO n).length)]) σ) : zp Tryz.prog zmj [.d (.int .u64 n)] σ K := by
 refine zeW e_codec_form fun hl => ?_
 simp only [zrl,iN,bT,bF,eN,zR]
 have hlen := zE hn
 refine zr 10 (fun k vs s => ∃ (m : Nat) (pre : List UInt8),k = pre.length ∧ vs = [.d (.int .u64 m), .d (.int .i64 k)] ∧ zcO n = pre ++ zcO m ∧ m < 18446744073709551616 ∧
   s = σ ++ [.box (zgL []), .box (zgL pre)]) ⟨n, [],rfl,rfl,rfl,hn,by simp [zgL,bva]⟩ ?_
 rintro k vs s hk ⟨m,pre,rfl,rfl,hpre,hm,rfl⟩
 have hm10 := zE hm
 have hpl : pre.length + (zcO m).length ≤ 10 := by rw [hpre] at hlen; simpa using hlen.2
 have hp : pre.length < 10 := by omega
 (refine gq9 ?_; try with_reducible exact True.intro)
 refine zaO (fun h => ?_) (fun h => ?_)
 all_goals (try (refine gq10 h ?_; try with_reducible exact True.intro))
 ·have h1 : ¬ m < 128 := by simp at h; omega
  have h2 := zvM h1
  rw [h2] at hpl
  simp at hpl
  rw [byte_or,shr7,zum hp]
  refine ⟨by omega,by omega,by have := zoV (pre := pre) (by omega); omega,by simp [sc],by omega, ?_⟩
  refine zaG.next (by omega) ⟨m / 128,pre ++ [UInt8.ofNat (m % 128 + 128)],by simp, ?_,by rw [hpre,h2]; simp,by omega,rfl⟩
  rw [zac (by omega) (by omega)]
  rfl
 ·have h1 : m < 128 := by simp at h; omega
  have h2 := zmX h1
  rw [byte_wrap h1,zum hp]
  have hp1 : (zgL (pre ++ [UInt8.ofNat m])).length = 10 := zoV (by simp; omega)
  have hsp : zab (zgL []) 0 (zgL (pre ++ [UInt8.ofNat m])) = zgL (pre ++ [UInt8.ofNat m]) := by
   simp only [zab,Nat.zero_add,List.take_zero,List.nil_append]
   rw [hp1,List.drop_eq_nil_of_le (by simp [zgL,bva]),List.append_nil]
  have htk : List.take 10 (List.drop 0 (zgL (pre ++ [UInt8.ofNat m]))) = zgL (pre ++ [UInt8.ofNat m]) := by
   rw [List.drop_zero,List.take_of_length_le (by omega)]
  rw [htk,hsp,htk,if_pos (by omega)]
  refine ⟨by omega,by omega,by have := zoV (pre := pre) (by omega); omega,by simp [sc],by omega,by omega,by simp [zgL,bva],pad10_sc _, ?_⟩
  have hd : dmT (zcC [.agg (zgL (pre ++ [UInt8.ofNat m])), .d (.int .i64 (IntKind.i64.wrap (↑pre.length + 1)))]) = .tup [.agg (zgL (pre ++ [UInt8.ofNat m])), .d (.int .i64 (zcO n).length)] := by
   rw [zac (by omega) (by omega),hpre,h2]
   simp only [zcC,dmT,List.map_cons,List.map_nil,dm,pad10_d,map_dm1_d,dm1]
   rw [List.length_append]; rfl
  refine zqu ?_ hl ?_
  ·rw [hd,pad10_d,zbL]
   intro c hc
   rcases List.mem_cons.1 hc with rfl | hc
   ·exact .agg _ (zsv _ _)
   ·have hc := List.mem_singleton.1 hc
    subst hc; exact .d _
  ·rw [hd]; rw [hpre,h2] at hK ⊢; exact hK
theorem toDs_bva (bs : List UInt8) (r : List AV) (ds : List D) (h : zfq r = some ds) : zfq (bva bs ++ r) = some ((bs.map fun b => D.int .u8 (b.toNat : Int)) ++ ds) := by
 induction bs with
 | nil => simpa [bva] using h
 | cons b bs ih => simp only [bva,List.map_cons,List.cons_append,zfq,toD] at ih ⊢; rw [ih]
theorem chunks1 (bs : List UInt8) : zaq 1 bs.length (bs.map fun b => D.int .u8 (b.toNat : Int)) = bcs bs := by
 induction bs with
 | nil => rfl
 | cons b bs ih => simp only [List.length_cons,List.map_cons,zaq,bcs,List.take_succ_cons,List.take_zero,List.drop_succ_cons,List.drop_zero] at ih ⊢; rw [ih]; rfl
theorem zlp {σ : List zh} {b : List UInt8} {n : Nat} (hn : n < 18446744073709551616) (hb : b.length ≤ 1073741824) {K : KT} (hK : K (.own σ.length (bcs (b ++ zcO n))) (σ ++ [.tok 1 (b ++ zcO n).length])) :
  zp Tryz.prog zcE [.d (.slice (bcs b)), .d (.int .u64 n)] σ K := by
 refine zbB znD.is rfl (fun s => [σ.length + 1]) fun hl _ => znD.goes ?_
 have hlen := zE hn
 simp only [znR,iN,bT,bF,eN,gF,gT,gFm,gTm,fl,nfl,gFl,gTl,il,cp,orC,anC,cA,bP,z1,z2,m1,List.map_cons,List.map_nil]
 simp only [dm,dm1]
 refine c_form hn ?_
 have hp := zoV hlen.2
 have hsp : zab (List.replicate 10 (AV.d (D.int .u8 0))) 0 (zgL (zcO n)) = zgL (zcO n) := by
  simp only [zab,Nat.zero_add,List.take_zero,List.nil_append]
  rw [hp,List.drop_eq_nil_of_le (by simp),List.append_nil]
 have hrep : [AV.d (D.int .u8 0), .d (.int .u8 0), .d (.int .u8 0), .d (.int .u8 0), .d (.int .u8 0), .d (.int .u8 0), .d (.int .u8 0), .d (.int .u8 0), .d (.int .u8 0), .d (.int .u8 0)] = List.replicate 10 (AV.d (D.int .u8 0)) := rfl
 (refine gq9 ?_; try with_reducible exact True.intro)
 refine ⟨hp,by omega,pad10_sc _,by omega,by omega,by omega,by omega, ?_⟩
 refine zwo zfz ?_
 rw [hrep,hsp]
 (refine gq9 ?_; try with_reducible exact True.intro)
 have htk : zfq (List.take ((zcO n).length - Int.toNat 0) (List.drop (Int.toNat 0) (zgL (zcO n)))) = some ((zcO n).map fun b => D.int .u8 (b.toNat : Int)) := by
  simp only [Int.toNat_zero,Nat.sub_zero,List.drop_zero]
  rw [zgL,List.take_left' (by simp [bva])]
  have := toDs_bva (zcO n) [] [] rfl
  simpa using this
 simp only [Int.toNat_zero] at htk
 rw [htk,if_pos (by omega),Nat.sub_zero]
 simp only [Option.map_some,chunks1]
 refine ⟨zfz,zfz,by simp [bcs]; omega, ?_⟩
 rw [zqH]
 refine endsK_own rfl hl (by omega) (by rw [zt]; rfl) ?_
 simpa [bcs] using hK
theorem gq11 {P Q : Prop} (h : Q) (e : P = Q := by simp -dsimp only [↓zfT, ↓zaI, ↓zbP, ↓zfV, ↓zfN, ↓zfL, ↓zfO, ↓zfM, ↓zbU, ↓zbQ, ↓zbV, ↓zbR, ↓zfP, ↓zbN, ↓zbW, ↓zbS, ↓zbX, ↓zbT, ↓zfK, ↓zfQ, ↓zbM, ↓zbY, ↓zfF, ↓zfE, ↓zfH,iN,bT,bF,eN, ↓zcJ, ↓unC, ↓zaa, ↓zK, ↓zL, ↓zO, ↓zaf, ↓zaz, ↓zcK, ↓zar, ↓zbk, ↓zR, ↓zo, ↓zj, ↓zbz, ↓zg, ↓zam, ↓zH, ↓zaV, ↓zbc, ↓ze, ↓zB, ↓zu, ↓zC, ↓zap, ↓zdk, ↓zdO, ↓zav, ↓zaF, ↓zaZ, ↓zbj, ↓zbt, ↓zA, ↓zas, ↓zM, ↓zF, ↓zae,zdP,zbI,zbC,unA,zdL,bnd,zeq,zag,zQ,zek,dm,dm1,zD,zak,zeP,zeO,zP,Q0,Q1,Q2,Q3,Q4,Q5,zW,zt,zy,zN,zJ,Q6,Q7,Q8,Q9,Q10,Q11,Q12,Q13,Q14,Nat.reduceAdd,Q15,Int.reduceToNat,Q16,Q17,Q18,Q19,Q20,reduceIte,Q21,Q22,zlF]; rfl) : P := e.mpr h
theorem zvb {σ : List zh} {b x : List UInt8} (hx : x.length ≤ 1073741824) (hb : b.length ≤ 1073741800) {K : KT} (hK : K (.own σ.length (bcs (b ++ (zcO x.length ++ x)))) (σ ++ [.tok 1 (b ++ (zcO x.length ++ x)).length])) :
  zp Tryz.prog zfm [.d (.slice (bcs b)), .d (.slice (bcs x))] σ K := by
 refine zbB zlv.is rfl (fun s => [σ.length]) fun hl _ => zlv.goes ?_
 have hlen := zE (n := x.length) (by omega)
 (refine gq11 ?_; try with_reducible exact True.intro)
 have hw : IntKind.u64.wrap ((bcs x).length : Int) = (x.length : Int) := by rw [zcQ (by simp [bcs]; omega)]; simp [bcs]
 rw [hw]
 refine zlp (by omega) (by omega) ?_
 (refine gq9 ?_; try with_reducible exact True.intro)
 refine ⟨zfz,by simp [bcs]; omega,by simp [bcs], ?_⟩
 rw [zqH]
 simp only [List.append_assoc]
 refine zkg hl rfl ?_
 simpa [bcs,Nat.add_assoc] using hK
theorem div128 {m : Nat} (h : m < 18446744073709551616) : IntKind.u64.wrap ((m : Int).tdiv 128) = ((m / 128 : Nat) : Int) := by
 rw [show ((m : Int).tdiv 128) = ((m / 128 : Nat) : Int) from by rw [Int.tdiv_eq_ediv_of_nonneg (by omega)]; rfl,zcQ (by omega)]
theorem rem128 (m : Nat) : (m : Int).tmod 128 = ((m % 128 : Nat) : Int) := by
 rw [Int.tmod_eq_emod_of_nonneg (by omega)]; rfl
theorem gq12 {P Q : Prop} (h : Q) (e : P = Q := by simp -dsimp only [↓zfT, ↓zaI, ↓zbP, ↓zfV, ↓zfN, ↓zfL, ↓zfO, ↓zfM, ↓zbU, ↓zbQ, ↓zbV, ↓zbR, ↓zfP, ↓zbN, ↓zbW, ↓zbS, ↓zbX, ↓zbT, ↓zfK, ↓zfQ, ↓zbM, ↓zbY, ↓zfF, ↓zfE, ↓zfH,iN,bT,bF,eN, ↓zcJ, ↓unC, ↓zaa, ↓zK, ↓zL, ↓zO, ↓zaf, ↓zaz, ↓zcK, ↓zar, ↓zbk, ↓zR, ↓zo, ↓zj, ↓zbz, ↓zg, ↓zam, ↓zH, ↓zaV, ↓zbc, ↓ze, ↓zB, ↓zu, ↓zC, ↓zap, ↓zdk, ↓zdO, ↓zav, ↓zaF, ↓zaZ, ↓zbj, ↓zbt, ↓zA, ↓zas, ↓zM, ↓zF, ↓zae,zdP,zbI,zbC,unA,zdL,bnd,zeq,zag,zQ,zek,dm,dm1,zD,zak,zeP,zeO,zP,Q0,Q1,Q2,Q3,Q4,Q5,zW,zt,zy,zN,zJ,Q6,Q7,Q8,Q9,Q10,Q11,Q12,Q13,Q14,Nat.reduceAdd,Q15,Int.reduceToNat,Q16,Q17,Q18,Q19,Q20,reduceIte,Q21,Q22,zrh]; rfl) : P := e.mpr h
theorem gq13 {P Q : Prop} (h : Q) (e : P = Q := by simp -dsimp only [↓zfT, ↓zaI, ↓zbP, ↓zfV, ↓zfN, ↓zfL, ↓zfO, ↓zfM, ↓zbU, ↓zbQ, ↓zbV, ↓zbR, ↓zfP, ↓zbN, ↓zbW, ↓zbS, ↓zbX, ↓zbT, ↓zfK, ↓zfQ, ↓zbM, ↓zbY, ↓zfF, ↓zfE, ↓zfH,iN,bT,bF,eN, ↓zcJ, ↓unC, ↓zaa, ↓zK, ↓zL, ↓zO, ↓zaf, ↓zaz, ↓zcK, ↓zar, ↓zbk, ↓zR, ↓zo, ↓zj, ↓zbz, ↓zg, ↓zam, ↓zH, ↓zaV, ↓zbc, ↓ze, ↓zB, ↓zu, ↓zC, ↓zap, ↓zdk, ↓zdO, ↓zav, ↓zaF, ↓zaZ, ↓zbj, ↓zbt, ↓zA, ↓zas, ↓zM, ↓zF, ↓zae,zdP,zbI,zbC,unA,zdL,bnd,zeq,zag,zQ,zek,dm,dm1,zD,zak,zeP,zeO,zP,Q0,Q1,Q2,Q3,Q4,Q5,zW,zt,zy,zN,zJ,Q6,Q7,Q8,Q9,Q10,Q11,Q12,Q13,Q14,Nat.reduceAdd,Q15,Int.reduceToNat,Q16,Q17,Q18,Q19,Q20,reduceIte,Q21,Q22,rep,zab,zfq,toD,zaq,Q23,Q24,Q25,Q26,Q27,Q28,Nat.reduceLeDiff,Q29,Nat.reduceSub,Q30,Q31,Q32,sc,Q33,Q34,Q35]; rfl) : P := e.mpr h
theorem zcY {σ : List zh} {b : List UInt8} {n : Nat} (hn : n < 18446744073709551616) (hb : b.length ≤ 1073741824) {K : KT} (hK : K (.own σ.length (bcs (b ++ zcO n))) (σ ++ [.tok 1 (b ++ zcO n).length])) :
  zp Tryz.prog zaY [.d (.slice (bcs b)), .d (.int .u64 n)] σ K := by
 refine zbB zqX.is rfl (fun s => [σ.length]) fun hl _ => zqX.goes ?_
 have hlen := zE hn
 (refine gq12 ?_; try with_reducible exact True.intro)
 refine ⟨zfz,by simp,by simp [bcs]; omega, ?_⟩
 refine zr 10 (fun k vs s => ∃ (m : Nat) (pre : List UInt8),k = pre.length ∧ vs = [.d (.int .u64 m), .own σ.length (bcs (b ++ pre))] ∧ zcO n = pre ++ zcO m ∧ m < 18446744073709551616 ∧
   s = σ ++ [.tok 1 (b ++ pre).length]) ⟨n, [],rfl,by simp,rfl,hn,by simp [bcs]⟩ ?_
 rintro k vs s hk ⟨m,pre,rfl,rfl,hpre,hm,rfl⟩
 have hm10 := zE hm
 have hpl : pre.length + (zcO m).length ≤ 10 := by rw [hpre] at hlen; simpa using hlen.2
 (refine gq9 ?_; try with_reducible exact True.intro)
 refine zaO (fun h => ?_) (fun h => ?_)
 all_goals (try (refine gq10 h ?_; try with_reducible exact True.intro))
 ·have h1 : ¬ m < 128 := by simp at h; omega
  have h2 := zvM h1
  rw [h2] at hpl
  simp at hpl
  have hc : IntKind.u8.wrap (IntKind.u8.wrap ((m : Int).tmod 128) + 128) = ((UInt8.ofNat (m % 128 + 128)).toNat : Int) := by
   rw [rem128,zrF (by omega),znk (by omega),show ((m % 128 : Nat) : Int) + 128 = ((m % 128 + 128 : Nat) : Int) from rfl]
   exact zrF (by omega)
  (refine gq13 ?_; try with_reducible exact True.intro)
  rw [hc,div128 hm]
  refine ⟨by decide,by simp,by simp [bcs]; omega,by simp [bcs],by decide, ?_⟩
  refine zaG.next (by omega) ⟨m / 128,pre ++ [UInt8.ofNat (m % 128 + 128)],by simp, ?_,by rw [hpre,h2]; simp,by omega, ?_⟩
  ·simp [bcs,zcs]
  ·simp [bcs,Nat.add_assoc]
 ·have h1 : m < 128 := by simp at h; omega
  have h2 := zmX h1
  (refine gq13 ?_; try with_reducible exact True.intro)
  rw [byte_wrap h1]
  refine ⟨by simp,by simp [bcs]; omega,by simp [bcs], ?_⟩
  rw [hpre,h2] at hK
  have e : bcs (b ++ pre) ++ [[D.int .u8 ((UInt8.ofNat m).toNat : Int)]] = bcs (b ++ (pre ++ [UInt8.ofNat m])) := by simp [bcs,zcs]
  rw [e]
  refine zkg hl rfl ?_
  simpa [bcs,Nat.add_assoc] using hK
theorem gq14 {P Q : Prop} (h : Q) (e : P = Q := by simp -dsimp only [↓zfT, ↓zaI, ↓zbP, ↓zfV, ↓zfN, ↓zfL, ↓zfO, ↓zfM, ↓zbU, ↓zbQ, ↓zbV, ↓zbR, ↓zfP, ↓zbN, ↓zbW, ↓zbS, ↓zbX, ↓zbT, ↓zfK, ↓zfQ, ↓zbM, ↓zbY, ↓zfF, ↓zfE, ↓zfH,iN,bT,bF,eN, ↓zcJ, ↓unC, ↓zaa, ↓zK, ↓zL, ↓zO, ↓zaf, ↓zaz, ↓zcK, ↓zar, ↓zbk, ↓zR, ↓zo, ↓zj, ↓zbz, ↓zg, ↓zam, ↓zH, ↓zaV, ↓zbc, ↓ze, ↓zB, ↓zu, ↓zC, ↓zap, ↓zdk, ↓zdO, ↓zav, ↓zaF, ↓zaZ, ↓zbj, ↓zbt, ↓zA, ↓zas, ↓zM, ↓zF, ↓zae,zdP,zbI,zbC,unA,zdL,bnd,zeq,zag,zQ,zek,dm,dm1,zD,zak,zeP,zeO,zP,Q0,Q1,Q2,Q3,Q4,Q5,zW,zt,zy,zN,zJ,Q6,Q7,Q8,Q9,Q10,Q11,Q12,Q13,Q14,Nat.reduceAdd,Q15,Int.reduceToNat,Q16,Q17,Q18,Q19,Q20,reduceIte,Q21,Q22,znK]; rfl) : P := e.mpr h
theorem zgS {σ : List zh} {b x : List UInt8} (hx : x.length ≤ 1073741824) (hb : b.length ≤ 1073741800) {K : KT} (hK : K (.own σ.length (bcs (b ++ (zcO x.length ++ x)))) (σ ++ [.tok 1 (b ++ (zcO x.length ++ x)).length])) :
  zp Tryz.prog zbp [.d (.slice (bcs b)), .d (.slice (bcs x))] σ K := by
 refine zbB znC.is rfl (fun s => [σ.length]) fun hl _ => znC.goes ?_
 have hlen := zE (n := x.length) (by omega)
 (refine gq14 ?_; try with_reducible exact True.intro)
 have hw : IntKind.u64.wrap ((bcs x).length : Int) = (x.length : Int) := by rw [zcQ (by simp [bcs]; omega)]; simp [bcs]
 rw [hw]
 refine zcY (by omega) (by omega) ?_
 (refine gq9 ?_; try with_reducible exact True.intro)
 refine ⟨zfz,by simp [bcs]; omega,by simp [bcs], ?_⟩
 rw [zqH]
 simp only [List.append_assoc]
 refine zkg hl rfl ?_
 simpa [bcs,Nat.add_assoc] using hK
end Go.Proofs.YtfgbofkdhfjegaaGreat
