/- Contracts of the small functions over bytes. -/
import Derived.Test.YtncpaekiidpchaaGreatSh
import Derived.Test.YtncpaekiidpchaaGreatAwEnd
import Derived.Test.YtncpaekiidpchaaGreatCl1
set_option linter.all false
set_option maxRecDepth 100000
namespace Go.Proofs.YtncpaekiidpchaaGreat
open Go.AW
theorem zuj {σ : List zg} {es : List (List D)} {K : KT} (he : ∀ e ∈ es,e.length = 1) (hK : K (.exact es) σ) : zD Tryz.prog zcX [.d (.slice es)] σ K := by
 refine zcr zeY.is rfl (fun _ => []) fun hl _ => zeY.goes ?_
 simp only [zeZ,iN,bT,bF,eN,gF,gT,gFm,gTm,fl,nfl,gFl,gTl,il,cp,orC,anC,cA,bP,z1,z2,m1,List.map_cons,List.map_nil,zaw,zdk,zbT,bnd,zdw,zB]
 refine ⟨rfl,trivial,by omega,by omega,by omega,he, ?_⟩
 simp only [zrP,zuA,getL,zqx,zca,zcL]
 simpa using ⟨hl,hK⟩
end Go.Proofs.YtncpaekiidpchaaGreat

/- Contracts: how numbers and byte strings are put. -/
set_option maxRecDepth 100000
namespace Go.Proofs.YtncpaekiidpchaaGreat
open Go.AW
def bva (bs : List UInt8) : List AV := bs.map fun b => .d (.int .u8 (b.toNat : Int))
def zfk (bs : List UInt8) : List AV := bva bs ++ List.replicate (10 - bs.length) (.d (.int .u8 0))
theorem zsj {pre : List UInt8} {b : UInt8} (h : pre.length < 10) : zV (zfk pre) pre.length [.d (.int .u8 (b.toNat : Int))] = zfk (pre ++ [b]) := by
 simp only [zV,zfk,bva,List.length_singleton]
 obtain ⟨m,hm⟩ : ∃ m, 10 - pre.length = m + 1 := ⟨9 - pre.length,by omega⟩
 rw [hm,List.take_left' (by simp),List.drop_append]
 simp only [List.length_map]
 rw [List.drop_eq_nil_of_le (by simp),show pre.length + 1 - pre.length = 1 by omega,List.replicate_succ]
 simp [List.length_append,show 10 - (pre.length + 1) = m by omega]
theorem byte_or (m : Nat) : IntKind.u8.wrap ↑(BitVec.ofInt IntKind.u8.bits (IntKind.u8.wrap (m : Int)) ||| BitVec.ofInt IntKind.u8.bits 128).toNat = ((UInt8.ofNat (m % 128 + 128)).toNat : Int) := by
 rw [wrap8 m,show IntKind.u8.bits = 8 from rfl,or128 ⟨m % 256,by omega⟩,zpY (by simp; omega),zlD (by omega)]
 simp
theorem byte_wrap {m : Nat} (h : m < 128) : IntKind.u8.wrap (m : Int) = ((UInt8.ofNat m).toNat : Int) := by
 rw [zpY (by omega),zlD (by omega)]
theorem shr7 (m : Nat) : ((m : Int)).fdiv (2 ^ min 7 IntKind.u64.bits) = ((m / 128 : Nat) : Int) := by
 rw [show min 7 IntKind.u64.bits = 7 from rfl,Int.fdiv_eq_ediv_of_nonneg _ (by decide)]
 rfl
theorem znc {pre : List UInt8} (h : pre.length ≤ 10) : (zfk pre).length = 10 := by simp [zfk,bva]; omega
theorem pad10_sc (pre : List UInt8) : (zfk pre).all sc = true := by
 simp only [zfk,bva,List.all_append,List.all_map,List.all_replicate,Bool.and_eq_true]
 refine ⟨by simp [sc], ?_⟩
 cases 10 - pre.length <;> simp [sc]
theorem pad10_d (pre : List UInt8) : zfk pre = ((pre.map fun b => D.int .u8 (b.toNat : Int)) ++ List.replicate (10 - pre.length) (D.int .u8 0)).map AV.d := by
 simp [zfk,bva,Function.comp_def]
theorem gq14 {P Q : Prop} (h : Q) (e : P = Q := by simp -dsimp only [↓zey, ↓zau, ↓zbj, ↓zeA, ↓zes, ↓zeq, ↓zet, ↓zer, ↓zbo, ↓zbk, ↓zbp, ↓zbl, ↓zeu, ↓zbi, ↓zbq, ↓zbm, ↓zbr, ↓zbn, ↓zep, ↓zew, ↓zbh, ↓zbs, ↓zeg, ↓zef, ↓zeo,iN,bT,bF,eN, ↓zcS, ↓unC, ↓zW, ↓zK, ↓zL, ↓zN, ↓zZ, ↓zaw, ↓zbT, ↓zag, ↓zbu, ↓zP, ↓zq, ↓zo, ↓zby, ↓zl, ↓zaf, ↓zH, ↓zaC, ↓zaG, ↓ze, ↓zC, ↓zt, ↓zw, ↓zan, ↓zcC, ↓zdb, ↓zal, ↓zat, ↓zaF, ↓zaP, ↓zaW, ↓zu, ↓zai, ↓zM, ↓zA, ↓zaa,zdi,zbd,zba,unA,zdk,bnd,zdw,zac,zS,zdy,dm,dm1,zB,zak,zdP,zdO,zQ,Q0,Q1,Q2,Q3,Q4,Q5,zR,zr,zy,zO,zI,Q6,Q7,Q8,Q9,Q10,Q11,Q12,Q13,Q14,Nat.reduceAdd,Q15,Int.reduceToNat,Q16,Q17,Q18,Q19,Q20,reduceIte,Q21,Q22]; rfl) : P := e.mpr h
theorem gq15 {A P Q : Prop} (a : A) (h : Q) (e : A → P = Q := by intro a; simp -dsimp only [↓zey, ↓zau, ↓zbj, ↓zeA, ↓zes, ↓zeq, ↓zet, ↓zer, ↓zbo, ↓zbk, ↓zbp, ↓zbl, ↓zeu, ↓zbi, ↓zbq, ↓zbm, ↓zbr, ↓zbn, ↓zep, ↓zew, ↓zbh, ↓zbs, ↓zeg, ↓zef, ↓zeo,iN,bT,bF,eN, ↓zcS, ↓unC, ↓zW, ↓zK, ↓zL, ↓zN, ↓zZ, ↓zaw, ↓zbT, ↓zag, ↓zbu, ↓zP, ↓zq, ↓zo, ↓zby, ↓zl, ↓zaf, ↓zH, ↓zaC, ↓zaG, ↓ze, ↓zC, ↓zt, ↓zw, ↓zan, ↓zcC, ↓zdb, ↓zal, ↓zat, ↓zaF, ↓zaP, ↓zaW, ↓zu, ↓zai, ↓zM, ↓zA, ↓zaa,zdi,zbd,zba,unA,zdk,bnd,zdw,zac,zS,zdy,dm,dm1,zB,zak,zdP,zdO,zQ,Q0,Q1,Q2,Q3,Q4,Q5,zR,zr,zy,zO,zI,Q6,Q7,Q8,Q9,Q10,Q11,Q12,Q13,Q14,Nat.reduceAdd,Q15,Int.reduceToNat,Q16,Q17,Q18,Q19,Q20,reduceIte,Q21,Q22,a]; rfl) : P := (e a).mpr h
theorem c_form {σ : List zg} {n : Nat} (hn : n < 18446744073709551616) {K : KT} (hK : K (.tup [.agg (zfk (zcm n)), .d (.int .i64 (zcm n).length)]) σ) : zD Tryz.prog zkA [.d (.int .u64 n)] σ K := by
 refine zj zpB.is rfl fun hl _ => zpB.goes ?_
 simp only [zpQ,iN,bT,bF,eN,zP]
 have hlen := zx hn
 refine zG 10 (fun k vs s => ∃ (m : Nat) (pre : List UInt8),k = pre.length ∧ vs = [.d (.int .u64 m), .d (.int .i64 k)] ∧ zcm n = pre ++ zcm m ∧ m < 18446744073709551616 ∧
   s = σ ++ [.box (zfk []), .box (zfk pre)]) ⟨n, [],rfl,rfl,rfl,hn,by simp [zfk,bva]⟩ ?_
 rintro k vs s hk ⟨m,pre,rfl,rfl,hpre,hm,rfl⟩
 have hm10 := zx hm
 have hpl : pre.length + (zcm m).length ≤ 10 := by rw [hpre] at hlen; simpa using hlen.2
 have hp : pre.length < 10 := by omega
 (refine gq14 ?_; try with_reducible exact True.intro)
 refine zaJ (fun h => ?_) (fun h => ?_)
 all_goals (try (refine gq15 h ?_; try with_reducible exact True.intro))
 ·have h1 : ¬ m < 128 := by simp at h; omega
  have h2 := ztW h1
  rw [h2] at hpl
  simp at hpl
  rw [byte_or,shr7,zsj hp]
  refine ⟨by omega,by omega,by have := znc (pre := pre) (by omega); omega,by simp [sc],by omega, ?_⟩
  refine zav.next (by omega) ⟨m / 128,pre ++ [UInt8.ofNat (m % 128 + 128)],by simp, ?_,by rw [hpre,h2]; simp,by omega,rfl⟩
  rw [zX (by omega) (by omega)]
  rfl
 ·have h1 : m < 128 := by simp at h; omega
  have h2 := zls h1
  rw [byte_wrap h1,zsj hp]
  have hp1 : (zfk (pre ++ [UInt8.ofNat m])).length = 10 := znc (by simp; omega)
  have hsp : zV (zfk []) 0 (zfk (pre ++ [UInt8.ofNat m])) = zfk (pre ++ [UInt8.ofNat m]) := by
   simp only [zV,Nat.zero_add,List.take_zero,List.nil_append]
   rw [hp1,List.drop_eq_nil_of_le (by simp [zfk,bva]),List.append_nil]
  have htk : List.take 10 (List.drop 0 (zfk (pre ++ [UInt8.ofNat m]))) = zfk (pre ++ [UInt8.ofNat m]) := by
   rw [List.drop_zero,List.take_of_length_le (by omega)]
  rw [htk,hsp,htk,if_pos (by omega)]
  refine ⟨by omega,by omega,by have := znc (pre := pre) (by omega); omega,by simp [sc],by omega,by omega,by simp [zfk,bva],pad10_sc _, ?_⟩
  have hd : dmT (zca [.agg (zfk (pre ++ [UInt8.ofNat m])), .d (.int .i64 (IntKind.i64.wrap (↑pre.length + 1)))]) = .tup [.agg (zfk (pre ++ [UInt8.ofNat m])), .d (.int .i64 (zcm n).length)] := by
   rw [zX (by omega) (by omega),hpre,h2]
   simp only [zca,dmT,List.map_cons,List.map_nil,dm,pad10_d,map_dm1_d,dm1]
   rw [List.length_append]; rfl
  refine zsM ?_ hl ?_
  ·rw [hd,pad10_d,zbv]
   intro c hc
   rcases List.mem_cons.1 hc with rfl | hc
   ·exact .agg _ (low_map_d _ _)
   ·have hc := List.mem_singleton.1 hc
    subst hc; exact .d _
  ·rw [hd]; rw [hpre,h2] at hK ⊢; exact hK
theorem toDs_bva (bs : List UInt8) (r : List AV) (ds : List D) (h : zdG r = some ds) : zdG (bva bs ++ r) = some ((bs.map fun b => D.int .u8 (b.toNat : Int)) ++ ds) := by
 induction bs with
 | nil => simpa [bva] using h
 | cons b bs ih => simp only [bva,List.map_cons,List.cons_append,zdG,toD] at ih ⊢; rw [ih]
theorem chunks1 (bs : List UInt8) : zab 1 bs.length (bs.map fun b => D.int .u8 (b.toNat : Int)) = bcs bs := by
 induction bs with
 | nil => rfl
 | cons b bs ih => simp only [List.length_cons,List.map_cons,zab,bcs,List.take_succ_cons,List.take_zero,List.drop_succ_cons,List.drop_zero] at ih ⊢; rw [ih]; rfl
theorem zjH {σ : List zg} {b : List UInt8} {n : Nat} (hn : n < 18446744073709551616) (hb : b.length ≤ 1073741824) {K : KT} (hK : K (.own σ.length (bcs (b ++ zcm n))) (σ ++ [.tok 1 (b ++ zcm n).length])) :
  zD Tryz.prog zcb [.d (.slice (bcs b)), .d (.int .u64 n)] σ K := by
 refine zcr zlX.is rfl (fun s => [σ.length + 1]) fun hl _ => zlX.goes ?_
 have hlen := zx hn
 simp only [zml,iN,bT,bF,eN,gF,gT,gFm,gTm,fl,nfl,gFl,gTl,il,cp,orC,anC,cA,bP,z1,z2,m1,List.map_cons,List.map_nil]
 simp only [dm,dm1]
 refine c_form hn ?_
 have hp := znc hlen.2
 have hsp : zV (List.replicate 10 (AV.d (D.int .u8 0))) 0 (zfk (zcm n)) = zfk (zcm n) := by
  simp only [zV,Nat.zero_add,List.take_zero,List.nil_append]
  rw [hp,List.drop_eq_nil_of_le (by simp),List.append_nil]
 have hrep : [AV.d (D.int .u8 0), .d (.int .u8 0), .d (.int .u8 0), .d (.int .u8 0), .d (.int .u8 0), .d (.int .u8 0), .d (.int .u8 0), .d (.int .u8 0), .d (.int .u8 0), .d (.int .u8 0)] = List.replicate 10 (AV.d (D.int .u8 0)) := rfl
 (refine gq14 ?_; try with_reducible exact True.intro)
 refine ⟨hp,by omega,pad10_sc _,by omega,by omega,by omega,by omega, ?_⟩
 refine zuj zfS ?_
 rw [hrep,hsp]
 (refine gq14 ?_; try with_reducible exact True.intro)
 have htk : zdG (List.take ((zcm n).length - Int.toNat 0) (List.drop (Int.toNat 0) (zfk (zcm n)))) = some ((zcm n).map fun b => D.int .u8 (b.toNat : Int)) := by
  simp only [Int.toNat_zero,Nat.sub_zero,List.drop_zero]
  rw [zfk,List.take_left' (by simp [bva])]
  have := toDs_bva (zcm n) [] [] rfl
  simpa using this
 simp only [Int.toNat_zero] at htk
 rw [htk,if_pos (by omega),Nat.sub_zero]
 simp only [Option.map_some,chunks1]
 refine ⟨zfS,zfS,by simp [bcs]; omega, ?_⟩
 rw [zpa]
 refine endsK_own rfl hl (by omega) (by rw [zr]; rfl) ?_
 simpa [bcs] using hK
theorem gq16 {P Q : Prop} (h : Q) (e : P = Q := by simp -dsimp only [↓zey, ↓zau, ↓zbj, ↓zeA, ↓zes, ↓zeq, ↓zet, ↓zer, ↓zbo, ↓zbk, ↓zbp, ↓zbl, ↓zeu, ↓zbi, ↓zbq, ↓zbm, ↓zbr, ↓zbn, ↓zep, ↓zew, ↓zbh, ↓zbs, ↓zeg, ↓zef, ↓zeo,iN,bT,bF,eN, ↓zcS, ↓unC, ↓zW, ↓zK, ↓zL, ↓zN, ↓zZ, ↓zaw, ↓zbT, ↓zag, ↓zbu, ↓zP, ↓zq, ↓zo, ↓zby, ↓zl, ↓zaf, ↓zH, ↓zaC, ↓zaG, ↓ze, ↓zC, ↓zt, ↓zw, ↓zan, ↓zcC, ↓zdb, ↓zal, ↓zat, ↓zaF, ↓zaP, ↓zaW, ↓zu, ↓zai, ↓zM, ↓zA, ↓zaa,zdi,zbd,zba,unA,zdk,bnd,zdw,zac,zS,zdy,dm,dm1,zB,zak,zdP,zdO,zQ,Q0,Q1,Q2,Q3,Q4,Q5,zR,zr,zy,zO,zI,Q6,Q7,Q8,Q9,Q10,Q11,Q12,Q13,Q14,Nat.reduceAdd,Q15,Int.reduceToNat,Q16,Q17,Q18,Q19,Q20,reduceIte,Q21,Q22,zkc]; rfl) : P := e.mpr h
theorem ztm {σ : List zg} {b x : List UInt8} (hx : x.length ≤ 1073741824) (hb : b.length ≤ 1073741800) {K : KT} (hK : K (.own σ.length (bcs (b ++ (zcm x.length ++ x)))) (σ ++ [.tok 1 (b ++ (zcm x.length ++ x)).length])) :
  zD Tryz.prog zec [.d (.slice (bcs b)), .d (.slice (bcs x))] σ K := by
 refine zcr zjS.is rfl (fun s => [σ.length]) fun hl _ => zjS.goes ?_
 have hlen := zx (n := x.length) (by omega)
 (refine gq16 ?_; try with_reducible exact True.intro)
 have hw : IntKind.u64.wrap ((bcs x).length : Int) = (x.length : Int) := by rw [zch (by simp [bcs]; omega)]; simp [bcs]
 rw [hw]
 refine zjH (by omega) (by omega) ?_
 (refine gq14 ?_; try with_reducible exact True.intro)
 refine ⟨zfS,by simp [bcs]; omega,by simp [bcs], ?_⟩
 rw [zpa]
 simp only [List.append_assoc]
 refine ziI hl rfl ?_
 simpa [bcs,Nat.add_assoc] using hK
theorem div128 {m : Nat} (h : m < 18446744073709551616) : IntKind.u64.wrap ((m : Int).tdiv 128) = ((m / 128 : Nat) : Int) := by
 rw [show ((m : Int).tdiv 128) = ((m / 128 : Nat) : Int) from by rw [Int.tdiv_eq_ediv_of_nonneg (by omega)]; rfl,zch (by omega)]
theorem rem128 (m : Nat) : (m : Int).tmod 128 = ((m % 128 : Nat) : Int) := by
 rw [Int.tmod_eq_emod_of_nonneg (by omega)]; rfl
theorem gq17 {P Q : Prop} (h : Q) (e : P = Q := by simp -dsimp only [↓zey, ↓zau, ↓zbj, ↓zeA, ↓zes, ↓zeq, ↓zet, ↓zer, ↓zbo, ↓zbk, ↓zbp, ↓zbl, ↓zeu, ↓zbi, ↓zbq, ↓zbm, ↓zbr, ↓zbn, ↓zep, ↓zew, ↓zbh, ↓zbs, ↓zeg, ↓zef, ↓zeo,iN,bT,bF,eN, ↓zcS, ↓unC, ↓zW, ↓zK, ↓zL, ↓zN, ↓zZ, ↓zaw, ↓zbT, ↓zag, ↓zbu, ↓zP, ↓zq, ↓zo, ↓zby, ↓zl, ↓zaf, ↓zH, ↓zaC, ↓zaG, ↓ze, ↓zC, ↓zt, ↓zw, ↓zan, ↓zcC, ↓zdb, ↓zal, ↓zat, ↓zaF, ↓zaP, ↓zaW, ↓zu, ↓zai, ↓zM, ↓zA, ↓zaa,zdi,zbd,zba,unA,zdk,bnd,zdw,zac,zS,zdy,dm,dm1,zB,zak,zdP,zdO,zQ,Q0,Q1,Q2,Q3,Q4,Q5,zR,zr,zy,zO,zI,Q6,Q7,Q8,Q9,Q10,Q11,Q12,Q13,Q14,Nat.reduceAdd,Q15,Int.reduceToNat,Q16,Q17,Q18,Q19,Q20,reduceIte,Q21,Q22,zpK]; rfl) : P := e.mpr h
theorem gq18 {P Q : Prop} (h : Q) (e : P = Q := by simp -dsimp only [↓zey, ↓zau, ↓zbj, ↓zeA, ↓zes, ↓zeq, ↓zet, ↓zer, ↓zbo, ↓zbk, ↓zbp, ↓zbl, ↓zeu, ↓zbi, ↓zbq, ↓zbm, ↓zbr, ↓zbn, ↓zep, ↓zew, ↓zbh, ↓zbs, ↓zeg, ↓zef, ↓zeo,iN,bT,bF,eN, ↓zcS, ↓unC, ↓zW, ↓zK, ↓zL, ↓zN, ↓zZ, ↓zaw, ↓zbT, ↓zag, ↓zbu, ↓zP, ↓zq, ↓zo, ↓zby, ↓zl, ↓zaf, ↓zH, ↓zaC, ↓zaG, ↓ze, ↓zC, ↓zt, ↓zw, ↓zan, ↓zcC, ↓zdb, ↓zal, ↓zat, ↓zaF, ↓zaP, ↓zaW, ↓zu, ↓zai, ↓zM, ↓zA, ↓zaa,zdi,zbd,zba,unA,zdk,bnd,zdw,zac,zS,zdy,dm,dm1,zB,zak,zdP,zdO,zQ,Q0,Q1,Q2,Q3,Q4,Q5,zR,zr,zy,zO,zI,Q6,Q7,Q8,Q9,Q10,Q11,Q12,Q13,Q14,Nat.reduceAdd,Q15,Int.reduceToNat,Q16,Q17,Q18,Q19,Q20,reduceIte,Q21,Q22,rep,zV,zdG,toD,zab,Q23,Q24,Q25,Q26,Q27,Q28,Nat.reduceLeDiff,Q29,Nat.reduceSub,Q30,Q31,Q32,sc,Q33,Q34,Q35]; rfl) : P := e.mpr h
theorem zcx {σ : List zg} {b : List UInt8} {n : Nat} (hn : n < 18446744073709551616) (hb : b.length ≤ 1073741824) {K : KT} (hK : K (.own σ.length (bcs (b ++ zcm n))) (σ ++ [.tok 1 (b ++ zcm n).length])) :
  zD Tryz.prog zaE [.d (.slice (bcs b)), .d (.int .u64 n)] σ K := by
 refine zcr zpv.is rfl (fun s => [σ.length]) fun hl _ => zpv.goes ?_
 have hlen := zx hn
 (refine gq17 ?_; try with_reducible exact True.intro)
 refine ⟨zfS,by simp,by simp [bcs]; omega, ?_⟩
 refine zG 10 (fun k vs s => ∃ (m : Nat) (pre : List UInt8),k = pre.length ∧ vs = [.d (.int .u64 m), .own σ.length (bcs (b ++ pre))] ∧ zcm n = pre ++ zcm m ∧ m < 18446744073709551616 ∧
   s = σ ++ [.tok 1 (b ++ pre).length]) ⟨n, [],rfl,by simp,rfl,hn,by simp [bcs]⟩ ?_
 rintro k vs s hk ⟨m,pre,rfl,rfl,hpre,hm,rfl⟩
 have hm10 := zx hm
 have hpl : pre.length + (zcm m).length ≤ 10 := by rw [hpre] at hlen; simpa using hlen.2
 (refine gq14 ?_; try with_reducible exact True.intro)
 refine zaJ (fun h => ?_) (fun h => ?_)
 all_goals (try (refine gq15 h ?_; try with_reducible exact True.intro))
 ·have h1 : ¬ m < 128 := by simp at h; omega
  have h2 := ztW h1
  rw [h2] at hpl
  simp at hpl
  have hc : IntKind.u8.wrap (IntKind.u8.wrap ((m : Int).tmod 128) + 128) = ((UInt8.ofNat (m % 128 + 128)).toNat : Int) := by
   rw [rem128,zpY (by omega),zlD (by omega),show ((m % 128 : Nat) : Int) + 128 = ((m % 128 + 128 : Nat) : Int) from rfl]
   exact zpY (by omega)
  (refine gq18 ?_; try with_reducible exact True.intro)
  rw [hc,div128 hm]
  refine ⟨by decide,by simp,by simp [bcs]; omega,by simp [bcs],by decide, ?_⟩
  refine zav.next (by omega) ⟨m / 128,pre ++ [UInt8.ofNat (m % 128 + 128)],by simp, ?_,by rw [hpre,h2]; simp,by omega, ?_⟩
  ·simp [bcs,zbK]
  ·simp [bcs,Nat.add_assoc]
 ·have h1 : m < 128 := by simp at h; omega
  have h2 := zls h1
  (refine gq18 ?_; try with_reducible exact True.intro)
  rw [byte_wrap h1]
  refine ⟨by simp,by simp [bcs]; omega,by simp [bcs], ?_⟩
  rw [hpre,h2] at hK
  have e : bcs (b ++ pre) ++ [[D.int .u8 ((UInt8.ofNat m).toNat : Int)]] = bcs (b ++ (pre ++ [UInt8.ofNat m])) := by simp [bcs,zbK]
  rw [e]
  refine ziI hl rfl ?_
  simpa [bcs,Nat.add_assoc] using hK
theorem gq19 {P Q : Prop} (h : Q) (e : P = Q := by simp -dsimp only [↓zey, ↓zau, ↓zbj, ↓zeA, ↓zes, ↓zeq, ↓zet, ↓zer, ↓zbo, ↓zbk, ↓zbp, ↓zbl, ↓zeu, ↓zbi, ↓zbq, ↓zbm, ↓zbr, ↓zbn, ↓zep, ↓zew, ↓zbh, ↓zbs, ↓zeg, ↓zef, ↓zeo,iN,bT,bF,eN, ↓zcS, ↓unC, ↓zW, ↓zK, ↓zL, ↓zN, ↓zZ, ↓zaw, ↓zbT, ↓zag, ↓zbu, ↓zP, ↓zq, ↓zo, ↓zby, ↓zl, ↓zaf, ↓zH, ↓zaC, ↓zaG, ↓ze, ↓zC, ↓zt, ↓zw, ↓zan, ↓zcC, ↓zdb, ↓zal, ↓zat, ↓zaF, ↓zaP, ↓zaW, ↓zu, ↓zai, ↓zM, ↓zA, ↓zaa,zdi,zbd,zba,unA,zdk,bnd,zdw,zac,zS,zdy,dm,dm1,zB,zak,zdP,zdO,zQ,Q0,Q1,Q2,Q3,Q4,Q5,zR,zr,zy,zO,zI,Q6,Q7,Q8,Q9,Q10,Q11,Q12,Q13,Q14,Nat.reduceAdd,Q15,Int.reduceToNat,Q16,Q17,Q18,Q19,Q20,reduceIte,Q21,Q22,zme]; rfl) : P := e.mpr h
theorem zfs {σ : List zg} {b x : List UInt8} (hx : x.length ≤ 1073741824) (hb : b.length ≤ 1073741800) {K : KT} (hK : K (.own σ.length (bcs (b ++ (zcm x.length ++ x)))) (σ ++ [.tok 1 (b ++ (zcm x.length ++ x)).length])) :
  zD Tryz.prog zaV [.d (.slice (bcs b)), .d (.slice (bcs x))] σ K := by
 refine zcr zlQ.is rfl (fun s => [σ.length]) fun hl _ => zlQ.goes ?_
 have hlen := zx (n := x.length) (by omega)
 (refine gq19 ?_; try with_reducible exact True.intro)
 have hw : IntKind.u64.wrap ((bcs x).length : Int) = (x.length : Int) := by rw [zch (by simp [bcs]; omega)]; simp [bcs]
 rw [hw]
 refine zcx (by omega) (by omega) ?_
 (refine gq14 ?_; try with_reducible exact True.intro)
 refine ⟨zfS,by simp [bcs]; omega,by simp [bcs], ?_⟩
 rw [zpa]
 simp only [List.append_assoc]
 refine ziI hl rfl ?_
 simpa [bcs,Nat.add_assoc] using hK
end Go.Proofs.YtncpaekiidpchaaGreat
