/- Contracts of the small functions over bytes. -/
import Derived.Test.YtncpaekiidpchaaGreatSh
import Derived.Test.YtncpaekiidpchaaGreatAwEnd
import Derived.Test.YtncpaekiidpchaaGreatCl1
set_option linter.all false
set_option maxRecDepth 100000
namespace Go.Proofs.YtncpaekiidpchaaGreat
open Go.AW
theorem zuO {σ : List zf} {es : List (List D)} {K : AV → List zf → Prop} (he : ∀ e ∈ es,e.length = 1) (hK : K (.exact es) σ) : zL Tryz.prog zdo [.d (.slice es)] σ K := by
 refine zco zfd.is rfl (fun _ => []) fun hl _ => zfd.goes ?_
 simp only [zfg,iN,bT,bF,eN,gF,gT,gFm,gTm,fl,nfl,gFl,gTl,il,cp,orC,anC,cA,bP,z1,z2,m1,List.map_cons,List.map_nil,zap,zce,zbp,bnd,zcn,zD]
 refine ⟨rfl,trivial,by omega,by omega,by omega,he, ?_⟩
 simp only [zoj,zsr,getL,zpZ,zbV,zcV]
 simpa using ⟨hl,hK⟩
end Go.Proofs.YtncpaekiidpchaaGreat

/- Contracts: how numbers and byte strings are put. -/
set_option maxRecDepth 100000
namespace Go.Proofs.YtncpaekiidpchaaGreat
open Go.AW
def bva (bs : List UInt8) : List AV := bs.map fun b => .d (.int .u8 (b.toNat : Int))
def zft (bs : List UInt8) : List AV := bva bs ++ List.replicate (10 - bs.length) (.d (.int .u8 0))
theorem zsv {pre : List UInt8} {b : UInt8} (h : pre.length < 10) : zT (zft pre) pre.length [.d (.int .u8 (b.toNat : Int))] = zft (pre ++ [b]) := by
 simp only [zT,zft,bva,List.length_singleton]
 obtain ⟨m,hm⟩ : ∃ m, 10 - pre.length = m + 1 := ⟨9 - pre.length,by omega⟩
 rw [hm,List.take_left' (by simp),List.drop_append]
 simp only [List.length_map]
 rw [List.drop_eq_nil_of_le (by simp),show pre.length + 1 - pre.length = 1 by omega,List.replicate_succ]
 simp [List.length_append,show 10 - (pre.length + 1) = m by omega]
theorem byte_or (m : Nat) : IntKind.u8.wrap ↑(BitVec.ofInt IntKind.u8.bits (IntKind.u8.wrap (m : Int)) ||| BitVec.ofInt IntKind.u8.bits 128).toNat = ((UInt8.ofNat (m % 128 + 128)).toNat : Int) := by
 rw [wrap8 m,show IntKind.u8.bits = 8 from rfl,or128 ⟨m % 256,by omega⟩,zqh (by simp; omega),zlM (by omega)]
 simp
theorem byte_wrap {m : Nat} (h : m < 128) : IntKind.u8.wrap (m : Int) = ((UInt8.ofNat m).toNat : Int) := by
 rw [zqh (by omega),zlM (by omega)]
theorem shr7 (m : Nat) : ((m : Int)).fdiv (2 ^ min 7 IntKind.u64.bits) = ((m / 128 : Nat) : Int) := by
 rw [show min 7 IntKind.u64.bits = 7 from rfl,Int.fdiv_eq_ediv_of_nonneg _ (by decide)]
 rfl
theorem zng {pre : List UInt8} (h : pre.length ≤ 10) : (zft pre).length = 10 := by simp [zft,bva]; omega
theorem pad10_sc (pre : List UInt8) : (zft pre).all sc = true := by
 simp only [zft,bva,List.all_append,List.all_map,List.all_replicate,Bool.and_eq_true]
 refine ⟨by simp [sc], ?_⟩
 cases 10 - pre.length <;> simp [sc]
theorem pad10_d (pre : List UInt8) : zft pre = ((pre.map fun b => D.int .u8 (b.toNat : Int)) ++ List.replicate (10 - pre.length) (D.int .u8 0)).map AV.d := by
 simp [zft,bva,Function.comp_def]
theorem gq14 {P Q : Prop} (h : Q) (e : P = Q := by simp -dsimp only [↓zcR, ↓zal, ↓zaM, ↓zcS, ↓zcN, ↓zcL, ↓zcO, ↓zcM, ↓zaR, ↓zaN, ↓zaS, ↓zaO, ↓zcP, ↓zaL, ↓zaT, ↓zaP, ↓zaU, ↓zaQ, ↓zcK, ↓zcQ, ↓zaK, ↓zaV, ↓zcI, ↓zcH, ↓zcJ,iN,bT,bF,eN, ↓zbI, ↓unC, ↓zQ, ↓zF, ↓zG, ↓zI, ↓zR, ↓zap, ↓zbp, ↓zab, ↓zaX, ↓zP, ↓zp, ↓zm, ↓zbg, ↓zi, ↓zY, ↓zB, ↓zas, ↓zaw, ↓ze, ↓zC, ↓zr, ↓zt, ↓zad, ↓zbL, ↓zbY, ↓zaa, ↓zaj, ↓zau, ↓zaB, ↓zaD, ↓zl, ↓zZ, ↓zH, ↓zu, ↓zS,zcd,zaI,zaH,unA,zce,bnd,zcn,zX,zV,zcp,dm,dm1,zD,zag,zcy,zcx,zU,Q0,Q1,Q2,Q3,Q4,Q5,zO,zq,zw,zM,zE,Q6,Q7,Q8,Q9,Q10,Q11,Q12,Q13,Q14,Nat.reduceAdd,Q15,Int.reduceToNat,Q16,Q17,Q18,Q19,Q20,reduceIte,Q21,Q22]; rfl) : P := e.mpr h
theorem gq15 {A P Q : Prop} (a : A) (h : Q) (e : A → P = Q := by intro a; simp -dsimp only [↓zcR, ↓zal, ↓zaM, ↓zcS, ↓zcN, ↓zcL, ↓zcO, ↓zcM, ↓zaR, ↓zaN, ↓zaS, ↓zaO, ↓zcP, ↓zaL, ↓zaT, ↓zaP, ↓zaU, ↓zaQ, ↓zcK, ↓zcQ, ↓zaK, ↓zaV, ↓zcI, ↓zcH, ↓zcJ,iN,bT,bF,eN, ↓zbI, ↓unC, ↓zQ, ↓zF, ↓zG, ↓zI, ↓zR, ↓zap, ↓zbp, ↓zab, ↓zaX, ↓zP, ↓zp, ↓zm, ↓zbg, ↓zi, ↓zY, ↓zB, ↓zas, ↓zaw, ↓ze, ↓zC, ↓zr, ↓zt, ↓zad, ↓zbL, ↓zbY, ↓zaa, ↓zaj, ↓zau, ↓zaB, ↓zaD, ↓zl, ↓zZ, ↓zH, ↓zu, ↓zS,zcd,zaI,zaH,unA,zce,bnd,zcn,zX,zV,zcp,dm,dm1,zD,zag,zcy,zcx,zU,Q0,Q1,Q2,Q3,Q4,Q5,zO,zq,zw,zM,zE,Q6,Q7,Q8,Q9,Q10,Q11,Q12,Q13,Q14,Nat.reduceAdd,Q15,Int.reduceToNat,Q16,Q17,Q18,Q19,Q20,reduceIte,Q21,Q22,a]; rfl) : P := (e a).mpr h
theorem c_form {σ : List zf} {n : Nat} (hn : n < 18446744073709551616) {K : AV → List zf → Prop} (hK : K (.tup [.agg (zft (zcw n)), .d (.int .i64 (zcw n).length)]) σ) : zL Tryz.prog zkF [.d (.int .u64 n)] σ K := by
 refine zj zpG.is rfl fun hl _ => zpG.goes ?_
 simp only [zpU,iN,bT,bF,eN,zP]
 have hlen := zJ hn
 refine zK 10 (fun k vs s => ∃ (m : Nat) (pre : List UInt8),k = pre.length ∧ vs = [.d (.int .u64 m), .d (.int .i64 k)] ∧ zcw n = pre ++ zcw m ∧ m < 18446744073709551616 ∧
   s = σ ++ [.box (zft []), .box (zft pre)]) ⟨n, [],rfl,rfl,rfl,hn,by simp [zft,bva]⟩ ?_
 rintro k vs s hk ⟨m,pre,rfl,rfl,hpre,hm,rfl⟩
 have hm10 := zJ hm
 have hpl : pre.length + (zcw m).length ≤ 10 := by rw [hpre] at hlen; simpa using hlen.2
 have hp : pre.length < 10 := by omega
 (refine gq14 ?_; try with_reducible exact True.intro)
 refine zaC (fun h => ?_) (fun h => ?_)
 all_goals (try (refine gq15 h ?_; try with_reducible exact True.intro))
 ·have h1 : ¬ m < 128 := by simp at h; omega
  have h2 := zux h1
  rw [h2] at hpl
  simp at hpl
  rw [byte_or,shr7,zsv hp]
  refine ⟨by omega,by omega,by have := zng (pre := pre) (by omega); omega,by simp [sc],by omega, ?_⟩
  refine zav.next (by omega) ⟨m / 128,pre ++ [UInt8.ofNat (m % 128 + 128)],by simp, ?_,by rw [hpre,h2]; simp,by omega,rfl⟩
  rw [zai (by omega) (by omega)]
  rfl
 ·have h1 : m < 128 := by simp at h; omega
  have h2 := zly h1
  rw [byte_wrap h1,zsv hp]
  have hp1 : (zft (pre ++ [UInt8.ofNat m])).length = 10 := zng (by simp; omega)
  have hsp : zT (zft []) 0 (zft (pre ++ [UInt8.ofNat m])) = zft (pre ++ [UInt8.ofNat m]) := by
   simp only [zT,Nat.zero_add,List.take_zero,List.nil_append]
   rw [hp1,List.drop_eq_nil_of_le (by simp [zft,bva]),List.append_nil]
  have htk : List.take 10 (List.drop 0 (zft (pre ++ [UInt8.ofNat m]))) = zft (pre ++ [UInt8.ofNat m]) := by
   rw [List.drop_zero,List.take_of_length_le (by omega)]
  rw [htk,hsp,htk,if_pos (by omega)]
  refine ⟨by omega,by omega,by have := zng (pre := pre) (by omega); omega,by simp [sc],by omega,by omega,by simp [zft,bva],pad10_sc _, ?_⟩
  have hd : dmT (zbV [.agg (zft (pre ++ [UInt8.ofNat m])), .d (.int .i64 (IntKind.i64.wrap (↑pre.length + 1)))]) = .tup [.agg (zft (pre ++ [UInt8.ofNat m])), .d (.int .i64 (zcw n).length)] := by
   rw [zai (by omega) (by omega),hpre,h2]
   simp only [zbV,dmT,List.map_cons,List.map_nil,dm,pad10_d,map_dm1_d,dm1]
   rw [List.length_append]; rfl
  refine zsW ?_ hl ?_
  ·rw [hd,pad10_d,zby]
   intro c hc
   rcases List.mem_cons.1 hc with rfl | hc
   ·exact .agg _ (low_map_d _ _)
   ·have hc := List.mem_singleton.1 hc
    subst hc; exact .d _
  ·rw [hd]; rw [hpre,h2] at hK ⊢; exact hK
theorem toDs_bva (bs : List UInt8) (r : List AV) (ds : List D) (h : zcv r = some ds) : zcv (bva bs ++ r) = some ((bs.map fun b => D.int .u8 (b.toNat : Int)) ++ ds) := by
 induction bs with
 | nil => simpa [bva] using h
 | cons b bs ih => simp only [bva,List.map_cons,List.cons_append,zcv,toD] at ih ⊢; rw [ih]
theorem chunks1 (bs : List UInt8) : zW 1 bs.length (bs.map fun b => D.int .u8 (b.toNat : Int)) = bcs bs := by
 induction bs with
 | nil => rfl
 | cons b bs ih => simp only [List.length_cons,List.map_cons,zW,bcs,List.take_succ_cons,List.take_zero,List.drop_succ_cons,List.drop_zero] at ih ⊢; rw [ih]; rfl
theorem zjK {σ : List zf} {b : List UInt8} {n : Nat} (hn : n < 18446744073709551616) (hb : b.length ≤ 1073741824) {K : AV → List zf → Prop} (hK : K (.own σ.length (bcs (b ++ zcw n))) (σ ++ [.tok 1 (b ++ zcw n).length])) :
  zL Tryz.prog zci [.d (.slice (bcs b)), .d (.int .u64 n)] σ K := by
 refine zco zmh.is rfl (fun s => [σ.length + 1]) fun hl _ => zmh.goes ?_
 have hlen := zJ hn
 simp only [zmv,iN,bT,bF,eN,gF,gT,gFm,gTm,fl,nfl,gFl,gTl,il,cp,orC,anC,cA,bP,z1,z2,m1,List.map_cons,List.map_nil]
 simp only [dm,dm1]
 refine c_form hn ?_
 have hp := zng hlen.2
 have hsp : zT (List.replicate 10 (AV.d (D.int .u8 0))) 0 (zft (zcw n)) = zft (zcw n) := by
  simp only [zT,Nat.zero_add,List.take_zero,List.nil_append]
  rw [hp,List.drop_eq_nil_of_le (by simp),List.append_nil]
 have hrep : [AV.d (D.int .u8 0), .d (.int .u8 0), .d (.int .u8 0), .d (.int .u8 0), .d (.int .u8 0), .d (.int .u8 0), .d (.int .u8 0), .d (.int .u8 0), .d (.int .u8 0), .d (.int .u8 0)] = List.replicate 10 (AV.d (D.int .u8 0)) := rfl
 (refine gq14 ?_; try with_reducible exact True.intro)
 refine ⟨hp,by omega,pad10_sc _,by omega,by omega,by omega,by omega, ?_⟩
 refine zuO zgi ?_
 rw [hrep,hsp]
 (refine gq14 ?_; try with_reducible exact True.intro)
 have htk : zcv (List.take ((zcw n).length - Int.toNat 0) (List.drop (Int.toNat 0) (zft (zcw n)))) = some ((zcw n).map fun b => D.int .u8 (b.toNat : Int)) := by
  simp only [Int.toNat_zero,Nat.sub_zero,List.drop_zero]
  rw [zft,List.take_left' (by simp [bva])]
  have := toDs_bva (zcw n) [] [] rfl
  simpa using this
 simp only [Int.toNat_zero] at htk
 rw [htk,if_pos (by omega),Nat.sub_zero]
 simp only [Option.map_some,chunks1]
 refine ⟨zgi,zgi,by simp [bcs]; omega, ?_⟩
 rw [zph]
 refine endsK_own rfl hl (by omega) (by rw [zq]; rfl) ?_
 simpa [bcs] using hK
theorem gq16 {P Q : Prop} (h : Q) (e : P = Q := by simp -dsimp only [↓zcR, ↓zal, ↓zaM, ↓zcS, ↓zcN, ↓zcL, ↓zcO, ↓zcM, ↓zaR, ↓zaN, ↓zaS, ↓zaO, ↓zcP, ↓zaL, ↓zaT, ↓zaP, ↓zaU, ↓zaQ, ↓zcK, ↓zcQ, ↓zaK, ↓zaV, ↓zcI, ↓zcH, ↓zcJ,iN,bT,bF,eN, ↓zbI, ↓unC, ↓zQ, ↓zF, ↓zG, ↓zI, ↓zR, ↓zap, ↓zbp, ↓zab, ↓zaX, ↓zP, ↓zp, ↓zm, ↓zbg, ↓zi, ↓zY, ↓zB, ↓zas, ↓zaw, ↓ze, ↓zC, ↓zr, ↓zt, ↓zad, ↓zbL, ↓zbY, ↓zaa, ↓zaj, ↓zau, ↓zaB, ↓zaD, ↓zl, ↓zZ, ↓zH, ↓zu, ↓zS,zcd,zaI,zaH,unA,zce,bnd,zcn,zX,zV,zcp,dm,dm1,zD,zag,zcy,zcx,zU,Q0,Q1,Q2,Q3,Q4,Q5,zO,zq,zw,zM,zE,Q6,Q7,Q8,Q9,Q10,Q11,Q12,Q13,Q14,Nat.reduceAdd,Q15,Int.reduceToNat,Q16,Q17,Q18,Q19,Q20,reduceIte,Q21,Q22,zkh]; rfl) : P := e.mpr h
theorem ztE {σ : List zf} {b x : List UInt8} (hx : x.length ≤ 1073741824) (hb : b.length ≤ 1073741800) {K : AV → List zf → Prop} (hK : K (.own σ.length (bcs (b ++ (zcw x.length ++ x)))) (σ ++ [.tok 1 (b ++ (zcw x.length ++ x)).length])) :
  zL Tryz.prog zeu [.d (.slice (bcs b)), .d (.slice (bcs x))] σ K := by
 refine zco zjU.is rfl (fun s => [σ.length]) fun hl _ => zjU.goes ?_
 have hlen := zJ (n := x.length) (by omega)
 (refine gq16 ?_; try with_reducible exact True.intro)
 have hw : IntKind.u64.wrap ((bcs x).length : Int) = (x.length : Int) := by rw [zcq (by simp [bcs]; omega)]; simp [bcs]
 rw [hw]
 refine zjK (by omega) (by omega) ?_
 (refine gq14 ?_; try with_reducible exact True.intro)
 refine ⟨zgi,by simp [bcs]; omega,by simp [bcs], ?_⟩
 rw [zph]
 simp only [List.append_assoc]
 refine ziG hl rfl ?_
 simpa [bcs,Nat.add_assoc] using hK
theorem div128 {m : Nat} (h : m < 18446744073709551616) : IntKind.u64.wrap ((m : Int).tdiv 128) = ((m / 128 : Nat) : Int) := by
 rw [show ((m : Int).tdiv 128) = ((m / 128 : Nat) : Int) from by rw [Int.tdiv_eq_ediv_of_nonneg (by omega)]; rfl,zcq (by omega)]
theorem rem128 (m : Nat) : (m : Int).tmod 128 = ((m % 128 : Nat) : Int) := by
 rw [Int.tmod_eq_emod_of_nonneg (by omega)]; rfl
theorem gq17 {P Q : Prop} (h : Q) (e : P = Q := by simp -dsimp only [↓zcR, ↓zal, ↓zaM, ↓zcS, ↓zcN, ↓zcL, ↓zcO, ↓zcM, ↓zaR, ↓zaN, ↓zaS, ↓zaO, ↓zcP, ↓zaL, ↓zaT, ↓zaP, ↓zaU, ↓zaQ, ↓zcK, ↓zcQ, ↓zaK, ↓zaV, ↓zcI, ↓zcH, ↓zcJ,iN,bT,bF,eN, ↓zbI, ↓unC, ↓zQ, ↓zF, ↓zG, ↓zI, ↓zR, ↓zap, ↓zbp, ↓zab, ↓zaX, ↓zP, ↓zp, ↓zm, ↓zbg, ↓zi, ↓zY, ↓zB, ↓zas, ↓zaw, ↓ze, ↓zC, ↓zr, ↓zt, ↓zad, ↓zbL, ↓zbY, ↓zaa, ↓zaj, ↓zau, ↓zaB, ↓zaD, ↓zl, ↓zZ, ↓zH, ↓zu, ↓zS,zcd,zaI,zaH,unA,zce,bnd,zcn,zX,zV,zcp,dm,dm1,zD,zag,zcy,zcx,zU,Q0,Q1,Q2,Q3,Q4,Q5,zO,zq,zw,zM,zE,Q6,Q7,Q8,Q9,Q10,Q11,Q12,Q13,Q14,Nat.reduceAdd,Q15,Int.reduceToNat,Q16,Q17,Q18,Q19,Q20,reduceIte,Q21,Q22,zpO]; rfl) : P := e.mpr h
theorem gq18 {P Q : Prop} (h : Q) (e : P = Q := by simp -dsimp only [↓zcR, ↓zal, ↓zaM, ↓zcS, ↓zcN, ↓zcL, ↓zcO, ↓zcM, ↓zaR, ↓zaN, ↓zaS, ↓zaO, ↓zcP, ↓zaL, ↓zaT, ↓zaP, ↓zaU, ↓zaQ, ↓zcK, ↓zcQ, ↓zaK, ↓zaV, ↓zcI, ↓zcH, ↓zcJ,iN,bT,bF,eN, ↓zbI, ↓unC, ↓zQ, ↓zF, ↓zG, ↓zI, ↓zR, ↓zap, ↓zbp, ↓zab, ↓zaX, ↓zP, ↓zp, ↓zm, ↓zbg, ↓zi, ↓zY, ↓zB, ↓zas, ↓zaw, ↓ze, ↓zC, ↓zr, ↓zt, ↓zad, ↓zbL, ↓zbY, ↓zaa, ↓zaj, ↓zau, ↓zaB, ↓zaD, ↓zl, ↓zZ, ↓zH, ↓zu, ↓zS,zcd,zaI,zaH,unA,zce,bnd,zcn,zX,zV,zcp,dm,dm1,zD,zag,zcy,zcx,zU,Q0,Q1,Q2,Q3,Q4,Q5,zO,zq,zw,zM,zE,Q6,Q7,Q8,Q9,Q10,Q11,Q12,Q13,Q14,Nat.reduceAdd,Q15,Int.reduceToNat,Q16,Q17,Q18,Q19,Q20,reduceIte,Q21,Q22,rep,zT,zcv,toD,zW,Q23,Q24,Q25,Q26,Q27,Q28,Nat.reduceLeDiff,Q29,Nat.reduceSub,Q30,Q31,Q32,sc,Q33,Q34,Q35]; rfl) : P := e.mpr h
theorem zcF {σ : List zf} {b : List UInt8} {n : Nat} (hn : n < 18446744073709551616) (hb : b.length ≤ 1073741824) {K : AV → List zf → Prop} (hK : K (.own σ.length (bcs (b ++ zcw n))) (σ ++ [.tok 1 (b ++ zcw n).length])) :
  zL Tryz.prog zaY [.d (.slice (bcs b)), .d (.int .u64 n)] σ K := by
 refine zco zpA.is rfl (fun s => [σ.length]) fun hl _ => zpA.goes ?_
 have hlen := zJ hn
 (refine gq17 ?_; try with_reducible exact True.intro)
 refine ⟨zgi,by simp,by simp [bcs]; omega, ?_⟩
 refine zK 10 (fun k vs s => ∃ (m : Nat) (pre : List UInt8),k = pre.length ∧ vs = [.d (.int .u64 m), .own σ.length (bcs (b ++ pre))] ∧ zcw n = pre ++ zcw m ∧ m < 18446744073709551616 ∧
   s = σ ++ [.tok 1 (b ++ pre).length]) ⟨n, [],rfl,by simp,rfl,hn,by simp [bcs]⟩ ?_
 rintro k vs s hk ⟨m,pre,rfl,rfl,hpre,hm,rfl⟩
 have hm10 := zJ hm
 have hpl : pre.length + (zcw m).length ≤ 10 := by rw [hpre] at hlen; simpa using hlen.2
 (refine gq14 ?_; try with_reducible exact True.intro)
 refine zaC (fun h => ?_) (fun h => ?_)
 all_goals (try (refine gq15 h ?_; try with_reducible exact True.intro))
 ·have h1 : ¬ m < 128 := by simp at h; omega
  have h2 := zux h1
  rw [h2] at hpl
  simp at hpl
  have hc : IntKind.u8.wrap (IntKind.u8.wrap ((m : Int).tmod 128) + 128) = ((UInt8.ofNat (m % 128 + 128)).toNat : Int) := by
   rw [rem128,zqh (by omega),zlM (by omega),show ((m % 128 : Nat) : Int) + 128 = ((m % 128 + 128 : Nat) : Int) from rfl]
   exact zqh (by omega)
  (refine gq18 ?_; try with_reducible exact True.intro)
  rw [hc,div128 hm]
  refine ⟨by decide,by simp,by simp [bcs]; omega,by simp [bcs],by decide, ?_⟩
  refine zav.next (by omega) ⟨m / 128,pre ++ [UInt8.ofNat (m % 128 + 128)],by simp, ?_,by rw [hpre,h2]; simp,by omega, ?_⟩
  ·simp [bcs,zbP]
  ·simp [bcs,Nat.add_assoc]
 ·have h1 : m < 128 := by simp at h; omega
  have h2 := zly h1
  (refine gq18 ?_; try with_reducible exact True.intro)
  rw [byte_wrap h1]
  refine ⟨by simp,by simp [bcs]; omega,by simp [bcs], ?_⟩
  rw [hpre,h2] at hK
  have e : bcs (b ++ pre) ++ [[D.int .u8 ((UInt8.ofNat m).toNat : Int)]] = bcs (b ++ (pre ++ [UInt8.ofNat m])) := by simp [bcs,zbP]
  rw [e]
  refine ziG hl rfl ?_
  simpa [bcs,Nat.add_assoc] using hK
theorem gq19 {P Q : Prop} (h : Q) (e : P = Q := by simp -dsimp only [↓zcR, ↓zal, ↓zaM, ↓zcS, ↓zcN, ↓zcL, ↓zcO, ↓zcM, ↓zaR, ↓zaN, ↓zaS, ↓zaO, ↓zcP, ↓zaL, ↓zaT, ↓zaP, ↓zaU, ↓zaQ, ↓zcK, ↓zcQ, ↓zaK, ↓zaV, ↓zcI, ↓zcH, ↓zcJ,iN,bT,bF,eN, ↓zbI, ↓unC, ↓zQ, ↓zF, ↓zG, ↓zI, ↓zR, ↓zap, ↓zbp, ↓zab, ↓zaX, ↓zP, ↓zp, ↓zm, ↓zbg, ↓zi, ↓zY, ↓zB, ↓zas, ↓zaw, ↓ze, ↓zC, ↓zr, ↓zt, ↓zad, ↓zbL, ↓zbY, ↓zaa, ↓zaj, ↓zau, ↓zaB, ↓zaD, ↓zl, ↓zZ, ↓zH, ↓zu, ↓zS,zcd,zaI,zaH,unA,zce,bnd,zcn,zX,zV,zcp,dm,dm1,zD,zag,zcy,zcx,zU,Q0,Q1,Q2,Q3,Q4,Q5,zO,zq,zw,zM,zE,Q6,Q7,Q8,Q9,Q10,Q11,Q12,Q13,Q14,Nat.reduceAdd,Q15,Int.reduceToNat,Q16,Q17,Q18,Q19,Q20,reduceIte,Q21,Q22,zmo]; rfl) : P := e.mpr h
theorem zfD {σ : List zf} {b x : List UInt8} (hx : x.length ≤ 1073741824) (hb : b.length ≤ 1073741800) {K : AV → List zf → Prop} (hK : K (.own σ.length (bcs (b ++ (zcw x.length ++ x)))) (σ ++ [.tok 1 (b ++ (zcw x.length ++ x)).length])) :
  zL Tryz.prog zbj [.d (.slice (bcs b)), .d (.slice (bcs x))] σ K := by
 refine zco zma.is rfl (fun s => [σ.length]) fun hl _ => zma.goes ?_
 have hlen := zJ (n := x.length) (by omega)
 (refine gq19 ?_; try with_reducible exact True.intro)
 have hw : IntKind.u64.wrap ((bcs x).length : Int) = (x.length : Int) := by rw [zcq (by simp [bcs]; omega)]; simp [bcs]
 rw [hw]
 refine zcF (by omega) (by omega) ?_
 (refine gq14 ?_; try with_reducible exact True.intro)
 refine ⟨zgi,by simp [bcs]; omega,by simp [bcs], ?_⟩
 rw [zph]
 simp only [List.append_assoc]
 refine ziG hl rfl ?_
 simpa [bcs,Nat.add_assoc] using hK
end Go.Proofs.YtncpaekiidpchaaGreat
