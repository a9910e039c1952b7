/- Contracts of the small functions over bytes. -/
import Derived.Test.YtcappjcojggehaaSh
import Derived.Test.YtcappjcojggehaaAwEnd
import Derived.Test.YtcappjcojggehaaCl1
import Derived.Test.YtcappjcojggehaaSpNum
set_option linter.all false
set_option maxRecDepth 100000
set_option linter.unusedSimpArgs false
namespace Go.Proofs.Ytcappjcojggehaa
open Go.AW

theorem znd {σ : List AObj} {es : List (List D)} {K : AV → List AObj → Prop} (he : ∀ e ∈ es, e.length = 1) (hK : K (.exact es) σ) : ACall Try.prog zbm [.d (.slice es)] σ K := by
  refine zaN zeh rfl (fun _ => []) fun hl _ => zeG ?_
  simp only [zcx, lenC, esOf, slcC, bnd, intV, consO]
  refine ⟨rfl, trivial, by omega, by omega, by omega, he, ?_⟩
  simp only [EndsK, EndsL, getL, renOs, pack, renAV]
  simpa using ⟨hl, hK⟩
theorem zni {σ : List AObj} {a b : List UInt8} {K : AV → List AObj → Prop} (hK : K (.d (.bool (a == b))) σ) : ACall Try.prog zeR [.d (.slice (bcs a)), .d (.slice (bcs b))] σ K := by
  refine zu zkN rfl fun hl _ => zmB ?_
  simp only [zio, convC, esOf, zeX, binC, binA, strOp, consO]
  exact ze (by simp [Low_d, dmT, dm, dm1, pack]) hl hK
end Go.Proofs.Ytcappjcojggehaa

/- Contracts: how numbers and byte strings are put. -/
set_option maxRecDepth 100000
set_option linter.unusedSimpArgs false
namespace Go.Proofs.Ytcappjcojggehaa
open Go.AW

/-- bytes as a box's cells -/
def bva (bs : List UInt8) : List AV := bs.map fun b => .d (.int .u8 (b.toNat : Int))
def pad10 (bs : List UInt8) : List AV := bva bs ++ List.replicate (10 - bs.length) (.d (.int .u8 0))

theorem zlK {pre : List UInt8} {b : UInt8} (h : pre.length < 10) : zN (pad10 pre) pre.length [.d (.int .u8 (b.toNat : Int))] = pad10 (pre ++ [b]) := by
  simp only [zN, pad10, bva, List.length_singleton]
  obtain ⟨m, hm⟩ : ∃ m, 10 - pre.length = m + 1 := ⟨9 - pre.length, by omega⟩
  rw [hm, List.take_left' (by simp), List.drop_append]
  simp only [List.length_map]
  rw [List.drop_eq_nil_of_le (by simp), show pre.length + 1 - pre.length = 1 by omega, List.replicate_succ]
  simp [List.length_append, show 10 - (pre.length + 1) = m by omega]

theorem byte_or (m : Nat) : IntKind.u8.wrap ↑(BitVec.ofInt IntKind.u8.bits (IntKind.u8.wrap (m : Int)) ||| BitVec.ofInt IntKind.u8.bits 128).toNat = ((UInt8.ofNat (m % 128 + 128)).toNat : Int) := by
  rw [wrap8 m, show IntKind.u8.bits = 8 from rfl, or128 ⟨m % 256, by omega⟩, zke (by simp; omega), zgy (by omega)]
  simp
theorem byte_wrap {m : Nat} (h : m < 128) : IntKind.u8.wrap (m : Int) = ((UInt8.ofNat m).toNat : Int) := by
  rw [zke (by omega), zgy (by omega)]
theorem shr7 (m : Nat) : ((m : Int)).fdiv (2 ^ min 7 IntKind.u64.bits) = ((m / 128 : Nat) : Int) := by
  rw [show min 7 IntKind.u64.bits = 7 from rfl, Int.fdiv_eq_ediv_of_nonneg _ (by decide)]
  rfl
theorem zhH {pre : List UInt8} (h : pre.length ≤ 10) : (pad10 pre).length = 10 := by simp [pad10, bva]; omega
theorem pad10_sc (pre : List UInt8) : (pad10 pre).all sc = true := by
  simp only [pad10, bva, List.all_append, List.all_map, List.all_replicate, Bool.and_eq_true]
  refine ⟨by simp [sc], ?_⟩
  cases 10 - pre.length <;> simp [sc]

theorem pad10_d (pre : List UInt8) : pad10 pre = ((pre.map fun b => D.int .u8 (b.toNat : Int)) ++ List.replicate (10 - pre.length) (D.int .u8 0)).map AV.d := by
  simp [pad10, bva, Function.comp_def]
theorem gq14 {P Q : Prop} (h : Q) (e : P = Q := by simp -dsimp only [↓zad, ↓loopL, ↓binC, ↓unC, ↓zK, ↓zB, ↓zC, ↓zD, ↓zM, ↓lenC, ↓slcC, ↓convC, ↓boxC, ↓zF, ↓loadC, ↓zo, ↓nilC, ↓zh, ↓zS, ↓zy, ↓idxSC, ↓idxAC, ↓zi, ↓zE, ↓zl, ↓zt, ↓zW, ↓maxC, ↓minC, ↓zY, ↓zac, ↓mgetC, ↓msetC, ↓mdelC, ↓zn, ↓zU, ↓zA, ↓zp, ↓zL, binA, intOp, strOp, unA, esOf, bnd, intV, zQ, fillV, srcE, dm, dm1, consO, cellA, maxL, minL, keepO, Q0, Q1, Q2, Q3, Q4, Q5, zJ, zm, zq, zw, zx, Q6, Q7, Q8, Q9, Q10, Q11, Q12, Q13, Q14, Nat.reduceAdd, Q15, Int.reduceToNat, Q16, Q17, Q18, Q19, Q20, reduceIte, Q21, Q22]; rfl) : P := e.mpr h
theorem gq15 {A P Q : Prop} (a : A) (h : Q) (e : A → P = Q := by intro a; simp -dsimp only [↓zad, ↓loopL, ↓binC, ↓unC, ↓zK, ↓zB, ↓zC, ↓zD, ↓zM, ↓lenC, ↓slcC, ↓convC, ↓boxC, ↓zF, ↓loadC, ↓zo, ↓nilC, ↓zh, ↓zS, ↓zy, ↓idxSC, ↓idxAC, ↓zi, ↓zE, ↓zl, ↓zt, ↓zW, ↓maxC, ↓minC, ↓zY, ↓zac, ↓mgetC, ↓msetC, ↓mdelC, ↓zn, ↓zU, ↓zA, ↓zp, ↓zL, binA, intOp, strOp, unA, esOf, bnd, intV, zQ, fillV, srcE, dm, dm1, consO, cellA, maxL, minL, keepO, Q0, Q1, Q2, Q3, Q4, Q5, zJ, zm, zq, zw, zx, Q6, Q7, Q8, Q9, Q10, Q11, Q12, Q13, Q14, Nat.reduceAdd, Q15, Int.reduceToNat, Q16, Q17, Q18, Q19, Q20, reduceIte, Q21, Q22, a]; rfl) : P := (e a).mpr h
theorem c_form {σ : List AObj} {n : Nat} (hn : n < 18446744073709551616) {K : AV → List AObj → Prop} (hK : K (.tup [.agg (pad10 (numB n)), .d (.int .i64 (numB n).length)]) σ) : ACall Try.prog zfG [.d (.int .u64 n)] σ K := by
  refine zu zlF rfl fun hl _ => s_codec_form ?_
  simp only [zjK, zF]
  have hlen := zT hn
  refine zab 10 (fun k vs s => ∃ (m : Nat) (pre : List UInt8), k = pre.length ∧ vs = [.d (.int .u64 m), .d (.int .i64 k)] ∧ numB n = pre ++ numB m ∧ m < 18446744073709551616 ∧
      s = σ ++ [.box (pad10 []), .box (pad10 pre)]) ⟨n, [], rfl, rfl, rfl, hn, by simp [pad10, bva]⟩ ?_
  rintro k vs s hk ⟨m, pre, rfl, rfl, hpre, hm, rfl⟩
  have hm10 := zT hm
  have hpl : pre.length + (numB m).length ≤ 10 := by rw [hpre] at hlen; simpa using hlen.2
  have hp : pre.length < 10 := by omega
  (refine gq14 ?_; try with_reducible exact True.intro)
  refine zV (fun h => ?_) (fun h => ?_)
  all_goals (try (refine gq15 h ?_; try with_reducible exact True.intro))
  · have h1 : ¬ m < 128 := by simp at h; omega
    have h2 := zmM h1
    rw [h2] at hpl
    simp at hpl
    rw [byte_or, shr7, zlK hp]
    refine ⟨by omega, by omega, by have := zhH (pre := pre) (by omega); omega, by simp [sc], by omega, ?_⟩
    refine Again.next (by omega) ⟨m / 128, pre ++ [UInt8.ofNat (m % 128 + 128)], by simp, ?_, by rw [hpre, h2]; simp, by omega, rfl⟩
    rw [zai (by omega) (by omega)]
    rfl
  · have h1 : m < 128 := by simp at h; omega
    have h2 := zgq h1
    rw [byte_wrap h1, zlK hp]
    have hp1 : (pad10 (pre ++ [UInt8.ofNat m])).length = 10 := zhH (by simp; omega)
    have hsp : zN (pad10 []) 0 (pad10 (pre ++ [UInt8.ofNat m])) = pad10 (pre ++ [UInt8.ofNat m]) := by
      simp only [zN, Nat.zero_add, List.take_zero, List.nil_append]
      rw [hp1, List.drop_eq_nil_of_le (by simp [pad10, bva]), List.append_nil]
    have htk : List.take 10 (List.drop 0 (pad10 (pre ++ [UInt8.ofNat m]))) = pad10 (pre ++ [UInt8.ofNat m]) := by
      rw [List.drop_zero, List.take_of_length_le (by omega)]
    rw [htk, hsp, htk, if_pos (by omega)]
    refine ⟨by omega, by omega, by have := zhH (pre := pre) (by omega); omega, by simp [sc], by omega, by omega, by simp [pad10, bva], pad10_sc _, ?_⟩
    have hd : dmT (pack [.agg (pad10 (pre ++ [UInt8.ofNat m])), .d (.int .i64 (IntKind.i64.wrap (↑pre.length + 1)))]) = .tup [.agg (pad10 (pre ++ [UInt8.ofNat m])), .d (.int .i64 (numB n).length)] := by
      rw [zai (by omega) (by omega), hpre, h2]
      simp only [pack, dmT, List.map_cons, List.map_nil, dm, pad10_d, map_dm1_d, dm1]
      rw [List.length_append]; rfl
    refine zg ?_ hl ?_
    · rw [hd, pad10_d, zc]
      intro c hc
      rcases List.mem_cons.1 hc with rfl | hc
      · exact .agg _ (low_map_d _ _)
      · have hc := List.mem_singleton.1 hc
        subst hc; exact .d _
    · rw [hd]; rw [hpre, h2] at hK ⊢; exact hK

theorem toDs_bva (bs : List UInt8) (r : List AV) (ds : List D) (h : toDs r = some ds) : toDs (bva bs ++ r) = some ((bs.map fun b => D.int .u8 (b.toNat : Int)) ++ ds) := by
  induction bs with
  | nil => simpa [bva] using h
  | cons b bs ih => simp only [bva, List.map_cons, List.cons_append, toDs, toD] at ih ⊢; rw [ih]
theorem chunks1 (bs : List UInt8) : zX 1 bs.length (bs.map fun b => D.int .u8 (b.toNat : Int)) = bcs bs := by
  induction bs with
  | nil => rfl
  | cons b bs ih => simp only [List.length_cons, List.map_cons, zX, bcs, List.take_succ_cons, List.take_zero, List.drop_succ_cons, List.drop_zero] at ih ⊢; rw [ih]; rfl

theorem zcQ {σ : List AObj} {b : List UInt8} {n : Nat} (hn : n < 18446744073709551616) (hb : b.length ≤ 1073741824) {K : AV → List AObj → Prop} (hK : K (.own σ.length (bcs (b ++ numB n))) (σ ++ [.tok 1 (b ++ numB n).length])) :
    ACall Try.prog zan [.d (.slice (bcs b)), .d (.int .u64 n)] σ K := by
  refine zaN zkd rfl (fun s => [σ.length + 1]) fun hl _ => zly ?_
  have hlen := zT hn
  simp only [zgU]
  simp only [dm, dm1]
  refine c_form hn ?_
  have hp := zhH hlen.2
  have hsp : zN (List.replicate 10 (AV.d (D.int .u8 0))) 0 (pad10 (numB n)) = pad10 (numB n) := by
    simp only [zN, Nat.zero_add, List.take_zero, List.nil_append]
    rw [hp, List.drop_eq_nil_of_le (by simp), List.append_nil]
  have hrep : [AV.d (D.int .u8 0), .d (.int .u8 0), .d (.int .u8 0), .d (.int .u8 0), .d (.int .u8 0), .d (.int .u8 0), .d (.int .u8 0), .d (.int .u8 0), .d (.int .u8 0), .d (.int .u8 0)] = List.replicate 10 (AV.d (D.int .u8 0)) := rfl
  (refine gq14 ?_; try with_reducible exact True.intro)
  refine ⟨hp, by omega, pad10_sc _, by omega, by omega, by omega, by omega, ?_⟩
  refine znd zcI ?_
  rw [hrep, hsp]
  (refine gq14 ?_; try with_reducible exact True.intro)
  have htk : toDs (List.take ((numB n).length - Int.toNat 0) (List.drop (Int.toNat 0) (pad10 (numB n)))) = some ((numB n).map fun b => D.int .u8 (b.toNat : Int)) := by
    simp only [Int.toNat_zero, Nat.sub_zero, List.drop_zero]
    rw [pad10, List.take_left' (by simp [bva])]
    have := toDs_bva (numB n) [] [] rfl
    simpa using this
  simp only [Int.toNat_zero] at htk
  rw [htk, if_pos (by omega), Nat.sub_zero]
  simp only [Option.map_some, chunks1]
  refine ⟨zcI, zcI, by simp [bcs]; omega, ?_⟩
  rw [zja]
  refine endsK_own rfl hl (by omega) (by rw [zm]; rfl) ?_
  simpa [bcs] using hK

theorem gq16 {P Q : Prop} (h : Q) (e : P = Q := by simp -dsimp only [↓zad, ↓loopL, ↓binC, ↓unC, ↓zK, ↓zB, ↓zC, ↓zD, ↓zM, ↓lenC, ↓slcC, ↓convC, ↓boxC, ↓zF, ↓loadC, ↓zo, ↓nilC, ↓zh, ↓zS, ↓zy, ↓idxSC, ↓idxAC, ↓zi, ↓zE, ↓zl, ↓zt, ↓zW, ↓maxC, ↓minC, ↓zY, ↓zac, ↓mgetC, ↓msetC, ↓mdelC, ↓zn, ↓zU, ↓zA, ↓zp, ↓zL, binA, intOp, strOp, unA, esOf, bnd, intV, zQ, fillV, srcE, dm, dm1, consO, cellA, maxL, minL, keepO, Q0, Q1, Q2, Q3, Q4, Q5, zJ, zm, zq, zw, zx, Q6, Q7, Q8, Q9, Q10, Q11, Q12, Q13, Q14, Nat.reduceAdd, Q15, Int.reduceToNat, Q16, Q17, Q18, Q19, Q20, reduceIte, Q21, Q22, zfp]; rfl) : P := e.mpr h
theorem ziX {σ : List AObj} {b x : List UInt8} (hx : x.length ≤ 1073741824) (hb : b.length ≤ 1073741800) {K : AV → List AObj → Prop} (hK : K (.own σ.length (bcs (b ++ (numB x.length ++ x)))) (σ ++ [.tok 1 (b ++ (numB x.length ++ x)).length])) :
    ACall Try.prog zaT [.d (.slice (bcs b)), .d (.slice (bcs x))] σ K := by
  refine zaN zhV rfl (fun s => [σ.length]) fun hl _ => zjV ?_
  have hlen := zT (n := x.length) (by omega)
  (refine gq16 ?_; try with_reducible exact True.intro)
  have hw : IntKind.u64.wrap ((bcs x).length : Int) = (x.length : Int) := by rw [zbe (by simp [bcs]; omega)]; simp [bcs]
  rw [hw]
  refine zcQ (by omega) (by omega) ?_
  (refine gq14 ?_; try with_reducible exact True.intro)
  refine ⟨zcI, by simp [bcs]; omega, by simp [bcs], ?_⟩
  rw [zja]
  simp only [List.append_assoc]
  refine zew hl rfl ?_
  simpa [bcs, Nat.add_assoc] using hK

theorem div128 {m : Nat} (h : m < 18446744073709551616) : IntKind.u64.wrap ((m : Int).tdiv 128) = ((m / 128 : Nat) : Int) := by
  rw [show ((m : Int).tdiv 128) = ((m / 128 : Nat) : Int) from by rw [Int.tdiv_eq_ediv_of_nonneg (by omega)]; rfl, zbe (by omega)]
theorem rem128 (m : Nat) : (m : Int).tmod 128 = ((m % 128 : Nat) : Int) := by
  rw [Int.tmod_eq_emod_of_nonneg (by omega)]; rfl

theorem gq17 {P Q : Prop} (h : Q) (e : P = Q := by simp -dsimp only [↓zad, ↓loopL, ↓binC, ↓unC, ↓zK, ↓zB, ↓zC, ↓zD, ↓zM, ↓lenC, ↓slcC, ↓convC, ↓boxC, ↓zF, ↓loadC, ↓zo, ↓nilC, ↓zh, ↓zS, ↓zy, ↓idxSC, ↓idxAC, ↓zi, ↓zE, ↓zl, ↓zt, ↓zW, ↓maxC, ↓minC, ↓zY, ↓zac, ↓mgetC, ↓msetC, ↓mdelC, ↓zn, ↓zU, ↓zA, ↓zp, ↓zL, binA, intOp, strOp, unA, esOf, bnd, intV, zQ, fillV, srcE, dm, dm1, consO, cellA, maxL, minL, keepO, Q0, Q1, Q2, Q3, Q4, Q5, zJ, zm, zq, zw, zx, Q6, Q7, Q8, Q9, Q10, Q11, Q12, Q13, Q14, Nat.reduceAdd, Q15, Int.reduceToNat, Q16, Q17, Q18, Q19, Q20, reduceIte, Q21, Q22, zjH]; rfl) : P := e.mpr h
theorem gq18 {P Q : Prop} (h : Q) (e : P = Q := by simp -dsimp only [↓zad, ↓loopL, ↓binC, ↓unC, ↓zK, ↓zB, ↓zC, ↓zD, ↓zM, ↓lenC, ↓slcC, ↓convC, ↓boxC, ↓zF, ↓loadC, ↓zo, ↓nilC, ↓zh, ↓zS, ↓zy, ↓idxSC, ↓idxAC, ↓zi, ↓zE, ↓zl, ↓zt, ↓zW, ↓maxC, ↓minC, ↓zY, ↓zac, ↓mgetC, ↓msetC, ↓mdelC, ↓zn, ↓zU, ↓zA, ↓zp, ↓zL, binA, intOp, strOp, unA, esOf, bnd, intV, zQ, fillV, srcE, dm, dm1, consO, cellA, maxL, minL, keepO, Q0, Q1, Q2, Q3, Q4, Q5, zJ, zm, zq, zw, zx, Q6, Q7, Q8, Q9, Q10, Q11, Q12, Q13, Q14, Nat.reduceAdd, Q15, Int.reduceToNat, Q16, Q17, Q18, Q19, Q20, reduceIte, Q21, Q22, rep, zN, toDs, toD, zX, Q23, Q24, Q25, Q26, Q27, Q28, Nat.reduceLeDiff, Q29, Nat.reduceSub, Q30, Q31, Q32, sc, Q33, Q34, Q35]; rfl) : P := e.mpr h
theorem zcw {σ : List AObj} {b : List UInt8} {n : Nat} (hn : n < 18446744073709551616) (hb : b.length ≤ 1073741824) {K : AV → List AObj → Prop} (hK : K (.own σ.length (bcs (b ++ numB n))) (σ ++ [.tok 1 (b ++ numB n).length])) :
    ACall Try.prog zaB [.d (.slice (bcs b)), .d (.int .u64 n)] σ K := by
  refine zaN zlC rfl (fun s => [σ.length]) fun hl _ => s_r01_PutNum ?_
  have hlen := zT hn
  (refine gq17 ?_; try with_reducible exact True.intro)
  refine ⟨zcI, by simp, by simp [bcs]; omega, ?_⟩
  refine zab 10 (fun k vs s => ∃ (m : Nat) (pre : List UInt8), k = pre.length ∧ vs = [.d (.int .u64 m), .own σ.length (bcs (b ++ pre))] ∧ numB n = pre ++ numB m ∧ m < 18446744073709551616 ∧
      s = σ ++ [.tok 1 (b ++ pre).length]) ⟨n, [], rfl, by simp, rfl, hn, by simp [bcs]⟩ ?_
  rintro k vs s hk ⟨m, pre, rfl, rfl, hpre, hm, rfl⟩
  have hm10 := zT hm
  have hpl : pre.length + (numB m).length ≤ 10 := by rw [hpre] at hlen; simpa using hlen.2
  (refine gq14 ?_; try with_reducible exact True.intro)
  refine zV (fun h => ?_) (fun h => ?_)
  all_goals (try (refine gq15 h ?_; try with_reducible exact True.intro))
  · have h1 : ¬ m < 128 := by simp at h; omega
    have h2 := zmM h1
    rw [h2] at hpl
    simp at hpl
    have hc : IntKind.u8.wrap (IntKind.u8.wrap ((m : Int).tmod 128) + 128) = ((UInt8.ofNat (m % 128 + 128)).toNat : Int) := by
      rw [rem128, zke (by omega), zgy (by omega), show ((m % 128 : Nat) : Int) + 128 = ((m % 128 + 128 : Nat) : Int) from rfl]
      exact zke (by omega)
    (refine gq18 ?_; try with_reducible exact True.intro)
    rw [hc, div128 hm]
    refine ⟨by decide, by simp, by simp [bcs]; omega, by simp [bcs], by decide, ?_⟩
    refine Again.next (by omega) ⟨m / 128, pre ++ [UInt8.ofNat (m % 128 + 128)], by simp, ?_, by rw [hpre, h2]; simp, by omega, ?_⟩
    · simp [bcs, zay]
    · simp [bcs, Nat.add_assoc]
  · have h1 : m < 128 := by simp at h; omega
    have h2 := zgq h1
    (refine gq18 ?_; try with_reducible exact True.intro)
    rw [byte_wrap h1]
    refine ⟨by simp, by simp [bcs]; omega, by simp [bcs], ?_⟩
    rw [hpre, h2] at hK
    have e : bcs (b ++ pre) ++ [[D.int .u8 ((UInt8.ofNat m).toNat : Int)]] = bcs (b ++ (pre ++ [UInt8.ofNat m])) := by simp [bcs, zay]
    rw [e]
    refine zew hl rfl ?_
    simpa [bcs, Nat.add_assoc] using hK
theorem gq19 {P Q : Prop} (h : Q) (e : P = Q := by simp -dsimp only [↓zad, ↓loopL, ↓binC, ↓unC, ↓zK, ↓zB, ↓zC, ↓zD, ↓zM, ↓lenC, ↓slcC, ↓convC, ↓boxC, ↓zF, ↓loadC, ↓zo, ↓nilC, ↓zh, ↓zS, ↓zy, ↓idxSC, ↓idxAC, ↓zi, ↓zE, ↓zl, ↓zt, ↓zW, ↓maxC, ↓minC, ↓zY, ↓zac, ↓mgetC, ↓msetC, ↓mdelC, ↓zn, ↓zU, ↓zA, ↓zp, ↓zL, binA, intOp, strOp, unA, esOf, bnd, intV, zQ, fillV, srcE, dm, dm1, consO, cellA, maxL, minL, keepO, Q0, Q1, Q2, Q3, Q4, Q5, zJ, zm, zq, zw, zx, Q6, Q7, Q8, Q9, Q10, Q11, Q12, Q13, Q14, Nat.reduceAdd, Q15, Int.reduceToNat, Q16, Q17, Q18, Q19, Q20, reduceIte, Q21, Q22, zgQ]; rfl) : P := e.mpr h
theorem zhp {σ : List AObj} {b x : List UInt8} (hx : x.length ≤ 1073741824) (hb : b.length ≤ 1073741800) {K : AV → List AObj → Prop} (hK : K (.own σ.length (bcs (b ++ (numB x.length ++ x)))) (σ ++ [.tok 1 (b ++ (numB x.length ++ x)).length])) :
    ACall Try.prog zbw [.d (.slice (bcs b)), .d (.slice (bcs x))] σ K := by
  refine zaN zjZ rfl (fun s => [σ.length]) fun hl _ => zlu ?_
  have hlen := zT (n := x.length) (by omega)
  (refine gq19 ?_; try with_reducible exact True.intro)
  have hw : IntKind.u64.wrap ((bcs x).length : Int) = (x.length : Int) := by rw [zbe (by simp [bcs]; omega)]; simp [bcs]
  rw [hw]
  refine zcw (by omega) (by omega) ?_
  (refine gq14 ?_; try with_reducible exact True.intro)
  refine ⟨zcI, by simp [bcs]; omega, by simp [bcs], ?_⟩
  rw [zja]
  simp only [List.append_assoc]
  refine zew hl rfl ?_
  simpa [bcs, Nat.add_assoc] using hK
end Go.Proofs.Ytcappjcojggehaa

/- Contracts of operations: which are the same. -/
set_option maxRecDepth 100000
set_option linter.unusedSimpArgs false
namespace Go.Proofs.Ytcappjcojggehaa
open Go.AW

theorem gq20 {P Q : Prop} (h : Q) (e : P = Q := by simp -dsimp only [↓zad, ↓loopL, ↓binC, ↓unC, ↓zK, ↓zB, ↓zC, ↓zD, ↓zM, ↓lenC, ↓slcC, ↓convC, ↓boxC, ↓zF, ↓loadC, ↓zo, ↓nilC, ↓zh, ↓zS, ↓zy, ↓idxSC, ↓idxAC, ↓zi, ↓zE, ↓zl, ↓zt, ↓zW, ↓maxC, ↓minC, ↓zY, ↓zac, ↓mgetC, ↓msetC, ↓mdelC, ↓zn, ↓zU, ↓zA, ↓zp, ↓zL, binA, intOp, strOp, unA, esOf, bnd, intV, zQ, fillV, srcE, dm, dm1, consO, cellA, maxL, minL, keepO, Q0, Q1, Q2, Q3, Q4, Q5, zJ, zm, zq, zw, zx, Q6, Q7, Q8, Q9, Q10, Q11, Q12, Q13, Q14, Nat.reduceAdd, Q15, Int.reduceToNat, Q16, Q17, Q18, Q19, Q20, reduceIte, Q21, Q22, zr, rep, zN, toDs, toD, zX, Q23, Q24, Q25, Q26, Q27, Q28, Nat.reduceLeDiff, Q29, Nat.reduceSub, Q30, Q31, Q32, sc, Q33, Q34, Q35]; rfl) : P := e.mpr h
theorem c_only {σ : List AObj} {o : TOp} {K : AV → List AObj → Prop} (hK : K (.tup [opA (onlyF o), .d (.bool (zcO o))]) σ) : ACall Try.prog zkF [opA o] σ K := by
  refine zu isA_op_only rfl fun hl _ => s_op_only ?_
  simp only [S_op_only, opA]
  (repeat' (first | (refine gq20 ?_; try with_reducible exact True.intro) | (refine zV (fun h => ?_) (fun h => ?_) <;> (try rw [h])) | ((with_reducible refine And.intro ?_ ?_); focus (first | omega | rfl | decide))))

  all_goals (first | refine zg (by simp [Low_d, dmT, dm, dm1, pack, zc, zd, zb]) hl ?_ | refine ze (by simp [Low_d, dmT, dm, dm1, pack, zc, zd, zb]) hl ?_)
  all_goals simp only [beq_iff_eq, beq_eq_false_iff_ne, ne_eq] at *
  all_goals simp_all [pack, dmT, dm, dm1, onlyF, noOp, opA, zcO, recsE]
  have e : (decide (0 ≤ o.kind) && decide (o.kind ≤ 4)) = false := by simp; omega
  rw [e] at hK
  exact hK
theorem gq21 {P Q : Prop} (h : Q) (e : P = Q := by simp -dsimp only [↓zad, ↓loopL, ↓binC, ↓unC, ↓zK, ↓zB, ↓zC, ↓zD, ↓zM, ↓lenC, ↓slcC, ↓convC, ↓boxC, ↓zF, ↓loadC, ↓zo, ↓nilC, ↓zh, ↓zS, ↓zy, ↓idxSC, ↓idxAC, ↓zi, ↓zE, ↓zl, ↓zt, ↓zW, ↓maxC, ↓minC, ↓zY, ↓zac, ↓mgetC, ↓msetC, ↓mdelC, ↓zn, ↓zU, ↓zA, ↓zp, ↓zL, binA, intOp, strOp, unA, esOf, bnd, intV, zQ, fillV, srcE, dm, dm1, consO, cellA, maxL, minL, keepO, Q0, Q1, Q2, Q3, Q4, Q5, zJ, zm, zq, zw, zx, Q6, Q7, Q8, Q9, Q10, Q11, Q12, Q13, Q14, Nat.reduceAdd, Q15, Int.reduceToNat, Q16, Q17, Q18, Q19, Q20, reduceIte, Q21, Q22, zlj, zr]; rfl) : P := e.mpr h
theorem c_Same_1 {σ : List AObj} {a b : List UInt8} {K : AV → List AObj → Prop} (hK : K (.d (.bool (a == b))) σ) : ACall Try.prog zeQ [.d (.slice (bcs a)), .d (.slice (bcs b))] σ K := by
  refine zu zmX rfl fun hl _ => s_op_Same_1 ?_
  (refine gq21 ?_; try with_reducible exact True.intro)
  refine zni ?_
  (first | refine zg (by simp [Low_d, dmT, dm, dm1, pack, zc, zd, zb]) hl ?_ | refine ze (by simp [Low_d, dmT, dm, dm1, pack, zc, zd, zb]) hl ?_)
  exact hK
theorem gqc1 {A B : Prop} (a : A) (b : B) : A ∧ B := ⟨a, b⟩
theorem gq22 {P Q : Prop} (h : Q) (e : P = Q := by simp -dsimp only [↓zad, ↓loopL, ↓binC, ↓unC, ↓zK, ↓zB, ↓zC, ↓zD, ↓zM, ↓lenC, ↓slcC, ↓convC, ↓boxC, ↓zF, ↓loadC, ↓zo, ↓nilC, ↓zh, ↓zS, ↓zy, ↓idxSC, ↓idxAC, ↓zi, ↓zE, ↓zl, ↓zt, ↓zW, ↓maxC, ↓minC, ↓zY, ↓zac, ↓mgetC, ↓msetC, ↓mdelC, ↓zn, ↓zU, ↓zA, ↓zp, ↓zL, binA, intOp, strOp, unA, esOf, bnd, intV, zQ, fillV, srcE, dm, dm1, consO, cellA, maxL, minL, keepO, Q0, Q1, Q2, Q3, Q4, Q5, zJ, zm, zq, zw, zx, Q6, Q7, Q8, Q9, Q10, Q11, Q12, Q13, Q14, Nat.reduceAdd, Q15, Int.reduceToNat, Q16, Q17, Q18, Q19, Q20, reduceIte, Q21, Q22, zah, zr]; rfl) : P := e.mpr h
theorem gq23 {A P Q : Prop} (a : A) (h : Q) (e : A → P = Q := by intro a; simp -dsimp only [↓zad, ↓loopL, ↓binC, ↓unC, ↓zK, ↓zB, ↓zC, ↓zD, ↓zM, ↓lenC, ↓slcC, ↓convC, ↓boxC, ↓zF, ↓loadC, ↓zo, ↓nilC, ↓zh, ↓zS, ↓zy, ↓idxSC, ↓idxAC, ↓zi, ↓zE, ↓zl, ↓zt, ↓zW, ↓maxC, ↓minC, ↓zY, ↓zac, ↓mgetC, ↓msetC, ↓mdelC, ↓zn, ↓zU, ↓zA, ↓zp, ↓zL, binA, intOp, strOp, unA, esOf, bnd, intV, zQ, fillV, srcE, dm, dm1, consO, cellA, maxL, minL, keepO, Q0, Q1, Q2, Q3, Q4, Q5, zJ, zm, zq, zw, zx, Q6, Q7, Q8, Q9, Q10, Q11, Q12, Q13, Q14, Nat.reduceAdd, Q15, Int.reduceToNat, Q16, Q17, Q18, Q19, Q20, reduceIte, Q21, Q22, zr, a]; rfl) : P := (e a).mpr h
theorem gq24 {P Q : Prop} (h : Q) (e : P = Q := by simp -dsimp only [↓zad, ↓loopL, ↓binC, ↓unC, ↓zK, ↓zB, ↓zC, ↓zD, ↓zM, ↓lenC, ↓slcC, ↓convC, ↓boxC, ↓zF, ↓loadC, ↓zo, ↓nilC, ↓zh, ↓zS, ↓zy, ↓idxSC, ↓idxAC, ↓zi, ↓zE, ↓zl, ↓zt, ↓zW, ↓maxC, ↓minC, ↓zY, ↓zac, ↓mgetC, ↓msetC, ↓mdelC, ↓zn, ↓zU, ↓zA, ↓zp, ↓zL, binA, intOp, strOp, unA, esOf, bnd, intV, zQ, fillV, srcE, dm, dm1, consO, cellA, maxL, minL, keepO, Q0, Q1, Q2, Q3, Q4, Q5, zJ, zm, zq, zw, zx, Q6, Q7, Q8, Q9, Q10, Q11, Q12, Q13, Q14, Nat.reduceAdd, Q15, Int.reduceToNat, Q16, Q17, Q18, Q19, Q20, reduceIte, Q21, Q22, zr]; rfl) : P := e.mpr h
theorem gq25 {A P Q : Prop} (a : A) (h : Q) (e : A → P = Q := by intro a; simp -dsimp only [↓zad, ↓loopL, ↓binC, ↓unC, ↓zK, ↓zB, ↓zC, ↓zD, ↓zM, ↓lenC, ↓slcC, ↓convC, ↓boxC, ↓zF, ↓loadC, ↓zo, ↓nilC, ↓zh, ↓zS, ↓zy, ↓idxSC, ↓idxAC, ↓zi, ↓zE, ↓zl, ↓zt, ↓zW, ↓maxC, ↓minC, ↓zY, ↓zac, ↓mgetC, ↓msetC, ↓mdelC, ↓zn, ↓zU, ↓zA, ↓zp, ↓zL, binA, intOp, strOp, unA, esOf, bnd, intV, zQ, fillV, srcE, dm, dm1, consO, cellA, maxL, minL, keepO, Q0, Q1, Q2, Q3, Q4, Q5, zJ, zm, zq, zw, zx, Q6, Q7, Q8, Q9, Q10, Q11, Q12, Q13, Q14, Nat.reduceAdd, Q15, Int.reduceToNat, Q16, Q17, Q18, Q19, Q20, reduceIte, Q21, Q22, Int.toNat_natCast, zr, a]; rfl) : P := (e a).mpr h
theorem gq26 {P Q : Prop} (h : Q) (e : P = Q := by simp -dsimp only [↓zad, ↓loopL, ↓binC, ↓unC, ↓zK, ↓zB, ↓zC, ↓zD, ↓zM, ↓lenC, ↓slcC, ↓convC, ↓boxC, ↓zF, ↓loadC, ↓zo, ↓nilC, ↓zh, ↓zS, ↓zy, ↓idxSC, ↓idxAC, ↓zi, ↓zE, ↓zl, ↓zt, ↓zW, ↓maxC, ↓minC, ↓zY, ↓zac, ↓mgetC, ↓msetC, ↓mdelC, ↓zn, ↓zU, ↓zA, ↓zp, ↓zL, binA, intOp, strOp, unA, esOf, bnd, intV, zQ, fillV, srcE, dm, dm1, consO, cellA, maxL, minL, keepO, Q0, Q1, Q2, Q3, Q4, Q5, zJ, zm, zq, zw, zx, Q6, Q7, Q8, Q9, Q10, Q11, Q12, Q13, Q14, Nat.reduceAdd, Q15, Int.reduceToNat, Q16, Q17, Q18, Q19, Q20, reduceIte, Q21, Q22, zL, zr]; rfl) : P := e.mpr h
theorem zig {σ : List AObj} {a b : List (List UInt8)} (ha : a.length ≤ 1073741824) (hb : b.length ≤ 1073741824) {K : AV → List AObj → Prop} (hK : K (.d (.bool (a == b))) σ) :
    ACall Try.prog zZ [.d (.slice (recsE a)), .d (.slice (recsE b)), .fn (.func zeQ) [] []] σ K := by
  refine zu zav rfl fun hl _ => zaA ?_
  (refine gq22 ?_; try with_reducible exact True.intro)
  refine zV (fun h => ?_) (fun h => ?_)
  all_goals (try (refine gq23 h ?_; try with_reducible exact True.intro))
  · (first | refine zg (by simp [Low_d, dmT, dm, dm1, pack, zc, zd, zb]) hl ?_ | refine ze (by simp [Low_d, dmT, dm, dm1, pack, zc, zd, zb]) hl ?_)
    have : (a == b) = false := by
      rw [beq_eq_false_iff_ne]
      rintro rfl
      simp at h
    rw [this] at hK; exact hK
  have hl2 : a.length = b.length := by simp at h; omega
  refine zab a.length (fun k vs s => vs = [.d (.int .i64 k)] ∧ s = σ ∧ a.take k = b.take k) ⟨rfl, rfl, by simp⟩ ?_
  rintro k vs s hk ⟨rfl, rfl, htk⟩
  (refine gq24 ?_; try with_reducible exact True.intro)
  refine zV (fun h => ?_) (fun h => ?_)
  all_goals (try (refine gq23 h ?_; try with_reducible exact True.intro))
  · have hka : k < a.length := by simp at h; omega
    have hx : a[k]? = some a[k] := by simp [hka]
    have hy : b[k]? = some (b[k]'(by omega)) := List.getElem?_eq_getElem _
    (refine gq25 (gqc1 (zcR hx) (zcR hy)) ?_; try with_reducible exact True.intro)
    refine ⟨by omega, by omega, c_Same_1 ?_⟩
    (refine gq26 ?_; try with_reducible exact True.intro)
    refine zV (fun h => ?_) (fun h => ?_)
    all_goals (try (refine gq23 h ?_; try with_reducible exact True.intro))
    · refine Again.next hka ⟨?_, rfl, take_succ_eq hx hy htk (by simpa using h)⟩
      rw [zai (by omega) (by omega)]; rfl
    · (first | refine zg (by simp [Low_d, dmT, dm, dm1, pack, zc, zd, zb]) hl ?_ | refine ze (by simp [Low_d, dmT, dm, dm1, pack, zc, zd, zb]) hl ?_)
      have : (a == b) = false := by
        rw [beq_eq_false_iff_ne]
        rintro rfl
        simp at h
      rw [this] at hK; exact hK
  · (first | refine zg (by simp [Low_d, dmT, dm, dm1, pack, zc, zd, zb]) hl ?_ | refine ze (by simp [Low_d, dmT, dm, dm1, pack, zc, zd, zb]) hl ?_)
    have : (a == b) = true := by
      rw [beq_iff_eq]
      exact take_eq_of hl2 (k := k) (by simp at h; omega) htk
    rw [this] at hK; exact hK
/-- op.Same -/
theorem c_Same {σ : List AObj} {a b : TOp} (ha : a.recs.length ≤ 1073741824) (hb : b.recs.length ≤ 1073741824) {K : AV → List AObj → Prop} (hK : K (.d (.bool (decide (a = b)))) σ) : ACall Try.prog zkG [opA a, opA b] σ K := by
  refine zu isA_op_Same rfl fun hl _ => s_op_Same ?_
  simp only [S_op_Same, opA]
  repeat' first
    | (refine gq20 ?_; try with_reducible exact True.intro)
    | (refine zV (fun h => ?_) (fun h => ?_) <;> (try rw [h]))
    | refine zig ha hb ?_
  all_goals (first | refine zg (by simp [Low_d, dmT, dm, dm1, pack, zc, zd, zb]) hl ?_ | refine ze (by simp [Low_d, dmT, dm, dm1, pack, zc, zd, zb]) hl ?_)
  all_goals simp only [beq_iff_eq, beq_eq_false_iff_ne, ne_eq] at *
  · have e : decide (a = b) = (a.recs == b.recs) := by
      rw [Bool.eq_iff_iff]
      cases a; cases b
      simp_all
    rw [e] at hK; exact hK
  all_goals
    have e : decide (a = b) = false := by
      cases a; cases b
      simp_all
    rw [e] at hK; exact hK
end Go.Proofs.Ytcappjcojggehaa
