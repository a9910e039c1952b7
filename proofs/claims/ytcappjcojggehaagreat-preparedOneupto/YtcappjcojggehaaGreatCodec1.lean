/- Contracts of the small functions over bytes. -/
import Derived.Test.YtcappjcojggehaaGreatSh
import Derived.Test.YtcappjcojggehaaGreatAwEnd
import Derived.Test.YtcappjcojggehaaGreatCl1
import Derived.Test.YtcappjcojggehaaGreatSpNum
set_option linter.all false
set_option maxRecDepth 100000
set_option linter.unusedSimpArgs false
namespace Go.Proofs.YtcappjcojggehaaGreat
open Go.AW

theorem zov {σ : List zb} {es : List (List D)} {K : AV → List zb → Prop} (he : ∀ e ∈ es, e.length = 1) (hK : K (.exact es) σ) : zN Tryz.prog zce [.d (.slice es)] σ K := by
  refine zbu zds.is rfl (fun _ => []) fun hl _ => zds.goes ?_
  simp only [zdx, iN, bT, bF, eN, gF, gT, gFm, gTm, fl, nfl, gFl, gTl, il, cp, orC, anC, cA, bP, z1, z2, m1, List.map_cons, List.map_nil, zaz, zbQ, zbv, bnd, zcb, zM]
  refine ⟨rfl, trivial, by omega, by omega, by omega, he, ?_⟩
  simp only [zmw, zoG, getL, zlr, zcW, zca]
  simpa using ⟨hl, hK⟩
theorem zoA {σ : List zb} {a b : List UInt8} {K : AV → List zb → Prop} (hK : K (.d (.bool (a == b))) σ) : zN Tryz.prog zgu [.d (.slice (bcs a)), .d (.slice (bcs b))] σ K := by
  refine zk zjh.is rfl fun hl _ => zjh.goes ?_
  simp only [zjx, iN, bT, bF, eN, gF, gT, gFm, gTm, fl, nfl, gFl, gTl, il, cp, orC, anC, cA, bP, z1, z2, m1, List.map_cons, List.map_nil, zY, zbQ, zgz, zbL, zbM, zaD, zM]
  exact zlS (by simp [zhi, dmT, dm, dm1, zcW]) hl hK
end Go.Proofs.YtcappjcojggehaaGreat

/- Contracts: how numbers and byte strings are put. -/
set_option maxRecDepth 100000
set_option linter.unusedSimpArgs false
namespace Go.Proofs.YtcappjcojggehaaGreat
open Go.AW

def bva (bs : List UInt8) : List AV := bs.map fun b => .d (.int .u8 (b.toNat : Int))
def zdF (bs : List UInt8) : List AV := bva bs ++ List.replicate (10 - bs.length) (.d (.int .u8 0))

theorem zmQ {pre : List UInt8} {b : UInt8} (h : pre.length < 10) : zL (zdF pre) pre.length [.d (.int .u8 (b.toNat : Int))] = zdF (pre ++ [b]) := by
  simp only [zL, zdF, bva, List.length_singleton]
  obtain ⟨m, hm⟩ : ∃ m, 10 - pre.length = m + 1 := ⟨9 - pre.length, by omega⟩
  rw [hm, List.take_left' (by simp), List.drop_append]
  simp only [List.length_map]
  rw [List.drop_eq_nil_of_le (by simp), show pre.length + 1 - pre.length = 1 by omega, List.replicate_succ]
  simp [List.length_append, show 10 - (pre.length + 1) = m by omega]

theorem byte_or (m : Nat) : IntKind.u8.wrap ↑(BitVec.ofInt IntKind.u8.bits (IntKind.u8.wrap (m : Int)) ||| BitVec.ofInt IntKind.u8.bits 128).toNat = ((UInt8.ofNat (m % 128 + 128)).toNat : Int) := by
  rw [wrap8 m, show IntKind.u8.bits = 8 from rfl, or128 ⟨m % 256, by omega⟩, ziL (by simp; omega), zhZ (by omega)]
  simp
theorem byte_wrap {m : Nat} (h : m < 128) : IntKind.u8.wrap (m : Int) = ((UInt8.ofNat m).toNat : Int) := by
  rw [ziL (by omega), zhZ (by omega)]
theorem shr7 (m : Nat) : ((m : Int)).fdiv (2 ^ min 7 IntKind.u64.bits) = ((m / 128 : Nat) : Int) := by
  rw [show min 7 IntKind.u64.bits = 7 from rfl, Int.fdiv_eq_ediv_of_nonneg _ (by decide)]
  rfl
theorem ziS {pre : List UInt8} (h : pre.length ≤ 10) : (zdF pre).length = 10 := by simp [zdF, bva]; omega
theorem pad10_sc (pre : List UInt8) : (zdF pre).all sc = true := by
  simp only [zdF, bva, List.all_append, List.all_map, List.all_replicate, Bool.and_eq_true]
  refine ⟨by simp [sc], ?_⟩
  cases 10 - pre.length <;> simp [sc]

theorem pad10_d (pre : List UInt8) : zdF pre = ((pre.map fun b => D.int .u8 (b.toNat : Int)) ++ List.replicate (10 - pre.length) (D.int .u8 0)).map AV.d := by
  simp [zdF, bva, Function.comp_def]
theorem gq14 {P Q : Prop} (h : Q) (e : P = Q := by simp -dsimp only [↓zcI, ↓zai, ↓zaH, ↓zcJ, ↓zcE, ↓zcC, ↓zcF, ↓zcD, ↓zaM, ↓zaI, ↓zaN, ↓zaJ, ↓zcG, ↓zaG, ↓zaO, ↓zaK, ↓zaP, ↓zaL, ↓zcB, ↓zcH, ↓zaF, ↓zaQ, ↓zcy, ↓zcx, ↓zcA, iN, bT, bF, eN, ↓zbL, ↓unC, ↓zH, ↓zw, ↓zx, ↓zB, ↓zK, ↓zaz, ↓zbv, ↓zY, ↓zbh, ↓zP, ↓zr, ↓zp, ↓zbj, ↓zf, ↓zU, ↓zF, ↓zan, ↓zas, ↓zc, ↓zC, ↓zj, ↓zl, ↓zab, ↓zbK, ↓zbJ, ↓zae, ↓zah, ↓zam, ↓zav, ↓zaB, ↓zg, ↓zW, ↓zy, ↓zi, ↓zJ, zbM, zaE, zaD, unA, zbQ, bnd, zcb, zQ, zag, zcd, dm, dm1, zM, zao, zcr, zcq, zS, Q0, Q1, Q2, Q3, Q4, Q5, zG, zh, zn, zq, zt, Q6, Q7, Q8, Q9, Q10, Q11, Q12, Q13, Q14, Nat.reduceAdd, Q15, Int.reduceToNat, Q16, Q17, Q18, Q19, Q20, reduceIte, Q21, Q22]; rfl) : P := e.mpr h
theorem gq15 {A P Q : Prop} (a : A) (h : Q) (e : A → P = Q := by intro a; simp -dsimp only [↓zcI, ↓zai, ↓zaH, ↓zcJ, ↓zcE, ↓zcC, ↓zcF, ↓zcD, ↓zaM, ↓zaI, ↓zaN, ↓zaJ, ↓zcG, ↓zaG, ↓zaO, ↓zaK, ↓zaP, ↓zaL, ↓zcB, ↓zcH, ↓zaF, ↓zaQ, ↓zcy, ↓zcx, ↓zcA, iN, bT, bF, eN, ↓zbL, ↓unC, ↓zH, ↓zw, ↓zx, ↓zB, ↓zK, ↓zaz, ↓zbv, ↓zY, ↓zbh, ↓zP, ↓zr, ↓zp, ↓zbj, ↓zf, ↓zU, ↓zF, ↓zan, ↓zas, ↓zc, ↓zC, ↓zj, ↓zl, ↓zab, ↓zbK, ↓zbJ, ↓zae, ↓zah, ↓zam, ↓zav, ↓zaB, ↓zg, ↓zW, ↓zy, ↓zi, ↓zJ, zbM, zaE, zaD, unA, zbQ, bnd, zcb, zQ, zag, zcd, dm, dm1, zM, zao, zcr, zcq, zS, Q0, Q1, Q2, Q3, Q4, Q5, zG, zh, zn, zq, zt, Q6, Q7, Q8, Q9, Q10, Q11, Q12, Q13, Q14, Nat.reduceAdd, Q15, Int.reduceToNat, Q16, Q17, Q18, Q19, Q20, reduceIte, Q21, Q22, a]; rfl) : P := (e a).mpr h
theorem c_form {σ : List zb} {n : Nat} (hn : n < 18446744073709551616) {K : AV → List zb → Prop} (hK : K (.tup [.agg (zdF (zct n)), .d (.int .i64 (zct n).length)]) σ) : zN Tryz.prog zhq [.d (.int .u64 n)] σ K := by
  refine zk zkE.is rfl fun hl _ => zkE.goes ?_
  simp only [zkP, iN, bT, bF, eN, zP]
  have hlen := zX hn
  refine zV 10 (fun k vs s => ∃ (m : Nat) (pre : List UInt8), k = pre.length ∧ vs = [.d (.int .u64 m), .d (.int .i64 k)] ∧ zct n = pre ++ zct m ∧ m < 18446744073709551616 ∧
      s = σ ++ [.box (zdF []), .box (zdF pre)]) ⟨n, [], rfl, rfl, rfl, hn, by simp [zdF, bva]⟩ ?_
  rintro k vs s hk ⟨m, pre, rfl, rfl, hpre, hm, rfl⟩
  have hm10 := zX hm
  have hpl : pre.length + (zct m).length ≤ 10 := by rw [hpre] at hlen; simpa using hlen.2
  have hp : pre.length < 10 := by omega
  (refine gq14 ?_; try with_reducible exact True.intro)
  refine zZ (fun h => ?_) (fun h => ?_)
  all_goals (try (refine gq15 h ?_; try with_reducible exact True.intro))
  · have h1 : ¬ m < 128 := by simp at h; omega
    have h2 := zkZ h1
    rw [h2] at hpl
    simp at hpl
    rw [byte_or, shr7, zmQ hp]
    refine ⟨by omega, by omega, by have := ziS (pre := pre) (by omega); omega, by simp [sc], by omega, ?_⟩
    refine zaR.next (by omega) ⟨m / 128, pre ++ [UInt8.ofNat (m % 128 + 128)], by simp, ?_, by rw [hpre, h2]; simp, by omega, rfl⟩
    rw [zaj (by omega) (by omega)]
    rfl
  · have h1 : m < 128 := by simp at h; omega
    have h2 := zfE h1
    rw [byte_wrap h1, zmQ hp]
    have hp1 : (zdF (pre ++ [UInt8.ofNat m])).length = 10 := ziS (by simp; omega)
    have hsp : zL (zdF []) 0 (zdF (pre ++ [UInt8.ofNat m])) = zdF (pre ++ [UInt8.ofNat m]) := by
      simp only [zL, Nat.zero_add, List.take_zero, List.nil_append]
      rw [hp1, List.drop_eq_nil_of_le (by simp [zdF, bva]), List.append_nil]
    have htk : List.take 10 (List.drop 0 (zdF (pre ++ [UInt8.ofNat m]))) = zdF (pre ++ [UInt8.ofNat m]) := by
      rw [List.drop_zero, List.take_of_length_le (by omega)]
    rw [htk, hsp, htk, if_pos (by omega)]
    refine ⟨by omega, by omega, by have := ziS (pre := pre) (by omega); omega, by simp [sc], by omega, by omega, by simp [zdF, bva], pad10_sc _, ?_⟩
    have hd : dmT (zcW [.agg (zdF (pre ++ [UInt8.ofNat m])), .d (.int .i64 (IntKind.i64.wrap (↑pre.length + 1)))]) = .tup [.agg (zdF (pre ++ [UInt8.ofNat m])), .d (.int .i64 (zct n).length)] := by
      rw [zaj (by omega) (by omega), hpre, h2]
      simp only [zcW, dmT, List.map_cons, List.map_nil, dm, pad10_d, map_dm1_d, dm1]
      rw [List.length_append]; rfl
    refine znm ?_ hl ?_
    · rw [hd, pad10_d, zec]
      intro c hc
      rcases List.mem_cons.1 hc with rfl | hc
      · exact .agg _ (low_map_d _ _)
      · have hc := List.mem_singleton.1 hc
        subst hc; exact .d _
    · rw [hd]; rw [hpre, h2] at hK ⊢; exact hK

theorem toDs_bva (bs : List UInt8) (r : List AV) (ds : List D) (h : zcz r = some ds) : zcz (bva bs ++ r) = some ((bs.map fun b => D.int .u8 (b.toNat : Int)) ++ ds) := by
  induction bs with
  | nil => simpa [bva] using h
  | cons b bs ih => simp only [bva, List.map_cons, List.cons_append, zcz, toD] at ih ⊢; rw [ih]
theorem chunks1 (bs : List UInt8) : zac 1 bs.length (bs.map fun b => D.int .u8 (b.toNat : Int)) = bcs bs := by
  induction bs with
  | nil => rfl
  | cons b bs ih => simp only [List.length_cons, List.map_cons, zac, bcs, List.take_succ_cons, List.take_zero, List.drop_succ_cons, List.drop_zero] at ih ⊢; rw [ih]; rfl

theorem zdN {σ : List zb} {b : List UInt8} {n : Nat} (hn : n < 18446744073709551616) (hb : b.length ≤ 1073741824) {K : AV → List zb → Prop} (hK : K (.own σ.length (bcs (b ++ zct n))) (σ ++ [.tok 1 (b ++ zct n).length])) :
    zN Tryz.prog zaC [.d (.slice (bcs b)), .d (.int .u64 n)] σ K := by
  refine zbu zik.is rfl (fun s => [σ.length + 1]) fun hl _ => zik.goes ?_
  have hlen := zX hn
  simp only [ziv, iN, bT, bF, eN, gF, gT, gFm, gTm, fl, nfl, gFl, gTl, il, cp, orC, anC, cA, bP, z1, z2, m1, List.map_cons, List.map_nil]
  simp only [dm, dm1]
  refine c_form hn ?_
  have hp := ziS hlen.2
  have hsp : zL (List.replicate 10 (AV.d (D.int .u8 0))) 0 (zdF (zct n)) = zdF (zct n) := by
    simp only [zL, Nat.zero_add, List.take_zero, List.nil_append]
    rw [hp, List.drop_eq_nil_of_le (by simp), List.append_nil]
  have hrep : [AV.d (D.int .u8 0), .d (.int .u8 0), .d (.int .u8 0), .d (.int .u8 0), .d (.int .u8 0), .d (.int .u8 0), .d (.int .u8 0), .d (.int .u8 0), .d (.int .u8 0), .d (.int .u8 0)] = List.replicate 10 (AV.d (D.int .u8 0)) := rfl
  (refine gq14 ?_; try with_reducible exact True.intro)
  refine ⟨hp, by omega, pad10_sc _, by omega, by omega, by omega, by omega, ?_⟩
  refine zov zdK ?_
  rw [hrep, hsp]
  (refine gq14 ?_; try with_reducible exact True.intro)
  have htk : zcz (List.take ((zct n).length - Int.toNat 0) (List.drop (Int.toNat 0) (zdF (zct n)))) = some ((zct n).map fun b => D.int .u8 (b.toNat : Int)) := by
    simp only [Int.toNat_zero, Nat.sub_zero, List.drop_zero]
    rw [zdF, List.take_left' (by simp [bva])]
    have := toDs_bva (zct n) [] [] rfl
    simpa using this
  simp only [Int.toNat_zero] at htk
  rw [htk, if_pos (by omega), Nat.sub_zero]
  simp only [Option.map_some, chunks1]
  refine ⟨zdK, zdK, by simp [bcs]; omega, ?_⟩
  rw [zkk]
  refine endsK_own rfl hl (by omega) (by rw [zh]; rfl) ?_
  simpa [bcs] using hK

theorem gq16 {P Q : Prop} (h : Q) (e : P = Q := by simp -dsimp only [↓zcI, ↓zai, ↓zaH, ↓zcJ, ↓zcE, ↓zcC, ↓zcF, ↓zcD, ↓zaM, ↓zaI, ↓zaN, ↓zaJ, ↓zcG, ↓zaG, ↓zaO, ↓zaK, ↓zaP, ↓zaL, ↓zcB, ↓zcH, ↓zaF, ↓zaQ, ↓zcy, ↓zcx, ↓zcA, iN, bT, bF, eN, ↓zbL, ↓unC, ↓zH, ↓zw, ↓zx, ↓zB, ↓zK, ↓zaz, ↓zbv, ↓zY, ↓zbh, ↓zP, ↓zr, ↓zp, ↓zbj, ↓zf, ↓zU, ↓zF, ↓zan, ↓zas, ↓zc, ↓zC, ↓zj, ↓zl, ↓zab, ↓zbK, ↓zbJ, ↓zae, ↓zah, ↓zam, ↓zav, ↓zaB, ↓zg, ↓zW, ↓zy, ↓zi, ↓zJ, zbM, zaE, zaD, unA, zbQ, bnd, zcb, zQ, zag, zcd, dm, dm1, zM, zao, zcr, zcq, zS, Q0, Q1, Q2, Q3, Q4, Q5, zG, zh, zn, zq, zt, Q6, Q7, Q8, Q9, Q10, Q11, Q12, Q13, Q14, Nat.reduceAdd, Q15, Int.reduceToNat, Q16, Q17, Q18, Q19, Q20, reduceIte, Q21, Q22, zha]; rfl) : P := e.mpr h
theorem zkh {σ : List zb} {b x : List UInt8} (hx : x.length ≤ 1073741824) (hb : b.length ≤ 1073741800) {K : AV → List zb → Prop} (hK : K (.own σ.length (bcs (b ++ (zct x.length ++ x)))) (σ ++ [.tok 1 (b ++ (zct x.length ++ x)).length])) :
    zN Tryz.prog zbE [.d (.slice (bcs b)), .d (.slice (bcs x))] σ K := by
  refine zbu zgO.is rfl (fun s => [σ.length]) fun hl _ => zgO.goes ?_
  have hlen := zX (n := x.length) (by omega)
  (refine gq16 ?_; try with_reducible exact True.intro)
  have hw : IntKind.u64.wrap ((bcs x).length : Int) = (x.length : Int) := by rw [zbV (by simp [bcs]; omega)]; simp [bcs]
  rw [hw]
  refine zdN (by omega) (by omega) ?_
  (refine gq14 ?_; try with_reducible exact True.intro)
  refine ⟨zdK, by simp [bcs]; omega, by simp [bcs], ?_⟩
  rw [zkk]
  simp only [List.append_assoc]
  refine zfN hl rfl ?_
  simpa [bcs, Nat.add_assoc] using hK

theorem div128 {m : Nat} (h : m < 18446744073709551616) : IntKind.u64.wrap ((m : Int).tdiv 128) = ((m / 128 : Nat) : Int) := by
  rw [show ((m : Int).tdiv 128) = ((m / 128 : Nat) : Int) from by rw [Int.tdiv_eq_ediv_of_nonneg (by omega)]; rfl, zbV (by omega)]
theorem rem128 (m : Nat) : (m : Int).tmod 128 = ((m % 128 : Nat) : Int) := by
  rw [Int.tmod_eq_emod_of_nonneg (by omega)]; rfl

theorem gq17 {P Q : Prop} (h : Q) (e : P = Q := by simp -dsimp only [↓zcI, ↓zai, ↓zaH, ↓zcJ, ↓zcE, ↓zcC, ↓zcF, ↓zcD, ↓zaM, ↓zaI, ↓zaN, ↓zaJ, ↓zcG, ↓zaG, ↓zaO, ↓zaK, ↓zaP, ↓zaL, ↓zcB, ↓zcH, ↓zaF, ↓zaQ, ↓zcy, ↓zcx, ↓zcA, iN, bT, bF, eN, ↓zbL, ↓unC, ↓zH, ↓zw, ↓zx, ↓zB, ↓zK, ↓zaz, ↓zbv, ↓zY, ↓zbh, ↓zP, ↓zr, ↓zp, ↓zbj, ↓zf, ↓zU, ↓zF, ↓zan, ↓zas, ↓zc, ↓zC, ↓zj, ↓zl, ↓zab, ↓zbK, ↓zbJ, ↓zae, ↓zah, ↓zam, ↓zav, ↓zaB, ↓zg, ↓zW, ↓zy, ↓zi, ↓zJ, zbM, zaE, zaD, unA, zbQ, bnd, zcb, zQ, zag, zcd, dm, dm1, zM, zao, zcr, zcq, zS, Q0, Q1, Q2, Q3, Q4, Q5, zG, zh, zn, zq, zt, Q6, Q7, Q8, Q9, Q10, Q11, Q12, Q13, Q14, Nat.reduceAdd, Q15, Int.reduceToNat, Q16, Q17, Q18, Q19, Q20, reduceIte, Q21, Q22, zkM]; rfl) : P := e.mpr h
theorem gq18 {P Q : Prop} (h : Q) (e : P = Q := by simp -dsimp only [↓zcI, ↓zai, ↓zaH, ↓zcJ, ↓zcE, ↓zcC, ↓zcF, ↓zcD, ↓zaM, ↓zaI, ↓zaN, ↓zaJ, ↓zcG, ↓zaG, ↓zaO, ↓zaK, ↓zaP, ↓zaL, ↓zcB, ↓zcH, ↓zaF, ↓zaQ, ↓zcy, ↓zcx, ↓zcA, iN, bT, bF, eN, ↓zbL, ↓unC, ↓zH, ↓zw, ↓zx, ↓zB, ↓zK, ↓zaz, ↓zbv, ↓zY, ↓zbh, ↓zP, ↓zr, ↓zp, ↓zbj, ↓zf, ↓zU, ↓zF, ↓zan, ↓zas, ↓zc, ↓zC, ↓zj, ↓zl, ↓zab, ↓zbK, ↓zbJ, ↓zae, ↓zah, ↓zam, ↓zav, ↓zaB, ↓zg, ↓zW, ↓zy, ↓zi, ↓zJ, zbM, zaE, zaD, unA, zbQ, bnd, zcb, zQ, zag, zcd, dm, dm1, zM, zao, zcr, zcq, zS, Q0, Q1, Q2, Q3, Q4, Q5, zG, zh, zn, zq, zt, Q6, Q7, Q8, Q9, Q10, Q11, Q12, Q13, Q14, Nat.reduceAdd, Q15, Int.reduceToNat, Q16, Q17, Q18, Q19, Q20, reduceIte, Q21, Q22, rep, zL, zcz, toD, zac, Q23, Q24, Q25, Q26, Q27, Q28, Nat.reduceLeDiff, Q29, Nat.reduceSub, Q30, Q31, Q32, sc, Q33, Q34, Q35]; rfl) : P := e.mpr h
theorem zdv {σ : List zb} {b : List UInt8} {n : Nat} (hn : n < 18446744073709551616) (hb : b.length ≤ 1073741824) {K : AV → List zb → Prop} (hK : K (.own σ.length (bcs (b ++ zct n))) (σ ++ [.tok 1 (b ++ zct n).length])) :
    zN Tryz.prog zbd [.d (.slice (bcs b)), .d (.int .u64 n)] σ K := by
  refine zbu zkB.is rfl (fun s => [σ.length]) fun hl _ => zkB.goes ?_
  have hlen := zX hn
  (refine gq17 ?_; try with_reducible exact True.intro)
  refine ⟨zdK, by simp, by simp [bcs]; omega, ?_⟩
  refine zV 10 (fun k vs s => ∃ (m : Nat) (pre : List UInt8), k = pre.length ∧ vs = [.d (.int .u64 m), .own σ.length (bcs (b ++ pre))] ∧ zct n = pre ++ zct m ∧ m < 18446744073709551616 ∧
      s = σ ++ [.tok 1 (b ++ pre).length]) ⟨n, [], rfl, by simp, rfl, hn, by simp [bcs]⟩ ?_
  rintro k vs s hk ⟨m, pre, rfl, rfl, hpre, hm, rfl⟩
  have hm10 := zX hm
  have hpl : pre.length + (zct m).length ≤ 10 := by rw [hpre] at hlen; simpa using hlen.2
  (refine gq14 ?_; try with_reducible exact True.intro)
  refine zZ (fun h => ?_) (fun h => ?_)
  all_goals (try (refine gq15 h ?_; try with_reducible exact True.intro))
  · have h1 : ¬ m < 128 := by simp at h; omega
    have h2 := zkZ h1
    rw [h2] at hpl
    simp at hpl
    have hc : IntKind.u8.wrap (IntKind.u8.wrap ((m : Int).tmod 128) + 128) = ((UInt8.ofNat (m % 128 + 128)).toNat : Int) := by
      rw [rem128, ziL (by omega), zhZ (by omega), show ((m % 128 : Nat) : Int) + 128 = ((m % 128 + 128 : Nat) : Int) from rfl]
      exact ziL (by omega)
    (refine gq18 ?_; try with_reducible exact True.intro)
    rw [hc, div128 hm]
    refine ⟨by decide, by simp, by simp [bcs]; omega, by simp [bcs], by decide, ?_⟩
    refine zaR.next (by omega) ⟨m / 128, pre ++ [UInt8.ofNat (m % 128 + 128)], by simp, ?_, by rw [hpre, h2]; simp, by omega, ?_⟩
    · simp [bcs, zbb]
    · simp [bcs, Nat.add_assoc]
  · have h1 : m < 128 := by simp at h; omega
    have h2 := zfE h1
    (refine gq18 ?_; try with_reducible exact True.intro)
    rw [byte_wrap h1]
    refine ⟨by simp, by simp [bcs]; omega, by simp [bcs], ?_⟩
    rw [hpre, h2] at hK
    have e : bcs (b ++ pre) ++ [[D.int .u8 ((UInt8.ofNat m).toNat : Int)]] = bcs (b ++ (pre ++ [UInt8.ofNat m])) := by simp [bcs, zbb]
    rw [e]
    refine zfN hl rfl ?_
    simpa [bcs, Nat.add_assoc] using hK
theorem gq19 {P Q : Prop} (h : Q) (e : P = Q := by simp -dsimp only [↓zcI, ↓zai, ↓zaH, ↓zcJ, ↓zcE, ↓zcC, ↓zcF, ↓zcD, ↓zaM, ↓zaI, ↓zaN, ↓zaJ, ↓zcG, ↓zaG, ↓zaO, ↓zaK, ↓zaP, ↓zaL, ↓zcB, ↓zcH, ↓zaF, ↓zaQ, ↓zcy, ↓zcx, ↓zcA, iN, bT, bF, eN, ↓zbL, ↓unC, ↓zH, ↓zw, ↓zx, ↓zB, ↓zK, ↓zaz, ↓zbv, ↓zY, ↓zbh, ↓zP, ↓zr, ↓zp, ↓zbj, ↓zf, ↓zU, ↓zF, ↓zan, ↓zas, ↓zc, ↓zC, ↓zj, ↓zl, ↓zab, ↓zbK, ↓zbJ, ↓zae, ↓zah, ↓zam, ↓zav, ↓zaB, ↓zg, ↓zW, ↓zy, ↓zi, ↓zJ, zbM, zaE, zaD, unA, zbQ, bnd, zcb, zQ, zag, zcd, dm, dm1, zM, zao, zcr, zcq, zS, Q0, Q1, Q2, Q3, Q4, Q5, zG, zh, zn, zq, zt, Q6, Q7, Q8, Q9, Q10, Q11, Q12, Q13, Q14, Nat.reduceAdd, Q15, Int.reduceToNat, Q16, Q17, Q18, Q19, Q20, reduceIte, Q21, Q22, zir]; rfl) : P := e.mpr h
theorem ziF {σ : List zb} {b x : List UInt8} (hx : x.length ≤ 1073741824) (hb : b.length ≤ 1073741800) {K : AV → List zb → Prop} (hK : K (.own σ.length (bcs (b ++ (zct x.length ++ x)))) (σ ++ [.tok 1 (b ++ (zct x.length ++ x)).length])) :
    zN Tryz.prog zcu [.d (.slice (bcs b)), .d (.slice (bcs x))] σ K := by
  refine zbu zig.is rfl (fun s => [σ.length]) fun hl _ => zig.goes ?_
  have hlen := zX (n := x.length) (by omega)
  (refine gq19 ?_; try with_reducible exact True.intro)
  have hw : IntKind.u64.wrap ((bcs x).length : Int) = (x.length : Int) := by rw [zbV (by simp [bcs]; omega)]; simp [bcs]
  rw [hw]
  refine zdv (by omega) (by omega) ?_
  (refine gq14 ?_; try with_reducible exact True.intro)
  refine ⟨zdK, by simp [bcs]; omega, by simp [bcs], ?_⟩
  rw [zkk]
  simp only [List.append_assoc]
  refine zfN hl rfl ?_
  simpa [bcs, Nat.add_assoc] using hK
end Go.Proofs.YtcappjcojggehaaGreat

/- Contracts of operations: which are the same. -/
set_option maxRecDepth 100000
set_option linter.unusedSimpArgs false
namespace Go.Proofs.YtcappjcojggehaaGreat
open Go.AW

theorem zkv {P Q : Prop} (h : Q) (e : P = Q := by simp -dsimp only [↓zcI, ↓zai, ↓zaH, ↓zcJ, ↓zcE, ↓zcC, ↓zcF, ↓zcD, ↓zaM, ↓zaI, ↓zaN, ↓zaJ, ↓zcG, ↓zaG, ↓zaO, ↓zaK, ↓zaP, ↓zaL, ↓zcB, ↓zcH, ↓zaF, ↓zaQ, ↓zcy, ↓zcx, ↓zcA, iN, bT, bF, eN, ↓zbL, ↓unC, ↓zH, ↓zw, ↓zx, ↓zB, ↓zK, ↓zaz, ↓zbv, ↓zY, ↓zbh, ↓zP, ↓zr, ↓zp, ↓zbj, ↓zf, ↓zU, ↓zF, ↓zan, ↓zas, ↓zc, ↓zC, ↓zj, ↓zl, ↓zab, ↓zbK, ↓zbJ, ↓zae, ↓zah, ↓zam, ↓zav, ↓zaB, ↓zg, ↓zW, ↓zy, ↓zi, ↓zJ, zbM, zaE, zaD, unA, zbQ, bnd, zcb, zQ, zag, zcd, dm, dm1, zM, zao, zcr, zcq, zS, Q0, Q1, Q2, Q3, Q4, Q5, zG, zh, zn, zq, zt, Q6, Q7, Q8, Q9, Q10, Q11, Q12, Q13, Q14, Nat.reduceAdd, Q15, Int.reduceToNat, Q16, Q17, Q18, Q19, Q20, reduceIte, Q21, Q22, zm, rep, zL, zcz, toD, zac, Q23, Q24, Q25, Q26, Q27, Q28, Nat.reduceLeDiff, Q29, Nat.reduceSub, Q30, Q31, Q32, sc, Q33, Q34, Q35]; rfl) : P := e.mpr h
theorem c_only {σ : List zb} {o : TOp} {K : AV → List zb → Prop} (hK : K (.tup [opA (zol o), .d (.bool (zdM o))]) σ) : zN Tryz.prog zlz [opA o] σ K := by
  refine zk e_op_only.is rfl fun hl _ => e_op_only.goes ?_
  simp only [S_op_only, iN, bT, bF, eN, opA]
  (repeat' (first | (refine zkv ?_; try with_reducible exact True.intro) | (refine zZ (fun h => ?_) (fun h => ?_) <;> (try rw [h])) | ((with_reducible refine And.intro ?_ ?_); focus (first | omega | rfl | decide))))

  all_goals (first | refine zar hl ?_ | refine zaq hl ?_)
  all_goals simp only [beq_iff_eq, beq_eq_false_iff_ne, ne_eq] at *
  all_goals simp_all [zcW, dmT, dm, dm1, zol, noOp, opA, zdM, zdy]
  have e : (decide (0 ≤ o.kind) && decide (o.kind ≤ 4)) = false := by simp; omega
  rw [e] at hK
  exact hK
theorem gq21 {P Q : Prop} (h : Q) (e : P = Q := by simp -dsimp only [↓zcI, ↓zai, ↓zaH, ↓zcJ, ↓zcE, ↓zcC, ↓zcF, ↓zcD, ↓zaM, ↓zaI, ↓zaN, ↓zaJ, ↓zcG, ↓zaG, ↓zaO, ↓zaK, ↓zaP, ↓zaL, ↓zcB, ↓zcH, ↓zaF, ↓zaQ, ↓zcy, ↓zcx, ↓zcA, iN, bT, bF, eN, ↓zbL, ↓unC, ↓zH, ↓zw, ↓zx, ↓zB, ↓zK, ↓zaz, ↓zbv, ↓zY, ↓zbh, ↓zP, ↓zr, ↓zp, ↓zbj, ↓zf, ↓zU, ↓zF, ↓zan, ↓zas, ↓zc, ↓zC, ↓zj, ↓zl, ↓zab, ↓zbK, ↓zbJ, ↓zae, ↓zah, ↓zam, ↓zav, ↓zaB, ↓zg, ↓zW, ↓zy, ↓zi, ↓zJ, zbM, zaE, zaD, unA, zbQ, bnd, zcb, zQ, zag, zcd, dm, dm1, zM, zao, zcr, zcq, zS, Q0, Q1, Q2, Q3, Q4, Q5, zG, zh, zn, zq, zt, Q6, Q7, Q8, Q9, Q10, Q11, Q12, Q13, Q14, Nat.reduceAdd, Q15, Int.reduceToNat, Q16, Q17, Q18, Q19, Q20, reduceIte, Q21, Q22, zmu, zm]; rfl) : P := e.mpr h
theorem c_Same_1 {σ : List zb} {a b : List UInt8} {K : AV → List zb → Prop} (hK : K (.d (.bool (a == b))) σ) : zN Tryz.prog zgt [.d (.slice (bcs a)), .d (.slice (bcs b))] σ K := by
  refine zk zlZ.is rfl fun hl _ => zlZ.goes ?_
  (refine gq21 ?_; try with_reducible exact True.intro)
  refine zoA ?_
  (first | refine zar hl ?_ | refine zaq hl ?_)
  exact hK
theorem zcl {A B : Prop} (a : A) (b : B) : A ∧ B := ⟨a, b⟩
theorem gq22 {P Q : Prop} (h : Q) (e : P = Q := by simp -dsimp only [↓zcI, ↓zai, ↓zaH, ↓zcJ, ↓zcE, ↓zcC, ↓zcF, ↓zcD, ↓zaM, ↓zaI, ↓zaN, ↓zaJ, ↓zcG, ↓zaG, ↓zaO, ↓zaK, ↓zaP, ↓zaL, ↓zcB, ↓zcH, ↓zaF, ↓zaQ, ↓zcy, ↓zcx, ↓zcA, iN, bT, bF, eN, ↓zbL, ↓unC, ↓zH, ↓zw, ↓zx, ↓zB, ↓zK, ↓zaz, ↓zbv, ↓zY, ↓zbh, ↓zP, ↓zr, ↓zp, ↓zbj, ↓zf, ↓zU, ↓zF, ↓zan, ↓zas, ↓zc, ↓zC, ↓zj, ↓zl, ↓zab, ↓zbK, ↓zbJ, ↓zae, ↓zah, ↓zam, ↓zav, ↓zaB, ↓zg, ↓zW, ↓zy, ↓zi, ↓zJ, zbM, zaE, zaD, unA, zbQ, bnd, zcb, zQ, zag, zcd, dm, dm1, zM, zao, zcr, zcq, zS, Q0, Q1, Q2, Q3, Q4, Q5, zG, zh, zn, zq, zt, Q6, Q7, Q8, Q9, Q10, Q11, Q12, Q13, Q14, Nat.reduceAdd, Q15, Int.reduceToNat, Q16, Q17, Q18, Q19, Q20, reduceIte, Q21, Q22, zau, zm]; rfl) : P := e.mpr h
theorem gq23 {A P Q : Prop} (a : A) (h : Q) (e : A → P = Q := by intro a; simp -dsimp only [↓zcI, ↓zai, ↓zaH, ↓zcJ, ↓zcE, ↓zcC, ↓zcF, ↓zcD, ↓zaM, ↓zaI, ↓zaN, ↓zaJ, ↓zcG, ↓zaG, ↓zaO, ↓zaK, ↓zaP, ↓zaL, ↓zcB, ↓zcH, ↓zaF, ↓zaQ, ↓zcy, ↓zcx, ↓zcA, iN, bT, bF, eN, ↓zbL, ↓unC, ↓zH, ↓zw, ↓zx, ↓zB, ↓zK, ↓zaz, ↓zbv, ↓zY, ↓zbh, ↓zP, ↓zr, ↓zp, ↓zbj, ↓zf, ↓zU, ↓zF, ↓zan, ↓zas, ↓zc, ↓zC, ↓zj, ↓zl, ↓zab, ↓zbK, ↓zbJ, ↓zae, ↓zah, ↓zam, ↓zav, ↓zaB, ↓zg, ↓zW, ↓zy, ↓zi, ↓zJ, zbM, zaE, zaD, unA, zbQ, bnd, zcb, zQ, zag, zcd, dm, dm1, zM, zao, zcr, zcq, zS, Q0, Q1, Q2, Q3, Q4, Q5, zG, zh, zn, zq, zt, Q6, Q7, Q8, Q9, Q10, Q11, Q12, Q13, Q14, Nat.reduceAdd, Q15, Int.reduceToNat, Q16, Q17, Q18, Q19, Q20, reduceIte, Q21, Q22, zm, a]; rfl) : P := (e a).mpr h
theorem gq24 {P Q : Prop} (h : Q) (e : P = Q := by simp -dsimp only [↓zcI, ↓zai, ↓zaH, ↓zcJ, ↓zcE, ↓zcC, ↓zcF, ↓zcD, ↓zaM, ↓zaI, ↓zaN, ↓zaJ, ↓zcG, ↓zaG, ↓zaO, ↓zaK, ↓zaP, ↓zaL, ↓zcB, ↓zcH, ↓zaF, ↓zaQ, ↓zcy, ↓zcx, ↓zcA, iN, bT, bF, eN, ↓zbL, ↓unC, ↓zH, ↓zw, ↓zx, ↓zB, ↓zK, ↓zaz, ↓zbv, ↓zY, ↓zbh, ↓zP, ↓zr, ↓zp, ↓zbj, ↓zf, ↓zU, ↓zF, ↓zan, ↓zas, ↓zc, ↓zC, ↓zj, ↓zl, ↓zab, ↓zbK, ↓zbJ, ↓zae, ↓zah, ↓zam, ↓zav, ↓zaB, ↓zg, ↓zW, ↓zy, ↓zi, ↓zJ, zbM, zaE, zaD, unA, zbQ, bnd, zcb, zQ, zag, zcd, dm, dm1, zM, zao, zcr, zcq, zS, Q0, Q1, Q2, Q3, Q4, Q5, zG, zh, zn, zq, zt, Q6, Q7, Q8, Q9, Q10, Q11, Q12, Q13, Q14, Nat.reduceAdd, Q15, Int.reduceToNat, Q16, Q17, Q18, Q19, Q20, reduceIte, Q21, Q22, zm]; rfl) : P := e.mpr h
theorem gq25 {A P Q : Prop} (a : A) (h : Q) (e : A → P = Q := by intro a; simp -dsimp only [↓zcI, ↓zai, ↓zaH, ↓zcJ, ↓zcE, ↓zcC, ↓zcF, ↓zcD, ↓zaM, ↓zaI, ↓zaN, ↓zaJ, ↓zcG, ↓zaG, ↓zaO, ↓zaK, ↓zaP, ↓zaL, ↓zcB, ↓zcH, ↓zaF, ↓zaQ, ↓zcy, ↓zcx, ↓zcA, iN, bT, bF, eN, ↓zbL, ↓unC, ↓zH, ↓zw, ↓zx, ↓zB, ↓zK, ↓zaz, ↓zbv, ↓zY, ↓zbh, ↓zP, ↓zr, ↓zp, ↓zbj, ↓zf, ↓zU, ↓zF, ↓zan, ↓zas, ↓zc, ↓zC, ↓zj, ↓zl, ↓zab, ↓zbK, ↓zbJ, ↓zae, ↓zah, ↓zam, ↓zav, ↓zaB, ↓zg, ↓zW, ↓zy, ↓zi, ↓zJ, zbM, zaE, zaD, unA, zbQ, bnd, zcb, zQ, zag, zcd, dm, dm1, zM, zao, zcr, zcq, zS, Q0, Q1, Q2, Q3, Q4, Q5, zG, zh, zn, zq, zt, Q6, Q7, Q8, Q9, Q10, Q11, Q12, Q13, Q14, Nat.reduceAdd, Q15, Int.reduceToNat, Q16, Q17, Q18, Q19, Q20, reduceIte, Q21, Q22, Int.toNat_natCast, zm, a]; rfl) : P := (e a).mpr h
theorem gq26 {P Q : Prop} (h : Q) (e : P = Q := by simp -dsimp only [↓zcI, ↓zai, ↓zaH, ↓zcJ, ↓zcE, ↓zcC, ↓zcF, ↓zcD, ↓zaM, ↓zaI, ↓zaN, ↓zaJ, ↓zcG, ↓zaG, ↓zaO, ↓zaK, ↓zaP, ↓zaL, ↓zcB, ↓zcH, ↓zaF, ↓zaQ, ↓zcy, ↓zcx, ↓zcA, iN, bT, bF, eN, ↓zbL, ↓unC, ↓zH, ↓zw, ↓zx, ↓zB, ↓zK, ↓zaz, ↓zbv, ↓zY, ↓zbh, ↓zP, ↓zr, ↓zp, ↓zbj, ↓zf, ↓zU, ↓zF, ↓zan, ↓zas, ↓zc, ↓zC, ↓zj, ↓zl, ↓zab, ↓zbK, ↓zbJ, ↓zae, ↓zah, ↓zam, ↓zav, ↓zaB, ↓zg, ↓zW, ↓zy, ↓zi, ↓zJ, zbM, zaE, zaD, unA, zbQ, bnd, zcb, zQ, zag, zcd, dm, dm1, zM, zao, zcr, zcq, zS, Q0, Q1, Q2, Q3, Q4, Q5, zG, zh, zn, zq, zt, Q6, Q7, Q8, Q9, Q10, Q11, Q12, Q13, Q14, Nat.reduceAdd, Q15, Int.reduceToNat, Q16, Q17, Q18, Q19, Q20, reduceIte, Q21, Q22, zJ, zm]; rfl) : P := e.mpr h
theorem zjo {σ : List zb} {a b : List (List UInt8)} (ha : a.length ≤ 1073741824) (hb : b.length ≤ 1073741824) {K : AV → List zb → Prop} (hK : K (.d (.bool (a == b))) σ) :
    zN Tryz.prog zaf [.d (.slice (zdy a)), .d (.slice (zdy b)), .fn (.func zgt) [] []] σ K := by
  refine zk zat.is rfl fun hl _ => zat.goes ?_
  (refine gq22 ?_; try with_reducible exact True.intro)
  refine zZ (fun h => ?_) (fun h => ?_)
  all_goals (try (refine gq23 h ?_; try with_reducible exact True.intro))
  · (first | refine zar hl ?_ | refine zaq hl ?_)
    have : (a == b) = false := by
      rw [beq_eq_false_iff_ne]
      rintro rfl
      simp at h
    rw [this] at hK; exact hK
  have hl2 : a.length = b.length := by simp at h; omega
  refine zV a.length (fun k vs s => vs = [.d (.int .i64 k)] ∧ s = σ ∧ a.take k = b.take k) ⟨rfl, rfl, by simp⟩ ?_
  rintro k vs s hk ⟨rfl, rfl, htk⟩
  (refine gq24 ?_; try with_reducible exact True.intro)
  refine zZ (fun h => ?_) (fun h => ?_)
  all_goals (try (refine gq23 h ?_; try with_reducible exact True.intro))
  · have hka : k < a.length := by simp at h; omega
    have hx : a[k]? = some a[k] := by simp [hka]
    have hy : b[k]? = some (b[k]'(by omega)) := List.getElem?_eq_getElem _
    (refine gq25 (zcl (zdP hx) (zdP hy)) ?_; try with_reducible exact True.intro)
    refine ⟨by omega, by omega, c_Same_1 ?_⟩
    (refine gq26 ?_; try with_reducible exact True.intro)
    refine zZ (fun h => ?_) (fun h => ?_)
    all_goals (try (refine gq23 h ?_; try with_reducible exact True.intro))
    · refine zaR.next hka ⟨?_, rfl, take_succ_eq hx hy htk (by simpa using h)⟩
      rw [zaj (by omega) (by omega)]; rfl
    · (first | refine zar hl ?_ | refine zaq hl ?_)
      have : (a == b) = false := by
        rw [beq_eq_false_iff_ne]
        rintro rfl
        simp at h
      rw [this] at hK; exact hK
  · (first | refine zar hl ?_ | refine zaq hl ?_)
    have : (a == b) = true := by
      rw [beq_iff_eq]
      exact take_eq_of hl2 (k := k) (by simp at h; omega) htk
    rw [this] at hK; exact hK
theorem c_Same {σ : List zb} {a b : TOp} (ha : a.recs.length ≤ 1073741824) (hb : b.recs.length ≤ 1073741824) {K : AV → List zb → Prop} (hK : K (.d (.bool (decide (a = b)))) σ) : zN Tryz.prog zlA [opA a, opA b] σ K := by
  refine zk e_op_Same.is rfl fun hl _ => e_op_Same.goes ?_
  simp only [S_op_Same, iN, bT, bF, eN, opA]
  repeat' first
    | (refine zkv ?_; try with_reducible exact True.intro)
    | (refine zZ (fun h => ?_) (fun h => ?_) <;> (try rw [h]))
    | refine zjo ha hb ?_
  all_goals (first | refine zar hl ?_ | refine zaq hl ?_)
  all_goals simp only [beq_iff_eq, beq_eq_false_iff_ne, ne_eq] at *
  · have e : decide (a = b) = (a.recs == b.recs) := by
      rw [Bool.eq_iff_iff]
      cases a; cases b
      simp_all
    rw [e] at hK; exact hK
  all_goals
    have e : decide (a = b) = false := by
      cases a; cases b
      simp_all
    rw [e] at hK; exact hK
end Go.Proofs.YtcappjcojggehaaGreat
