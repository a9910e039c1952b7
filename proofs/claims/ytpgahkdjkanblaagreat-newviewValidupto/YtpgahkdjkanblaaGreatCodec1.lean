/- Contracts of the small functions over bytes. -/
import Derived.Test.YtpgahkdjkanblaaGreatSh
import Derived.Test.YtpgahkdjkanblaaGreatAwEnd
import Derived.Test.YtpgahkdjkanblaaGreatQu1
import Derived.Test.YtpgahkdjkanblaaGreatSpOp
import Derived.Test.YtpgahkdjkanblaaGreatSpTab
set_option linter.all false
set_option maxRecDepth 100000
set_option linter.unusedSimpArgs false
namespace Go.Proofs.YtpgahkdjkanblaaGreat
open Go.AW

theorem zwi {σ : List zf} {es : List (List D)} {K : KT} (he : ∀ e ∈ es, e.length = 1) (hK : K (.exact es) σ) : zm Tryz.prog zdK [.d (.slice es)] σ K := by
  refine zcl zfX.is rfl (fun _ => []) fun hl _ => zfX.goes ?_
  simp only [zfZ, iN, bT, bF, eN, gF, gT, gFm, gTm, fl, nfl, gFl, gTl, il, cp, orC, anC, cA, bP, z1, z2, m1, List.map_cons, List.map_nil, zal, zdu, zcX, bnd, zdG, zR]
  refine ⟨rfl, trivial, by omega, by omega, by omega, he, ?_⟩
  simp only [zoE, ztR, getL, zrA, zdF, zdt]
  simpa using ⟨hl, hK⟩
theorem zle {σ : List zf} {a b : List UInt8} {K : KT} (hK : K (.d (.bool (a == b))) σ) : zm Tryz.prog zfT [.d (.slice (bcs a)), .d (.slice (bcs b))] σ K := by
  refine zc zpm.is rfl fun hl _ => zpm.goes ?_
  simp only [zpN, iN, bT, bF, eN, gF, gT, gFm, gTm, fl, nfl, gFl, gTl, il, cp, orC, anC, cA, bP, z1, z2, m1, List.map_cons, List.map_nil, zai, zdu, zfu, zcv, zdk, zbk, zR]
  exact zsA (by simp [ztP, dmT, dm, dm1, zdF]) hl hK
end Go.Proofs.YtpgahkdjkanblaaGreat

/- Contracts: how numbers and byte strings are put. -/
set_option maxRecDepth 100000
set_option linter.unusedSimpArgs false
namespace Go.Proofs.YtpgahkdjkanblaaGreat
open Go.AW

def bva (bs : List UInt8) : List AV := bs.map fun b => .d (.int .u8 (b.toNat : Int))
def zgG (bs : List UInt8) : List AV := bva bs ++ List.replicate (10 - bs.length) (.d (.int .u8 0))

theorem zum {pre : List UInt8} {b : UInt8} (h : pre.length < 10) : zZ (zgG pre) pre.length [.d (.int .u8 (b.toNat : Int))] = zgG (pre ++ [b]) := by
  simp only [zZ, zgG, bva, List.length_singleton]
  obtain ⟨m, hm⟩ : ∃ m, 10 - pre.length = m + 1 := ⟨9 - pre.length, by omega⟩
  rw [hm, List.take_left' (by simp), List.drop_append]
  simp only [List.length_map]
  rw [List.drop_eq_nil_of_le (by simp), show pre.length + 1 - pre.length = 1 by omega, List.replicate_succ]
  simp [List.length_append, show 10 - (pre.length + 1) = m by omega]

theorem byte_or (m : Nat) : IntKind.u8.wrap ↑(BitVec.ofInt IntKind.u8.bits (IntKind.u8.wrap (m : Int)) ||| BitVec.ofInt IntKind.u8.bits 128).toNat = ((UInt8.ofNat (m % 128 + 128)).toNat : Int) := by
  rw [wrap8 m, show IntKind.u8.bits = 8 from rfl, or128 ⟨m % 256, by omega⟩, zrJ (by simp; omega), znp (by omega)]
  simp
theorem byte_wrap {m : Nat} (h : m < 128) : IntKind.u8.wrap (m : Int) = ((UInt8.ofNat m).toNat : Int) := by
  rw [zrJ (by omega), znp (by omega)]
theorem shr7 (m : Nat) : ((m : Int)).fdiv (2 ^ min 7 IntKind.u64.bits) = ((m / 128 : Nat) : Int) := by
  rw [show min 7 IntKind.u64.bits = 7 from rfl, Int.fdiv_eq_ediv_of_nonneg _ (by decide)]
  rfl
theorem zoN {pre : List UInt8} (h : pre.length ≤ 10) : (zgG pre).length = 10 := by simp [zgG, bva]; omega
theorem pad10_sc (pre : List UInt8) : (zgG pre).all sc = true := by
  simp only [zgG, bva, List.all_append, List.all_map, List.all_replicate, Bool.and_eq_true]
  refine ⟨by simp [sc], ?_⟩
  cases 10 - pre.length <;> simp [sc]

theorem pad10_d (pre : List UInt8) : zgG pre = ((pre.map fun b => D.int .u8 (b.toNat : Int)) ++ List.replicate (10 - pre.length) (D.int .u8 0)).map AV.d := by
  simp [zgG, bva, Function.comp_def]
theorem gq26 {P Q : Prop} (h : Q) (e : P = Q := by simp -dsimp only [↓zey, ↓zay, ↓zbs, ↓zez, ↓zeu, ↓zes, ↓zev, ↓zet, ↓zbx, ↓zbt, ↓zby, ↓zbu, ↓zew, ↓zbr, ↓zbz, ↓zbv, ↓zbA, ↓zbw, ↓zer, ↓zex, ↓zbp, ↓zbB, ↓zep, ↓zeo, ↓zeq, iN, bT, bF, eN, ↓zcv, ↓unC, ↓zU, ↓zI, ↓zJ, ↓zM, ↓zX, ↓zal, ↓zcX, ↓zai, ↓zaJ, ↓zW, ↓zg, ↓zn, ↓zbP, ↓zb, ↓zaf, ↓zD, ↓zaI, ↓zaQ, ↓zd, ↓zF, ↓zj, ↓zG, ↓zam, ↓zdc, ↓zdj, ↓zak, ↓zau, ↓zaL, ↓zaY, ↓zbh, ↓zo, ↓zaj, ↓zK, ↓zr, ↓zV, zdk, zbn, zbk, unA, zdu, bnd, zdG, zae, zO, zdW, dm, dm1, zR, zaF, zea, zdZ, zw, Q0, Q1, Q2, Q3, Q4, Q5, zY, zC, zt, zN, zE, Q6, Q7, Q8, Q9, Q10, Q11, Q12, Q13, Q14, Nat.reduceAdd, Q15, Int.reduceToNat, Q16, Q17, Q18, Q19, Q20, reduceIte, Q21, Q22]; rfl) : P := e.mpr h
theorem gq27 {A P Q : Prop} (a : A) (h : Q) (e : A → P = Q := by intro a; simp -dsimp only [↓zey, ↓zay, ↓zbs, ↓zez, ↓zeu, ↓zes, ↓zev, ↓zet, ↓zbx, ↓zbt, ↓zby, ↓zbu, ↓zew, ↓zbr, ↓zbz, ↓zbv, ↓zbA, ↓zbw, ↓zer, ↓zex, ↓zbp, ↓zbB, ↓zep, ↓zeo, ↓zeq, iN, bT, bF, eN, ↓zcv, ↓unC, ↓zU, ↓zI, ↓zJ, ↓zM, ↓zX, ↓zal, ↓zcX, ↓zai, ↓zaJ, ↓zW, ↓zg, ↓zn, ↓zbP, ↓zb, ↓zaf, ↓zD, ↓zaI, ↓zaQ, ↓zd, ↓zF, ↓zj, ↓zG, ↓zam, ↓zdc, ↓zdj, ↓zak, ↓zau, ↓zaL, ↓zaY, ↓zbh, ↓zo, ↓zaj, ↓zK, ↓zr, ↓zV, zdk, zbn, zbk, unA, zdu, bnd, zdG, zae, zO, zdW, dm, dm1, zR, zaF, zea, zdZ, zw, Q0, Q1, Q2, Q3, Q4, Q5, zY, zC, zt, zN, zE, Q6, Q7, Q8, Q9, Q10, Q11, Q12, Q13, Q14, Nat.reduceAdd, Q15, Int.reduceToNat, Q16, Q17, Q18, Q19, Q20, reduceIte, Q21, Q22, a]; rfl) : P := (e a).mpr h
theorem c_form {σ : List zf} {n : Nat} (hn : n < 18446744073709551616) {K : KT} (hK : K (.tup [.agg (zgG (zcf n)), .d (.int .i64 (zcf n).length)]) σ) : zm Tryz.prog zmk [.d (.int .u64 n)] σ K := by
  refine zc zrn.is rfl fun hl _ => zrn.goes ?_
  simp only [zry, iN, bT, bF, eN, zW]
  have hlen := zp hn
  refine zl 10 (fun k vs s => ∃ (m : Nat) (pre : List UInt8), k = pre.length ∧ vs = [.d (.int .u64 m), .d (.int .i64 k)] ∧ zcf n = pre ++ zcf m ∧ m < 18446744073709551616 ∧
      s = σ ++ [.box (zgG []), .box (zgG pre)]) ⟨n, [], rfl, rfl, rfl, hn, by simp [zgG, bva]⟩ ?_
  rintro k vs s hk ⟨m, pre, rfl, rfl, hpre, hm, rfl⟩
  have hm10 := zp hm
  have hpl : pre.length + (zcf m).length ≤ 10 := by rw [hpre] at hlen; simpa using hlen.2
  have hp : pre.length < 10 := by omega
  (refine gq26 ?_; try with_reducible exact True.intro)
  refine zS (fun h => ?_) (fun h => ?_)
  all_goals (try (refine gq27 h ?_; try with_reducible exact True.intro))
  · have h1 : ¬ m < 128 := by simp at h; omega
    have h2 := zvU h1
    rw [h2] at hpl
    simp at hpl
    rw [byte_or, shr7, zum hp]
    refine ⟨by omega, by omega, by have := zoN (pre := pre) (by omega); omega, by simp [sc], by omega, ?_⟩
    refine zaG.next (by omega) ⟨m / 128, pre ++ [UInt8.ofNat (m % 128 + 128)], by simp, ?_, by rw [hpre, h2]; simp, by omega, rfl⟩
    rw [zat (by omega) (by omega)]
    rfl
  · have h1 : m < 128 := by simp at h; omega
    have h2 := zne h1
    rw [byte_wrap h1, zum hp]
    have hp1 : (zgG (pre ++ [UInt8.ofNat m])).length = 10 := zoN (by simp; omega)
    have hsp : zZ (zgG []) 0 (zgG (pre ++ [UInt8.ofNat m])) = zgG (pre ++ [UInt8.ofNat m]) := by
      simp only [zZ, Nat.zero_add, List.take_zero, List.nil_append]
      rw [hp1, List.drop_eq_nil_of_le (by simp [zgG, bva]), List.append_nil]
    have htk : List.take 10 (List.drop 0 (zgG (pre ++ [UInt8.ofNat m]))) = zgG (pre ++ [UInt8.ofNat m]) := by
      rw [List.drop_zero, List.take_of_length_le (by omega)]
    rw [htk, hsp, htk, if_pos (by omega)]
    refine ⟨by omega, by omega, by have := zoN (pre := pre) (by omega); omega, by simp [sc], by omega, by omega, by simp [zgG, bva], pad10_sc _, ?_⟩
    have hd : dmT (zdF [.agg (zgG (pre ++ [UInt8.ofNat m])), .d (.int .i64 (IntKind.i64.wrap (↑pre.length + 1)))]) = .tup [.agg (zgG (pre ++ [UInt8.ofNat m])), .d (.int .i64 (zcf n).length)] := by
      rw [zat (by omega) (by omega), hpre, h2]
      simp only [zdF, dmT, List.map_cons, List.map_nil, dm, pad10_d, map_dm1_d, dm1]
      rw [List.length_append]; rfl
    refine zqI ?_ hl ?_
    · rw [hd, pad10_d, zcV]
      intro c hc
      rcases List.mem_cons.1 hc with rfl | hc
      · exact .agg _ (low_map_d _ _)
      · have hc := List.mem_singleton.1 hc
        subst hc; exact .d _
    · rw [hd]; rw [hpre, h2] at hK ⊢; exact hK

theorem toDs_bva (bs : List UInt8) (r : List AV) (ds : List D) (h : zeB r = some ds) : zeB (bva bs ++ r) = some ((bs.map fun b => D.int .u8 (b.toNat : Int)) ++ ds) := by
  induction bs with
  | nil => simpa [bva] using h
  | cons b bs ih => simp only [bva, List.map_cons, List.cons_append, zeB, toD] at ih ⊢; rw [ih]
theorem chunks1 (bs : List UInt8) : zap 1 bs.length (bs.map fun b => D.int .u8 (b.toNat : Int)) = bcs bs := by
  induction bs with
  | nil => rfl
  | cons b bs ih => simp only [List.length_cons, List.map_cons, zap, bcs, List.take_succ_cons, List.take_zero, List.drop_succ_cons, List.drop_zero] at ih ⊢; rw [ih]; rfl

theorem zdU {σ : List zf} {b : List UInt8} {n : Nat} (hn : n < 18446744073709551616) (hb : b.length ≤ 1073741824) {K : KT} (hK : K (.own σ.length (bcs (b ++ zcf n))) (σ ++ [.tok 1 (b ++ zcf n).length])) :
    zm Tryz.prog zaZ [.d (.slice (bcs b)), .d (.int .u64 n)] σ K := by
  refine zcl znK.is rfl (fun s => [σ.length + 1]) fun hl _ => znK.goes ?_
  have hlen := zp hn
  simp only [znY, iN, bT, bF, eN, gF, gT, gFm, gTm, fl, nfl, gFl, gTl, il, cp, orC, anC, cA, bP, z1, z2, m1, List.map_cons, List.map_nil]
  simp only [dm, dm1]
  refine c_form hn ?_
  have hp := zoN hlen.2
  have hsp : zZ (List.replicate 10 (AV.d (D.int .u8 0))) 0 (zgG (zcf n)) = zgG (zcf n) := by
    simp only [zZ, Nat.zero_add, List.take_zero, List.nil_append]
    rw [hp, List.drop_eq_nil_of_le (by simp), List.append_nil]
  have hrep : [AV.d (D.int .u8 0), .d (.int .u8 0), .d (.int .u8 0), .d (.int .u8 0), .d (.int .u8 0), .d (.int .u8 0), .d (.int .u8 0), .d (.int .u8 0), .d (.int .u8 0), .d (.int .u8 0)] = List.replicate 10 (AV.d (D.int .u8 0)) := rfl
  (refine gq26 ?_; try with_reducible exact True.intro)
  refine ⟨hp, by omega, pad10_sc _, by omega, by omega, by omega, by omega, ?_⟩
  refine zwi zgS ?_
  rw [hrep, hsp]
  (refine gq26 ?_; try with_reducible exact True.intro)
  have htk : zeB (List.take ((zcf n).length - Int.toNat 0) (List.drop (Int.toNat 0) (zgG (zcf n)))) = some ((zcf n).map fun b => D.int .u8 (b.toNat : Int)) := by
    simp only [Int.toNat_zero, Nat.sub_zero, List.drop_zero]
    rw [zgG, List.take_left' (by simp [bva])]
    have := toDs_bva (zcf n) [] [] rfl
    simpa using this
  simp only [Int.toNat_zero] at htk
  rw [htk, if_pos (by omega), Nat.sub_zero]
  simp only [Option.map_some, chunks1]
  refine ⟨zgS, zgS, by simp [bcs]; omega, ?_⟩
  rw [zqQ]
  refine zmn rfl hl (by omega) (by rw [zC]; rfl) ?_
  simpa [bcs] using hK

theorem gq28 {P Q : Prop} (h : Q) (e : P = Q := by simp -dsimp only [↓zey, ↓zay, ↓zbs, ↓zez, ↓zeu, ↓zes, ↓zev, ↓zet, ↓zbx, ↓zbt, ↓zby, ↓zbu, ↓zew, ↓zbr, ↓zbz, ↓zbv, ↓zbA, ↓zbw, ↓zer, ↓zex, ↓zbp, ↓zbB, ↓zep, ↓zeo, ↓zeq, iN, bT, bF, eN, ↓zcv, ↓unC, ↓zU, ↓zI, ↓zJ, ↓zM, ↓zX, ↓zal, ↓zcX, ↓zai, ↓zaJ, ↓zW, ↓zg, ↓zn, ↓zbP, ↓zb, ↓zaf, ↓zD, ↓zaI, ↓zaQ, ↓zd, ↓zF, ↓zj, ↓zG, ↓zam, ↓zdc, ↓zdj, ↓zak, ↓zau, ↓zaL, ↓zaY, ↓zbh, ↓zo, ↓zaj, ↓zK, ↓zr, ↓zV, zdk, zbn, zbk, unA, zdu, bnd, zdG, zae, zO, zdW, dm, dm1, zR, zaF, zea, zdZ, zw, Q0, Q1, Q2, Q3, Q4, Q5, zY, zC, zt, zN, zE, Q6, Q7, Q8, Q9, Q10, Q11, Q12, Q13, Q14, Nat.reduceAdd, Q15, Int.reduceToNat, Q16, Q17, Q18, Q19, Q20, reduceIte, Q21, Q22, zlN]; rfl) : P := e.mpr h
theorem zno {σ : List zf} {b x : List UInt8} (hx : x.length ≤ 1073741824) (hb : b.length ≤ 1073741800) {K : KT} (hK : K (.own σ.length (bcs (b ++ (zcf x.length ++ x)))) (σ ++ [.tok 1 (b ++ (zcf x.length ++ x)).length])) :
    zm Tryz.prog zda [.d (.slice (bcs b)), .d (.slice (bcs x))] σ K := by
  refine zcl zlv.is rfl (fun s => [σ.length]) fun hl _ => zlv.goes ?_
  have hlen := zp (n := x.length) (by omega)
  (refine gq28 ?_; try with_reducible exact True.intro)
  have hw : IntKind.u64.wrap ((bcs x).length : Int) = (x.length : Int) := by rw [zcC (by simp [bcs]; omega)]; simp [bcs]
  rw [hw]
  refine zdU (by omega) (by omega) ?_
  (refine gq26 ?_; try with_reducible exact True.intro)
  refine ⟨zgS, by simp [bcs]; omega, by simp [bcs], ?_⟩
  rw [zqQ]
  simp only [List.append_assoc]
  refine zkg hl rfl ?_
  simpa [bcs, Nat.add_assoc] using hK

theorem div128 {m : Nat} (h : m < 18446744073709551616) : IntKind.u64.wrap ((m : Int).tdiv 128) = ((m / 128 : Nat) : Int) := by
  rw [show ((m : Int).tdiv 128) = ((m / 128 : Nat) : Int) from by rw [Int.tdiv_eq_ediv_of_nonneg (by omega)]; rfl, zcC (by omega)]
theorem rem128 (m : Nat) : (m : Int).tmod 128 = ((m % 128 : Nat) : Int) := by
  rw [Int.tmod_eq_emod_of_nonneg (by omega)]; rfl

theorem gq29 {P Q : Prop} (h : Q) (e : P = Q := by simp -dsimp only [↓zey, ↓zay, ↓zbs, ↓zez, ↓zeu, ↓zes, ↓zev, ↓zet, ↓zbx, ↓zbt, ↓zby, ↓zbu, ↓zew, ↓zbr, ↓zbz, ↓zbv, ↓zbA, ↓zbw, ↓zer, ↓zex, ↓zbp, ↓zbB, ↓zep, ↓zeo, ↓zeq, iN, bT, bF, eN, ↓zcv, ↓unC, ↓zU, ↓zI, ↓zJ, ↓zM, ↓zX, ↓zal, ↓zcX, ↓zai, ↓zaJ, ↓zW, ↓zg, ↓zn, ↓zbP, ↓zb, ↓zaf, ↓zD, ↓zaI, ↓zaQ, ↓zd, ↓zF, ↓zj, ↓zG, ↓zam, ↓zdc, ↓zdj, ↓zak, ↓zau, ↓zaL, ↓zaY, ↓zbh, ↓zo, ↓zaj, ↓zK, ↓zr, ↓zV, zdk, zbn, zbk, unA, zdu, bnd, zdG, zae, zO, zdW, dm, dm1, zR, zaF, zea, zdZ, zw, Q0, Q1, Q2, Q3, Q4, Q5, zY, zC, zt, zN, zE, Q6, Q7, Q8, Q9, Q10, Q11, Q12, Q13, Q14, Nat.reduceAdd, Q15, Int.reduceToNat, Q16, Q17, Q18, Q19, Q20, reduceIte, Q21, Q22, zru]; rfl) : P := e.mpr h
theorem gq30 {P Q : Prop} (h : Q) (e : P = Q := by simp -dsimp only [↓zey, ↓zay, ↓zbs, ↓zez, ↓zeu, ↓zes, ↓zev, ↓zet, ↓zbx, ↓zbt, ↓zby, ↓zbu, ↓zew, ↓zbr, ↓zbz, ↓zbv, ↓zbA, ↓zbw, ↓zer, ↓zex, ↓zbp, ↓zbB, ↓zep, ↓zeo, ↓zeq, iN, bT, bF, eN, ↓zcv, ↓unC, ↓zU, ↓zI, ↓zJ, ↓zM, ↓zX, ↓zal, ↓zcX, ↓zai, ↓zaJ, ↓zW, ↓zg, ↓zn, ↓zbP, ↓zb, ↓zaf, ↓zD, ↓zaI, ↓zaQ, ↓zd, ↓zF, ↓zj, ↓zG, ↓zam, ↓zdc, ↓zdj, ↓zak, ↓zau, ↓zaL, ↓zaY, ↓zbh, ↓zo, ↓zaj, ↓zK, ↓zr, ↓zV, zdk, zbn, zbk, unA, zdu, bnd, zdG, zae, zO, zdW, dm, dm1, zR, zaF, zea, zdZ, zw, Q0, Q1, Q2, Q3, Q4, Q5, zY, zC, zt, zN, zE, Q6, Q7, Q8, Q9, Q10, Q11, Q12, Q13, Q14, Nat.reduceAdd, Q15, Int.reduceToNat, Q16, Q17, Q18, Q19, Q20, reduceIte, Q21, Q22, rep, zZ, zeB, toD, zap, Q23, Q24, Q25, Q26, Q27, Q28, Nat.reduceLeDiff, Q29, Nat.reduceSub, Q30, Q31, Q32, sc, Q33, Q34, Q35]; rfl) : P := e.mpr h
theorem zeH {σ : List zf} {b : List UInt8} {n : Nat} (hn : n < 18446744073709551616) (hb : b.length ≤ 1073741824) {K : KT} (hK : K (.own σ.length (bcs (b ++ zcf n))) (σ ++ [.tok 1 (b ++ zcf n).length])) :
    zm Tryz.prog zbS [.d (.slice (bcs b)), .d (.int .u64 n)] σ K := by
  refine zcl zrj.is rfl (fun s => [σ.length]) fun hl _ => zrj.goes ?_
  have hlen := zp hn
  (refine gq29 ?_; try with_reducible exact True.intro)
  refine ⟨zgS, by simp, by simp [bcs]; omega, ?_⟩
  refine zl 10 (fun k vs s => ∃ (m : Nat) (pre : List UInt8), k = pre.length ∧ vs = [.d (.int .u64 m), .own σ.length (bcs (b ++ pre))] ∧ zcf n = pre ++ zcf m ∧ m < 18446744073709551616 ∧
      s = σ ++ [.tok 1 (b ++ pre).length]) ⟨n, [], rfl, by simp, rfl, hn, by simp [bcs]⟩ ?_
  rintro k vs s hk ⟨m, pre, rfl, rfl, hpre, hm, rfl⟩
  have hm10 := zp hm
  have hpl : pre.length + (zcf m).length ≤ 10 := by rw [hpre] at hlen; simpa using hlen.2
  (refine gq26 ?_; try with_reducible exact True.intro)
  refine zS (fun h => ?_) (fun h => ?_)
  all_goals (try (refine gq27 h ?_; try with_reducible exact True.intro))
  · have h1 : ¬ m < 128 := by simp at h; omega
    have h2 := zvU h1
    rw [h2] at hpl
    simp at hpl
    have hc : IntKind.u8.wrap (IntKind.u8.wrap ((m : Int).tmod 128) + 128) = ((UInt8.ofNat (m % 128 + 128)).toNat : Int) := by
      rw [rem128, zrJ (by omega), znp (by omega), show ((m % 128 : Nat) : Int) + 128 = ((m % 128 + 128 : Nat) : Int) from rfl]
      exact zrJ (by omega)
    (refine gq30 ?_; try with_reducible exact True.intro)
    rw [hc, div128 hm]
    refine ⟨by decide, by simp, by simp [bcs]; omega, by simp [bcs], by decide, ?_⟩
    refine zaG.next (by omega) ⟨m / 128, pre ++ [UInt8.ofNat (m % 128 + 128)], by simp, ?_, by rw [hpre, h2]; simp, by omega, ?_⟩
    · simp [bcs, zcB]
    · simp [bcs, Nat.add_assoc]
  · have h1 : m < 128 := by simp at h; omega
    have h2 := zne h1
    (refine gq30 ?_; try with_reducible exact True.intro)
    rw [byte_wrap h1]
    refine ⟨by simp, by simp [bcs]; omega, by simp [bcs], ?_⟩
    rw [hpre, h2] at hK
    have e : bcs (b ++ pre) ++ [[D.int .u8 ((UInt8.ofNat m).toNat : Int)]] = bcs (b ++ (pre ++ [UInt8.ofNat m])) := by simp [bcs, zcB]
    rw [e]
    refine zkg hl rfl ?_
    simpa [bcs, Nat.add_assoc] using hK
theorem gq31 {P Q : Prop} (h : Q) (e : P = Q := by simp -dsimp only [↓zey, ↓zay, ↓zbs, ↓zez, ↓zeu, ↓zes, ↓zev, ↓zet, ↓zbx, ↓zbt, ↓zby, ↓zbu, ↓zew, ↓zbr, ↓zbz, ↓zbv, ↓zbA, ↓zbw, ↓zer, ↓zex, ↓zbp, ↓zbB, ↓zep, ↓zeo, ↓zeq, iN, bT, bF, eN, ↓zcv, ↓unC, ↓zU, ↓zI, ↓zJ, ↓zM, ↓zX, ↓zal, ↓zcX, ↓zai, ↓zaJ, ↓zW, ↓zg, ↓zn, ↓zbP, ↓zb, ↓zaf, ↓zD, ↓zaI, ↓zaQ, ↓zd, ↓zF, ↓zj, ↓zG, ↓zam, ↓zdc, ↓zdj, ↓zak, ↓zau, ↓zaL, ↓zaY, ↓zbh, ↓zo, ↓zaj, ↓zK, ↓zr, ↓zV, zdk, zbn, zbk, unA, zdu, bnd, zdG, zae, zO, zdW, dm, dm1, zR, zaF, zea, zdZ, zw, Q0, Q1, Q2, Q3, Q4, Q5, zY, zC, zt, zN, zE, Q6, Q7, Q8, Q9, Q10, Q11, Q12, Q13, Q14, Nat.reduceAdd, Q15, Int.reduceToNat, Q16, Q17, Q18, Q19, Q20, reduceIte, Q21, Q22, znS]; rfl) : P := e.mpr h
theorem zow {σ : List zf} {b x : List UInt8} (hx : x.length ≤ 1073741824) (hb : b.length ≤ 1073741800) {K : KT} (hK : K (.own σ.length (bcs (b ++ (zcf x.length ++ x)))) (σ ++ [.tok 1 (b ++ (zcf x.length ++ x)).length])) :
    zm Tryz.prog zcK [.d (.slice (bcs b)), .d (.slice (bcs x))] σ K := by
  refine zcl znE.is rfl (fun s => [σ.length]) fun hl _ => znE.goes ?_
  have hlen := zp (n := x.length) (by omega)
  (refine gq31 ?_; try with_reducible exact True.intro)
  have hw : IntKind.u64.wrap ((bcs x).length : Int) = (x.length : Int) := by rw [zcC (by simp [bcs]; omega)]; simp [bcs]
  rw [hw]
  refine zeH (by omega) (by omega) ?_
  (refine gq26 ?_; try with_reducible exact True.intro)
  refine ⟨zgS, by simp [bcs]; omega, by simp [bcs], ?_⟩
  rw [zqQ]
  simp only [List.append_assoc]
  refine zkg hl rfl ?_
  simpa [bcs, Nat.add_assoc] using hK
end Go.Proofs.YtpgahkdjkanblaaGreat

/- Contracts of operations: which are the same. -/
set_option maxRecDepth 100000
set_option linter.unusedSimpArgs false
namespace Go.Proofs.YtpgahkdjkanblaaGreat
open Go.AW

theorem zuE {P Q : Prop} (h : Q) (e : P = Q := by simp -dsimp only [↓zey, ↓zay, ↓zbs, ↓zez, ↓zeu, ↓zes, ↓zev, ↓zet, ↓zbx, ↓zbt, ↓zby, ↓zbu, ↓zew, ↓zbr, ↓zbz, ↓zbv, ↓zbA, ↓zbw, ↓zer, ↓zex, ↓zbp, ↓zbB, ↓zep, ↓zeo, ↓zeq, iN, bT, bF, eN, ↓zcv, ↓unC, ↓zU, ↓zI, ↓zJ, ↓zM, ↓zX, ↓zal, ↓zcX, ↓zai, ↓zaJ, ↓zW, ↓zg, ↓zn, ↓zbP, ↓zb, ↓zaf, ↓zD, ↓zaI, ↓zaQ, ↓zd, ↓zF, ↓zj, ↓zG, ↓zam, ↓zdc, ↓zdj, ↓zak, ↓zau, ↓zaL, ↓zaY, ↓zbh, ↓zo, ↓zaj, ↓zK, ↓zr, ↓zV, zdk, zbn, zbk, unA, zdu, bnd, zdG, zae, zO, zdW, dm, dm1, zR, zaF, zea, zdZ, zw, Q0, Q1, Q2, Q3, Q4, Q5, zY, zC, zt, zN, zE, Q6, Q7, Q8, Q9, Q10, Q11, Q12, Q13, Q14, Nat.reduceAdd, Q15, Int.reduceToNat, Q16, Q17, Q18, Q19, Q20, reduceIte, Q21, Q22, zA, rep, zZ, zeB, toD, zap, Q23, Q24, Q25, Q26, Q27, Q28, Nat.reduceLeDiff, Q29, Nat.reduceSub, Q30, Q31, Q32, sc, Q33, Q34, Q35]; rfl) : P := e.mpr h
theorem c_only {σ : List zf} {o : TOp} {K : KT} (hK : K (.tup [opA (zme o), .d (.bool (zgX o))]) σ) : zm Tryz.prog zsp [opA o] σ K := by
  refine zc e_op_only.is rfl fun hl _ => e_op_only.goes ?_
  simp only [S_op_only, iN, bT, bF, eN, opA]
  (repeat' (first | (refine zuE ?_; try with_reducible exact True.intro) | (refine zS (fun h => ?_) (fun h => ?_) <;> (try rw [h])) | ((with_reducible refine And.intro ?_ ?_); focus (first | omega | rfl | decide))))

  all_goals refine zq hl ?_
  all_goals simp only [beq_iff_eq, beq_eq_false_iff_ne, ne_eq] at *
  all_goals simp_all [zdF, dmT, dm, dm1, zme, noOp, opA, zgX, zeT]
  have e : (decide (0 ≤ o.kind) && decide (o.kind ≤ 4)) = false := by simp; omega
  rw [e] at hK
  exact hK
theorem gq33 {P Q : Prop} (h : Q) (e : P = Q := by simp -dsimp only [↓zey, ↓zay, ↓zbs, ↓zez, ↓zeu, ↓zes, ↓zev, ↓zet, ↓zbx, ↓zbt, ↓zby, ↓zbu, ↓zew, ↓zbr, ↓zbz, ↓zbv, ↓zbA, ↓zbw, ↓zer, ↓zex, ↓zbp, ↓zbB, ↓zep, ↓zeo, ↓zeq, iN, bT, bF, eN, ↓zcv, ↓unC, ↓zU, ↓zI, ↓zJ, ↓zM, ↓zX, ↓zal, ↓zcX, ↓zai, ↓zaJ, ↓zW, ↓zg, ↓zn, ↓zbP, ↓zb, ↓zaf, ↓zD, ↓zaI, ↓zaQ, ↓zd, ↓zF, ↓zj, ↓zG, ↓zam, ↓zdc, ↓zdj, ↓zak, ↓zau, ↓zaL, ↓zaY, ↓zbh, ↓zo, ↓zaj, ↓zK, ↓zr, ↓zV, zdk, zbn, zbk, unA, zdu, bnd, zdG, zae, zO, zdW, dm, dm1, zR, zaF, zea, zdZ, zw, Q0, Q1, Q2, Q3, Q4, Q5, zY, zC, zt, zN, zE, Q6, Q7, Q8, Q9, Q10, Q11, Q12, Q13, Q14, Nat.reduceAdd, Q15, Int.reduceToNat, Q16, Q17, Q18, Q19, Q20, reduceIte, Q21, Q22, ztL, zA]; rfl) : P := e.mpr h
theorem c_Same_1 {σ : List zf} {a b : List UInt8} {K : KT} (hK : K (.d (.bool (a == b))) σ) : zm Tryz.prog zkS [.d (.slice (bcs a)), .d (.slice (bcs b))] σ K := by
  refine zc zsV.is rfl fun hl _ => zsV.goes ?_
  (refine gq33 ?_; try with_reducible exact True.intro)
  refine zle ?_
  refine zq hl ?_
  exact hK
theorem gqc3 {A B : Prop} (a : A) (b : B) : A ∧ B := ⟨a, b⟩
theorem gq34 {P Q : Prop} (h : Q) (e : P = Q := by simp -dsimp only [↓zey, ↓zay, ↓zbs, ↓zez, ↓zeu, ↓zes, ↓zev, ↓zet, ↓zbx, ↓zbt, ↓zby, ↓zbu, ↓zew, ↓zbr, ↓zbz, ↓zbv, ↓zbA, ↓zbw, ↓zer, ↓zex, ↓zbp, ↓zbB, ↓zep, ↓zeo, ↓zeq, iN, bT, bF, eN, ↓zcv, ↓unC, ↓zU, ↓zI, ↓zJ, ↓zM, ↓zX, ↓zal, ↓zcX, ↓zai, ↓zaJ, ↓zW, ↓zg, ↓zn, ↓zbP, ↓zb, ↓zaf, ↓zD, ↓zaI, ↓zaQ, ↓zd, ↓zF, ↓zj, ↓zG, ↓zam, ↓zdc, ↓zdj, ↓zak, ↓zau, ↓zaL, ↓zaY, ↓zbh, ↓zo, ↓zaj, ↓zK, ↓zr, ↓zV, zdk, zbn, zbk, unA, zdu, bnd, zdG, zae, zO, zdW, dm, dm1, zR, zaF, zea, zdZ, zw, Q0, Q1, Q2, Q3, Q4, Q5, zY, zC, zt, zN, zE, Q6, Q7, Q8, Q9, Q10, Q11, Q12, Q13, Q14, Nat.reduceAdd, Q15, Int.reduceToNat, Q16, Q17, Q18, Q19, Q20, reduceIte, Q21, Q22, zaT, zA]; rfl) : P := e.mpr h
theorem gq35 {A P Q : Prop} (a : A) (h : Q) (e : A → P = Q := by intro a; simp -dsimp only [↓zey, ↓zay, ↓zbs, ↓zez, ↓zeu, ↓zes, ↓zev, ↓zet, ↓zbx, ↓zbt, ↓zby, ↓zbu, ↓zew, ↓zbr, ↓zbz, ↓zbv, ↓zbA, ↓zbw, ↓zer, ↓zex, ↓zbp, ↓zbB, ↓zep, ↓zeo, ↓zeq, iN, bT, bF, eN, ↓zcv, ↓unC, ↓zU, ↓zI, ↓zJ, ↓zM, ↓zX, ↓zal, ↓zcX, ↓zai, ↓zaJ, ↓zW, ↓zg, ↓zn, ↓zbP, ↓zb, ↓zaf, ↓zD, ↓zaI, ↓zaQ, ↓zd, ↓zF, ↓zj, ↓zG, ↓zam, ↓zdc, ↓zdj, ↓zak, ↓zau, ↓zaL, ↓zaY, ↓zbh, ↓zo, ↓zaj, ↓zK, ↓zr, ↓zV, zdk, zbn, zbk, unA, zdu, bnd, zdG, zae, zO, zdW, dm, dm1, zR, zaF, zea, zdZ, zw, Q0, Q1, Q2, Q3, Q4, Q5, zY, zC, zt, zN, zE, Q6, Q7, Q8, Q9, Q10, Q11, Q12, Q13, Q14, Nat.reduceAdd, Q15, Int.reduceToNat, Q16, Q17, Q18, Q19, Q20, reduceIte, Q21, Q22, zA, a]; rfl) : P := (e a).mpr h
theorem gq36 {P Q : Prop} (h : Q) (e : P = Q := by simp -dsimp only [↓zey, ↓zay, ↓zbs, ↓zez, ↓zeu, ↓zes, ↓zev, ↓zet, ↓zbx, ↓zbt, ↓zby, ↓zbu, ↓zew, ↓zbr, ↓zbz, ↓zbv, ↓zbA, ↓zbw, ↓zer, ↓zex, ↓zbp, ↓zbB, ↓zep, ↓zeo, ↓zeq, iN, bT, bF, eN, ↓zcv, ↓unC, ↓zU, ↓zI, ↓zJ, ↓zM, ↓zX, ↓zal, ↓zcX, ↓zai, ↓zaJ, ↓zW, ↓zg, ↓zn, ↓zbP, ↓zb, ↓zaf, ↓zD, ↓zaI, ↓zaQ, ↓zd, ↓zF, ↓zj, ↓zG, ↓zam, ↓zdc, ↓zdj, ↓zak, ↓zau, ↓zaL, ↓zaY, ↓zbh, ↓zo, ↓zaj, ↓zK, ↓zr, ↓zV, zdk, zbn, zbk, unA, zdu, bnd, zdG, zae, zO, zdW, dm, dm1, zR, zaF, zea, zdZ, zw, Q0, Q1, Q2, Q3, Q4, Q5, zY, zC, zt, zN, zE, Q6, Q7, Q8, Q9, Q10, Q11, Q12, Q13, Q14, Nat.reduceAdd, Q15, Int.reduceToNat, Q16, Q17, Q18, Q19, Q20, reduceIte, Q21, Q22, zA]; rfl) : P := e.mpr h
theorem gq37 {A P Q : Prop} (a : A) (h : Q) (e : A → P = Q := by intro a; simp -dsimp only [↓zey, ↓zay, ↓zbs, ↓zez, ↓zeu, ↓zes, ↓zev, ↓zet, ↓zbx, ↓zbt, ↓zby, ↓zbu, ↓zew, ↓zbr, ↓zbz, ↓zbv, ↓zbA, ↓zbw, ↓zer, ↓zex, ↓zbp, ↓zbB, ↓zep, ↓zeo, ↓zeq, iN, bT, bF, eN, ↓zcv, ↓unC, ↓zU, ↓zI, ↓zJ, ↓zM, ↓zX, ↓zal, ↓zcX, ↓zai, ↓zaJ, ↓zW, ↓zg, ↓zn, ↓zbP, ↓zb, ↓zaf, ↓zD, ↓zaI, ↓zaQ, ↓zd, ↓zF, ↓zj, ↓zG, ↓zam, ↓zdc, ↓zdj, ↓zak, ↓zau, ↓zaL, ↓zaY, ↓zbh, ↓zo, ↓zaj, ↓zK, ↓zr, ↓zV, zdk, zbn, zbk, unA, zdu, bnd, zdG, zae, zO, zdW, dm, dm1, zR, zaF, zea, zdZ, zw, Q0, Q1, Q2, Q3, Q4, Q5, zY, zC, zt, zN, zE, Q6, Q7, Q8, Q9, Q10, Q11, Q12, Q13, Q14, Nat.reduceAdd, Q15, Int.reduceToNat, Q16, Q17, Q18, Q19, Q20, reduceIte, Q21, Q22, Int.toNat_natCast, zA, a]; rfl) : P := (e a).mpr h
theorem gq38 {P Q : Prop} (h : Q) (e : P = Q := by simp -dsimp only [↓zey, ↓zay, ↓zbs, ↓zez, ↓zeu, ↓zes, ↓zev, ↓zet, ↓zbx, ↓zbt, ↓zby, ↓zbu, ↓zew, ↓zbr, ↓zbz, ↓zbv, ↓zbA, ↓zbw, ↓zer, ↓zex, ↓zbp, ↓zbB, ↓zep, ↓zeo, ↓zeq, iN, bT, bF, eN, ↓zcv, ↓unC, ↓zU, ↓zI, ↓zJ, ↓zM, ↓zX, ↓zal, ↓zcX, ↓zai, ↓zaJ, ↓zW, ↓zg, ↓zn, ↓zbP, ↓zb, ↓zaf, ↓zD, ↓zaI, ↓zaQ, ↓zd, ↓zF, ↓zj, ↓zG, ↓zam, ↓zdc, ↓zdj, ↓zak, ↓zau, ↓zaL, ↓zaY, ↓zbh, ↓zo, ↓zaj, ↓zK, ↓zr, ↓zV, zdk, zbn, zbk, unA, zdu, bnd, zdG, zae, zO, zdW, dm, dm1, zR, zaF, zea, zdZ, zw, Q0, Q1, Q2, Q3, Q4, Q5, zY, zC, zt, zN, zE, Q6, Q7, Q8, Q9, Q10, Q11, Q12, Q13, Q14, Nat.reduceAdd, Q15, Int.reduceToNat, Q16, Q17, Q18, Q19, Q20, reduceIte, Q21, Q22, zV, zA]; rfl) : P := e.mpr h
theorem zpu {σ : List zf} {a b : List (List UInt8)} (ha : a.length ≤ 1073741824) (hb : b.length ≤ 1073741824) {K : KT} (hK : K (.d (.bool (a == b))) σ) :
    zm Tryz.prog zaq [.d (.slice (zeT a)), .d (.slice (zeT b)), .fn (.func zkS) [] []] σ K := by
  refine zc zaR.is rfl fun hl _ => zaR.goes ?_
  (refine gq34 ?_; try with_reducible exact True.intro)
  refine zS (fun h => ?_) (fun h => ?_)
  all_goals (try (refine gq35 h ?_; try with_reducible exact True.intro))
  · refine zq hl ?_
    have : (a == b) = false := by
      rw [beq_eq_false_iff_ne]
      rintro rfl
      simp at h
    rw [this] at hK; exact hK
  have hl2 : a.length = b.length := by simp at h; omega
  refine zl a.length (fun k vs s => vs = [.d (.int .i64 k)] ∧ s = σ ∧ a.take k = b.take k) ⟨rfl, rfl, by simp⟩ ?_
  rintro k vs s hk ⟨rfl, rfl, htk⟩
  (refine gq36 ?_; try with_reducible exact True.intro)
  refine zS (fun h => ?_) (fun h => ?_)
  all_goals (try (refine gq35 h ?_; try with_reducible exact True.intro))
  · have hka : k < a.length := by simp at h; omega
    have hx : a[k]? = some a[k] := by simp [hka]
    have hy : b[k]? = some (b[k]'(by omega)) := List.getElem?_eq_getElem _
    (refine gq37 (gqc3 (zeZ hx) (zeZ hy)) ?_; try with_reducible exact True.intro)
    refine ⟨by omega, by omega, c_Same_1 ?_⟩
    (refine gq38 ?_; try with_reducible exact True.intro)
    refine zS (fun h => ?_) (fun h => ?_)
    all_goals (try (refine gq35 h ?_; try with_reducible exact True.intro))
    · refine zaG.next hka ⟨?_, rfl, zbi hx hy htk (by simpa using h)⟩
      rw [zat (by omega) (by omega)]; rfl
    · refine zq hl ?_
      have : (a == b) = false := by
        rw [beq_eq_false_iff_ne]
        rintro rfl
        simp at h
      rw [this] at hK; exact hK
  · refine zq hl ?_
    have : (a == b) = true := by
      rw [beq_iff_eq]
      exact zca hl2 (k := k) (by simp at h; omega) htk
    rw [this] at hK; exact hK
theorem c_Same {σ : List zf} {a b : TOp} (ha : a.recs.length ≤ 1073741824) (hb : b.recs.length ≤ 1073741824) {K : KT} (hK : K (.d (.bool (decide (a = b)))) σ) : zm Tryz.prog zoR [opA a, opA b] σ K := by
  refine zc e_op_Same.is rfl fun hl _ => e_op_Same.goes ?_
  simp only [S_op_Same, iN, bT, bF, eN, opA]
  repeat' first
    | (refine zuE ?_; try with_reducible exact True.intro)
    | (refine zS (fun h => ?_) (fun h => ?_) <;> (try rw [h]))
    | refine zpu ha hb ?_
  all_goals refine zq hl ?_
  all_goals simp only [beq_iff_eq, beq_eq_false_iff_ne, ne_eq] at *
  · have e : decide (a = b) = (a.recs == b.recs) := by
      rw [Bool.eq_iff_iff]
      cases a; cases b
      simp_all
    rw [e] at hK; exact hK
  all_goals
    have e : decide (a = b) = false := by
      cases a; cases b
      simp_all
    rw [e] at hK; exact hK
end Go.Proofs.YtpgahkdjkanblaaGreat

/- Contracts: runes and names. -/
set_option maxRecDepth 100000
set_option linter.unusedSimpArgs false
namespace Go.Proofs.YtpgahkdjkanblaaGreat
open Go.AW

theorem c_Runes {σ : List zf} {s : List UInt8} (hs : s.length ≤ 1073741824) {K : KT} (hK : K (.d (.int .i64 (zhd s))) σ) : zm Tryz.prog zqt [.d (.str s)] σ K := by
  refine zc zuU.is rfl fun hl _ => zuU.goes ?_
  simp only [zvB, iN, bT, bF, eN, zaj]
  refine zl s.length (fun pos vs s' => ∃ cnt : Nat, vs = [.d (.int .i64 cnt)] ∧ s' = σ ++ [.iter s pos] ∧ pos ≤ s.length ∧ cnt ≤ pos ∧ zeb (s.length + 1) s = (zeb (s.length + 1) (s.drop pos)).map (· + cnt)) ⟨0, rfl, rfl, by omega, by omega, by simp⟩ ?_
  rintro pos vs s' hp ⟨cnt, rfl, rfl, hps, hc, hr⟩
  simp only [zo, zoP, zt, List.getElem?_cons_zero]
  split
  · rename_i hlt
    have hd : s.drop pos ≠ [] := by intro e; have := congrArg List.length e; simp at this; omega
    have hw := goDec_width _ hd
    have hw2 := zkp (s.drop pos)
    simp only [decode_eq s pos hlt]
    have hcount : zeb (s.length + 1) (s.drop pos) = if (zjQ (s.drop pos)).2 = 0 ∨ badF (zjQ (s.drop pos)).1 = true then none else (zeb s.length ((s.drop pos).drop (zjQ (s.drop pos)).2)).map (· + 1) := by
      rw [zeb, if_neg hd]
    (repeat' (first | (refine zuE ?_; try with_reducible exact True.intro) | (refine zS (fun h => ?_) (fun h => ?_) <;> (try rw [h])) | ((with_reducible refine And.intro ?_ ?_); focus (first | omega | rfl | decide))))
    all_goals first
      | (refine zq hl ?_
         have hb : badF (zoW (s.drop pos)).1 = true := by
           simp only [badF]
           (try simp only [decide_eq_true_eq, decide_eq_false_iff_not, beq_iff_eq, beq_eq_false_iff_ne, bne_iff_ne, ne_eq, Bool.not_eq_true', Bool.not_eq_false', bne_eq_false_iff_eq] at *)
           omega
         rw [goDec_bad] at hb
         have : zeb (s.length + 1) (s.drop pos) = none := by rw [hcount, if_pos (by simpa using hb)]
         have h0 : zhd s = 0 := by simp [zhd, hr, this]
         rw [h0] at hK; exact hK)
      | skip
    all_goals
      have hb : badF (zoW (s.drop pos)).1 = false := by
        simp only [badF]
        (try simp only [decide_eq_true_eq, decide_eq_false_iff_not, beq_iff_eq, beq_eq_false_iff_ne, bne_iff_ne, ne_eq, Bool.not_eq_true', Bool.not_eq_false', bne_eq_false_iff_eq] at *)
        omega
      obtain ⟨g1, g2, g3⟩ := goDec_good hb
      rw [zat (by omega) (by omega)]
      refine zaG.to (pos + (zoW (s.drop pos)).2) (by omega) (by simp at hw; omega) ⟨cnt + 1, rfl, rfl, by simp at hw; omega, by omega, ?_⟩
      rw [hr, hcount, if_neg (by simp [g2, g3]), g1, List.drop_drop, zos s.length (s.length + 1) _ (by simp at *; omega) (by simp; omega)]
      cases zeb (s.length + 1) (List.drop (pos + (zjQ (s.drop pos)).2) s) <;> simp
      omega
  · rename_i hlt
    have e : s.drop pos = [] := List.drop_eq_nil_of_le (by omega)
    have hcnt : zeb (s.length + 1) s = some cnt := by rw [hr, e]; simp [zeb]
    (refine gq36 ?_; try with_reducible exact True.intro)
    refine zS (fun h => ?_) (fun h => ?_)
    all_goals (try (refine gq35 h ?_; try with_reducible exact True.intro))
    · refine zq hl ?_
      have h0 : zhd s = 0 := by simp [zhd, hcnt]; simp at h; omega
      rw [h0] at hK; exact hK
    · refine zq hl ?_
      have h0 : zhd s = cnt := by simp [zhd, hcnt]; simp at h; omega
      rw [h0] at hK; exact hK
theorem gq39 {P Q : Prop} (h : Q) (e : P = Q := by simp -dsimp only [↓zey, ↓zay, ↓zbs, ↓zez, ↓zeu, ↓zes, ↓zev, ↓zet, ↓zbx, ↓zbt, ↓zby, ↓zbu, ↓zew, ↓zbr, ↓zbz, ↓zbv, ↓zbA, ↓zbw, ↓zer, ↓zex, ↓zbp, ↓zbB, ↓zep, ↓zeo, ↓zeq, iN, bT, bF, eN, ↓zcv, ↓unC, ↓zU, ↓zI, ↓zJ, ↓zM, ↓zX, ↓zal, ↓zcX, ↓zai, ↓zaJ, ↓zW, ↓zg, ↓zn, ↓zbP, ↓zb, ↓zaf, ↓zD, ↓zaI, ↓zaQ, ↓zd, ↓zF, ↓zj, ↓zG, ↓zam, ↓zdc, ↓zdj, ↓zak, ↓zau, ↓zaL, ↓zaY, ↓zbh, ↓zo, ↓zaj, ↓zK, ↓zr, ↓zV, zdk, zbn, zbk, unA, zdu, bnd, zdG, zae, zO, zdW, dm, dm1, zR, zaF, zea, zdZ, zw, Q0, Q1, Q2, Q3, Q4, Q5, zY, zC, zt, zN, zE, Q6, Q7, Q8, Q9, Q10, Q11, Q12, Q13, Q14, Nat.reduceAdd, Q15, Int.reduceToNat, Q16, Q17, Q18, Q19, Q20, reduceIte, Q21, Q22, S_op_Name, zA]; rfl) : P := e.mpr h
theorem c_Name {σ : List zf} {s : List UInt8} (hs : s.length ≤ 1073741824) {K : KT} (hK : K (.d (.bool (zib s))) σ) : zm Tryz.prog zoS [.d (.str s)] σ K := by
  refine zc e_op_Name.is rfl fun hl _ => e_op_Name.goes ?_
  (refine gq39 ?_; try with_reducible exact True.intro)
  refine c_Runes hs ?_
  (refine gq36 ?_; try with_reducible exact True.intro)
  refine zq hl ?_
  have : decide ((zhd s : Int) > 0) = zib s := by simp [zib]
  rw [this]; exact hK
end Go.Proofs.YtpgahkdjkanblaaGreat

/- Contracts: the reference's runes and names. -/
set_option maxRecDepth 100000
set_option linter.unusedSimpArgs false
namespace Go.Proofs.YtpgahkdjkanblaaGreat
open Go.AW

theorem c_rsize {σ : List zf} {c : Nat} {K : KT} (hK : K (.d (.int .i64 (zlQ c))) σ) : zm Tryz.prog zqq [.d (.int .u8 c)] σ K := by
  refine zc zuP.is rfl fun hl _ => zuP.goes ?_
  simp only [zvw, iN, bT, bF, eN]
  (repeat' (first | (refine zuE ?_; try with_reducible exact True.intro) | (refine zS (fun h => ?_) (fun h => ?_) <;> (try rw [h])) | ((with_reducible refine And.intro ?_ ?_); focus (first | omega | rfl | decide))))
  all_goals refine zq hl ?_
  all_goals (try simp only [decide_eq_true_eq, decide_eq_false_iff_not, beq_iff_eq, beq_eq_false_iff_ne, bne_iff_ne, ne_eq, Bool.not_eq_true', Bool.not_eq_false', bne_eq_false_iff_eq] at *)
  all_goals
    simp only [zdF, dmT, dm, dm1]
    have e : ∀ z : Nat, zlQ c = z → K (.d (.int .i64 z)) σ := fun z hz => by rw [← hz]; exact hK
    first
    | exact e 0 (by unfold zlQ; rw [if_neg (by omega), if_neg (by omega), if_neg (by omega), if_neg (by omega)])
    | exact e 1 (by unfold zlQ; rw [if_pos (by omega)])
    | exact e 2 (by unfold zlQ; rw [if_neg (by omega), if_pos (by omega)])
    | exact e 3 (by unfold zlQ; rw [if_neg (by omega), if_neg (by omega), if_pos (by omega)])
    | exact e 4 (by unfold zlQ; rw [if_neg (by omega), if_neg (by omega), if_neg (by omega), if_pos (by omega)])

theorem mask_eq (z : Nat) (hz : z = 2 ∨ z = 3 ∨ z = 4) (b : Nat) (hb : b < 256) :
    IntKind.i64.wrap ↑(BitVec.ofInt IntKind.i64.bits (b : Int) &&& BitVec.ofInt IntKind.i64.bits (IntKind.i64.wrap (IntKind.i64.wrap (1 * 2 ^ (min (IntKind.i64.wrap (7 - (z : Int))).toNat IntKind.i64.bits)) - 1))).toNat = ((b % 2 ^ (7 - z) : Nat) : Int) := by
  have h0 : (BitVec.ofInt 64 (b : Int)).toNat = b := by simp; omega
  have key : ∀ m : Nat, (m = 3 ∨ m = 4 ∨ m = 5) → IntKind.i64.wrap ↑(BitVec.ofInt 64 (b : Int) &&& BitVec.ofInt 64 ((2 : Int) ^ m - 1)).toNat = ((b % 2 ^ m : Nat) : Int) := fun m hm => by
    have : (BitVec.ofInt 64 (b : Int) &&& BitVec.ofInt 64 ((2 : Int) ^ m - 1)).toNat = b % 2 ^ m := by
      rw [BitVec.toNat_and, h0]
      rcases hm with rfl | rfl | rfl
      · exact Nat.and_two_pow_sub_one_eq_mod b 3
      · exact Nat.and_two_pow_sub_one_eq_mod b 4
      · exact Nat.and_two_pow_sub_one_eq_mod b 5
    rw [this]
    have : b % 2 ^ m < 256 := Nat.lt_of_le_of_lt (Nat.mod_le _ _) hb
    exact zat (by omega) (by omega)
  rcases hz with rfl | rfl | rfl
  · exact key 5 (by omega)
  · exact key 4 (by omega)
  · exact key 3 (by omega)

theorem partF_lt (s : List UInt8) (z : Nat) (hz : 2 ≤ z) : ∀ i, zgF s z i < 32 * 64 ^ i
  | 0 => by
    simp only [zgF]
    have : 2 ^ (7 - z) ≤ 2 ^ 5 := Nat.pow_le_pow_right (by omega) (by omega)
    have := Nat.mod_lt (at8 s 0) (y := 2 ^ (7 - z)) (Nat.pos_of_ne_zero (by simp))
    omega
  | i + 1 => by
    simp only [zgF, Nat.pow_succ]
    have := partF_lt s z hz i
    omega

theorem at8_some {s : List UInt8} {i : Nat} (h : i < s.length) : s[i]? = some s[i] ∧ (s[i].toNat : Int) = (at8 s i : Int) := by
  have : s[i]? = some s[i] := List.getElem?_eq_getElem h
  exact ⟨this, by simp [at8, this]⟩

theorem gq40 {A P Q : Prop} (a : A) (h : Q) (e : A → P = Q := by intro a; simp -dsimp only [↓zey, ↓zay, ↓zbs, ↓zez, ↓zeu, ↓zes, ↓zev, ↓zet, ↓zbx, ↓zbt, ↓zby, ↓zbu, ↓zew, ↓zbr, ↓zbz, ↓zbv, ↓zbA, ↓zbw, ↓zer, ↓zex, ↓zbp, ↓zbB, ↓zep, ↓zeo, ↓zeq, iN, bT, bF, eN, ↓zcv, ↓unC, ↓zU, ↓zI, ↓zJ, ↓zM, ↓zX, ↓zal, ↓zcX, ↓zai, ↓zaJ, ↓zW, ↓zg, ↓zn, ↓zbP, ↓zb, ↓zaf, ↓zD, ↓zaI, ↓zaQ, ↓zd, ↓zF, ↓zj, ↓zG, ↓zam, ↓zdc, ↓zdj, ↓zak, ↓zau, ↓zaL, ↓zaY, ↓zbh, ↓zo, ↓zaj, ↓zK, ↓zr, ↓zV, zdk, zbn, zbk, unA, zdu, bnd, zdG, zae, zO, zdW, dm, dm1, zR, zaF, zea, zdZ, zw, Q0, Q1, Q2, Q3, Q4, Q5, zY, zC, zt, zN, zE, Q6, Q7, Q8, Q9, Q10, Q11, Q12, Q13, Q14, Nat.reduceAdd, Q15, Int.reduceToNat, Q16, Q17, Q18, Q19, Q20, reduceIte, Q21, Q22, ztH, zA, a]; rfl) : P := (e a).mpr h
theorem gq41 {A P Q : Prop} (a : A) (h : Q) (e : A → P = Q := by intro a; simp -dsimp only [↓zey, ↓zay, ↓zbs, ↓zez, ↓zeu, ↓zes, ↓zev, ↓zet, ↓zbx, ↓zbt, ↓zby, ↓zbu, ↓zew, ↓zbr, ↓zbz, ↓zbv, ↓zbA, ↓zbw, ↓zer, ↓zex, ↓zbp, ↓zbB, ↓zep, ↓zeo, ↓zeq, iN, bT, bF, eN, ↓zcv, ↓unC, ↓zU, ↓zI, ↓zJ, ↓zM, ↓zX, ↓zal, ↓zcX, ↓zai, ↓zaJ, ↓zW, ↓zg, ↓zn, ↓zbP, ↓zb, ↓zaf, ↓zD, ↓zaI, ↓zaQ, ↓zd, ↓zF, ↓zj, ↓zG, ↓zam, ↓zdc, ↓zdj, ↓zak, ↓zau, ↓zaL, ↓zaY, ↓zbh, ↓zo, ↓zaj, ↓zK, ↓zr, ↓zV, zdk, zbn, zbk, unA, zdu, bnd, zdG, zae, zO, zdW, dm, dm1, zR, zaF, zea, zdZ, zw, Q0, Q1, Q2, Q3, Q4, Q5, zY, zC, zt, zN, zE, Q6, Q7, Q8, Q9, Q10, Q11, Q12, Q13, Q14, Nat.reduceAdd, Q15, Int.reduceToNat, Q16, Q17, Q18, Q19, Q20, reduceIte, Q21, Q22, zA, rep, zZ, zeB, toD, zap, Q23, Q24, Q25, Q26, Q27, Q28, Nat.reduceLeDiff, Q29, Nat.reduceSub, Q30, Q31, Q32, sc, Q33, Q34, Q35, a]; rfl) : P := (e a).mpr h
theorem c_rune1 {σ : List zf} {s : List UInt8} (hs : s.length ≤ 1073741824) (hne : s ≠ []) {K : KT} (hK : K (.tup [.d (.int .i64 (zjQ s).1), .d (.int .i64 (zjQ s).2)]) σ) : zm Tryz.prog zok [.d (.str s)] σ K := by
  refine zc zsR.is rfl fun hl _ => zsR.goes ?_
  have hpos : 0 < s.length := List.length_pos_iff.2 hne
  obtain ⟨g1, g2⟩ := at8_some hpos
  have hb0 := ztn s 0
  (refine gq40 (gqc3 g1 g2) ?_; try with_reducible exact True.intro)
  refine ⟨by omega, c_rsize ?_⟩
  have hz4 : zlQ (at8 s 0) = 0 ∨ zlQ (at8 s 0) = 1 ∨ zlQ (at8 s 0) = 2 ∨ zlQ (at8 s 0) = 3 ∨ zlQ (at8 s 0) = 4 := by
    unfold zlQ; split <;> (try split) <;> (try split) <;> (try split) <;> omega
  obtain ⟨z, hz⟩ : ∃ z, z = zlQ (at8 s 0) := ⟨_, rfl⟩
  rw [← hz] at hz4 ⊢
  have bad : z = 0 ∨ z > s.length → K (.tup [.d (.int .i64 0), .d (.int .i64 0)]) σ := fun h => by
    have : zjQ s = (0, 0) := by simp only [zjQ, ← hz]; rw [if_pos h]
    rw [this] at hK; exact hK
  (refine gq36 ?_; try with_reducible exact True.intro)
  refine zS (fun h => ?_) (fun h => ?_)
  all_goals (try (refine gq35 (gqc3 h (gqc3 g1 g2)) ?_; try with_reducible exact True.intro))
  · refine zq hl ?_
    exact bad (.inl (by (try simp only [decide_eq_true_eq, decide_eq_false_iff_not, beq_iff_eq, beq_eq_false_iff_ne, bne_iff_ne, ne_eq, Bool.not_eq_true', Bool.not_eq_false', bne_eq_false_iff_eq] at *); omega))
  have hz0 : z ≠ 0 := by (try simp only [decide_eq_true_eq, decide_eq_false_iff_not, beq_iff_eq, beq_eq_false_iff_ne, bne_iff_ne, ne_eq, Bool.not_eq_true', Bool.not_eq_false', bne_eq_false_iff_eq] at *); omega
  refine zS (fun h => ?_) (fun h => ?_)
  all_goals (try (refine gq35 (gqc3 h (gqc3 g1 g2)) ?_; try with_reducible exact True.intro))
  · refine zq hl ?_
    exact bad (.inr (by (try simp only [decide_eq_true_eq, decide_eq_false_iff_not, beq_iff_eq, beq_eq_false_iff_ne, bne_iff_ne, ne_eq, Bool.not_eq_true', Bool.not_eq_false', bne_eq_false_iff_eq] at *); omega))
  have hzl : z ≤ s.length := by (try simp only [decide_eq_true_eq, decide_eq_false_iff_not, beq_iff_eq, beq_eq_false_iff_ne, bne_iff_ne, ne_eq, Bool.not_eq_true', Bool.not_eq_false', bne_eq_false_iff_eq] at *); omega
  have hnb : ¬ (z = 0 ∨ z > s.length) := by omega
  refine zS (fun h => ?_) (fun h => ?_)
  all_goals (try (refine gq35 (gqc3 h (gqc3 g1 g2)) ?_; try with_reducible exact True.intro))
  · have h1 : z = 1 := by (try simp only [decide_eq_true_eq, decide_eq_false_iff_not, beq_iff_eq, beq_eq_false_iff_ne, bne_iff_ne, ne_eq, Bool.not_eq_true', Bool.not_eq_false', bne_eq_false_iff_eq] at *); omega
    refine ⟨by omega, ?_⟩
    refine zq hl ?_
    have : zjQ s = (at8 s 0, 1) := by simp only [zjQ, ← hz]; rw [if_neg hnb, if_pos h1]
    rw [this] at hK
    simp only [zdF, dmT, dm, dm1, List.map_cons, List.map_nil]
    rw [zat (by omega) (by omega)]
    exact hK
  have hz2 : z = 2 ∨ z = 3 ∨ z = 4 := by (try simp only [decide_eq_true_eq, decide_eq_false_iff_not, beq_iff_eq, beq_eq_false_iff_ne, bne_iff_ne, ne_eq, Bool.not_eq_true', Bool.not_eq_false', bne_eq_false_iff_eq] at *); omega
  have h1 : ¬ z = 1 := by omega
  refine ⟨by omega, ?_⟩
  have hw : IntKind.i64.wrap (at8 s 0 : Int) = (at8 s 0 : Int) := zat (by omega) (by omega)
  have hsh : (0 : Int) ≤ IntKind.i64.wrap (7 - (z : Int)) := by rw [zat (by omega) (by omega)]; omega
  refine ⟨hsh, ?_⟩
  rw [hw, mask_eq z hz2 _ hb0]
  refine zl z (fun k vs s' => s' = σ ∧ k + 1 ≤ z ∧ vs = [.d (.int .i64 (zgF s z k)), .d (.int .i64 (k + 1 : Nat))] ∧ ∀ i, i < k + 1 → 1 ≤ i → zqK s i = true) ⟨rfl, by omega, rfl, fun i h1 h2 => by omega⟩ ?_
  rintro k vs s' hk ⟨rfl, hk1, rfl, hcont⟩
  have hpl := partF_lt s z (by omega) k
  have hpow : 64 ^ k ≤ 64 ^ 3 := Nat.pow_le_pow_right (by omega) (by omega)
  (refine gq36 ?_; try with_reducible exact True.intro)
  have fail : (¬ ∀ i, i < z → 1 ≤ i → zqK s i = true) → K (.tup [.d (.int .i64 0), .d (.int .i64 0)]) s' := fun h => by
    have : zjQ s = (0, 0) := by simp only [zjQ, ← hz]; rw [if_neg hnb, if_neg h1, if_neg h]
    rw [this] at hK; exact hK
  refine zS (fun h => ?_) (fun h => ?_)
  · have hkz : k + 1 < z := by (try simp only [decide_eq_true_eq, decide_eq_false_iff_not, beq_iff_eq, beq_eq_false_iff_ne, bne_iff_ne, ne_eq, Bool.not_eq_true', Bool.not_eq_false', bne_eq_false_iff_eq] at *); omega
    obtain ⟨f1, f2⟩ := at8_some (s := s) (i := k + 1) (by omega)
    have hb := ztn s (k + 1)
    repeat' first
      | (refine gq41 (gqc3 f1 f2) ?_; try with_reducible exact True.intro)
      | (refine zS (fun h => ?_) (fun h => ?_) <;> (try rw [h]))
      | ((with_reducible refine And.intro ?_ ?_); focus (first | omega | rfl | decide))
    · refine zq hl ?_
      exact fail fun h' => by
        have := h' (k + 1) hkz (by omega)
        simp only [zqK] at this
        (try simp only [decide_eq_true_eq, decide_eq_false_iff_not, beq_iff_eq, beq_eq_false_iff_ne, bne_iff_ne, ne_eq, Bool.not_eq_true', Bool.not_eq_false', bne_eq_false_iff_eq] at *); omega
    · refine zq hl ?_
      exact fail fun h' => by
        have := h' (k + 1) hkz (by omega)
        simp only [zqK] at this
        (try simp only [decide_eq_true_eq, decide_eq_false_iff_not, beq_iff_eq, beq_eq_false_iff_ne, bne_iff_ne, ne_eq, Bool.not_eq_true', Bool.not_eq_false', bne_eq_false_iff_eq] at *); omega
    have hv : IntKind.i64.wrap (IntKind.i64.wrap (↑(zgF s z k) * 64) + (IntKind.i64.wrap ↑(at8 s (k + 1))).tmod 64) = ((zgF s z (k + 1) : Nat) : Int) := by
      have hp2 : zgF s z k < 32 * 64 ^ 3 := by omega
      have e1 : IntKind.i64.wrap ((zgF s z k : Int) * 64) = (zgF s z k : Int) * 64 := zat (by omega) (by omega)
      have e2 : IntKind.i64.wrap (at8 s (k + 1) : Int) = (at8 s (k + 1) : Int) := zat (by omega) (by omega)
      have e3 : ((at8 s (k + 1) : Int)).tmod 64 = ((at8 s (k + 1) % 64 : Nat) : Int) := by rw [Int.tmod_eq_emod_of_nonneg (by omega)]; rfl
      rw [e1, e2, e3, zat (by omega) (by omega)]
      simp only [zgF]
      omega
    have hw2 : IntKind.i64.wrap (((k + 1 : Nat) : Int) + 1) = ((k + 1 + 1 : Nat) : Int) := by rw [zat (by omega) (by omega)]; rfl
    rw [hv, hw2]
    refine zaG.next (by omega) ⟨rfl, by omega, rfl, fun i hi1 hi2 => ?_⟩
    by_cases hi : i < k + 1
    · exact hcont i hi hi2
    · obtain rfl : i = k + 1 := by omega
      simp only [zqK]
      (try simp only [decide_eq_true_eq, decide_eq_false_iff_not, beq_iff_eq, beq_eq_false_iff_ne, bne_iff_ne, ne_eq, Bool.not_eq_true', Bool.not_eq_false', bne_eq_false_iff_eq] at *); omega
  · have hkz : k + 1 = z := by (try simp only [decide_eq_true_eq, decide_eq_false_iff_not, beq_iff_eq, beq_eq_false_iff_ne, bne_iff_ne, ne_eq, Bool.not_eq_true', Bool.not_eq_false', bne_eq_false_iff_eq] at *); omega
    have hall : ∀ i, i < z → 1 ≤ i → zqK s i = true := by rw [← hkz]; exact hcont
    have hdec : zjQ s = if zgF s z k < zfx z ∨ zgF s z k > 1114111 ∨ (55296 ≤ zgF s z k ∧ zgF s z k < 57344) then (0, 0) else (zgF s z k, z) := by
      have e : z - 1 = k := by omega
      simp only [zjQ, ← hz]
      rw [if_neg hnb, if_neg h1, if_pos hall, e]
    have hget : ∃ l : Nat, l = zfx z ∧ ([[D.int .i64 0], [D.int .i64 0], [D.int .i64 128], [D.int .i64 2048], [D.int .i64 65536]] : List (List D))[z]? = some [D.int .i64 l] := by
      rcases hz2 with rfl | rfl | rfl <;> exact ⟨_, rfl, rfl⟩
    obtain ⟨l, hl1, hl2⟩ := hget
    rw [← hl1] at hdec
    repeat' first
      | (refine gq41 hl2 ?_; try with_reducible exact True.intro)
      | (refine zS (fun h => ?_) (fun h => ?_) <;> (try rw [h]))
      | ((with_reducible refine And.intro ?_ ?_); focus (first | omega | rfl | decide))
    all_goals refine zq hl ?_
    all_goals (try simp only [decide_eq_true_eq, decide_eq_false_iff_not, beq_iff_eq, beq_eq_false_iff_ne, bne_iff_ne, ne_eq, Bool.not_eq_true', Bool.not_eq_false', bne_eq_false_iff_eq] at *)
    all_goals simp only [zdF, dmT, dm, dm1, List.map_cons, List.map_nil]
    all_goals first
      | (rw [if_pos (by omega)] at hdec; rw [hdec] at hK; exact hK)
      | (rw [if_neg (by omega)] at hdec; rw [hdec] at hK; exact hK)

theorem badF_ref (v : Nat) : badF v = decide (v < 33 ∨ 127 ≤ v ∧ v < 160 ∨ v = 47 ∨ v = 65533) := by
  simp only [badF]; congr 1; apply propext; omega
theorem c_rRunes {σ : List zf} {s : List UInt8} (hs : s.length ≤ 1073741824) {K : KT} (hK : K (.d (.int .i64 (zhd s))) σ) : zm Tryz.prog zol [.d (.str s)] σ K := by
  refine zc zsS.is rfl fun hl _ => zsS.goes ?_
  simp only [ztI, iN, bT, bF, eN]
  refine zl s.length (fun pos vs s' => ∃ (cnt : Nat) (t : List UInt8), t.length + pos = s.length ∧ vs = [.d (.str t), .d (.int .i64 cnt)] ∧ s' = σ ∧ cnt ≤ pos ∧ cnt ≤ 16 ∧ zeb (s.length + 1) s = (zeb (s.length + 1) t).map (· + cnt)) ⟨0, s, rfl, rfl, rfl, by omega, by omega, by simp⟩ ?_
  rintro pos vs s' hp ⟨cnt, t, hlen, rfl, rfl, hc, hc16, hr⟩
  (refine gq36 ?_; try with_reducible exact True.intro)
  refine zS (fun h => ?_) (fun h => ?_)
  · have ht : t ≠ [] := by rintro rfl; simp at h
    have htl : 0 < t.length := List.length_pos_iff.2 ht
    have hw2 := zkp t
    have hcount : zeb (s.length + 1) t = if (zjQ t).2 = 0 ∨ badF (zjQ t).1 = true then none else (zeb s.length (t.drop (zjQ t).2)).map (· + 1) := by
      rw [zeb, if_neg ht]
    refine c_rune1 (by omega) ht ?_
    have stop : (zjQ t).2 = 0 ∨ badF (zjQ t).1 = true ∨ cnt = 16 → K (.d (.int .i64 0)) s' := fun hb => by
      have h0 : zhd s = 0 := by
        by_cases hq : (zjQ t).2 = 0 ∨ badF (zjQ t).1 = true
        · simp [zhd, hr, hcount, if_pos hq]
        · have hcn : cnt = 16 := by
            rcases hb with hb | hb | hb
            · exact absurd (.inl hb) hq
            · exact absurd (.inr hb) hq
            · exact hb
          simp only [zhd, hr, hcount, if_neg hq]
          cases zeb s.length (t.drop (zjQ t).2) with
          | none => simp
          | some m => simp; omega
      rw [h0] at hK; exact hK
    (repeat' (first | (refine zuE ?_; try with_reducible exact True.intro) | (refine zS (fun h => ?_) (fun h => ?_) <;> (try rw [h])) | ((with_reducible refine And.intro ?_ ?_); focus (first | omega | rfl | decide))))
    all_goals first
      | (refine zq hl ?_
         refine stop ?_
         rw [badF_ref, decide_eq_true_eq]
         (try simp only [decide_eq_true_eq, decide_eq_false_iff_not, beq_iff_eq, beq_eq_false_iff_ne, bne_iff_ne, ne_eq, Bool.not_eq_true', Bool.not_eq_false', bne_eq_false_iff_eq] at *)
         omega)
      | skip
    all_goals
      have hb : badF (zjQ t).1 = false := by
        rw [badF_ref, decide_eq_false_iff_not]
        (try simp only [decide_eq_true_eq, decide_eq_false_iff_not, beq_iff_eq, beq_eq_false_iff_ne, bne_iff_ne, ne_eq, Bool.not_eq_true', Bool.not_eq_false', bne_eq_false_iff_eq] at *)
        omega
      have h2 : (zjQ t).2 ≠ 0 := by (try simp only [decide_eq_true_eq, decide_eq_false_iff_not, beq_iff_eq, beq_eq_false_iff_ne, bne_iff_ne, ne_eq, Bool.not_eq_true', Bool.not_eq_false', bne_eq_false_iff_eq] at *); omega
      have hcl : cnt < 16 := by (try simp only [decide_eq_true_eq, decide_eq_false_iff_not, beq_iff_eq, beq_eq_false_iff_ne, bne_iff_ne, ne_eq, Bool.not_eq_true', Bool.not_eq_false', bne_eq_false_iff_eq] at *); omega
      rw [zat (by omega) (by omega)]
      refine zaG.to (pos + (zjQ t).2) (by omega) (by omega) ⟨cnt + 1, t.drop (zjQ t).2, by simp; omega, ?_, rfl, by omega, by omega, ?_⟩
      · simp
      · rw [hr, hcount, if_neg (by simp [h2, hb]), zos s.length (s.length + 1) _ (by simp; omega) (by simp; omega)]
        cases zeb (s.length + 1) (t.drop (zjQ t).2) <;> simp
        omega
  · refine zq hl ?_
    have ht : t = [] := by
      have : ¬ 0 < t.length := by (try simp only [decide_eq_true_eq, decide_eq_false_iff_not, beq_iff_eq, beq_eq_false_iff_ne, bne_iff_ne, ne_eq, Bool.not_eq_true', Bool.not_eq_false', bne_eq_false_iff_eq] at *); omega
      exact List.length_eq_zero_iff.1 (by omega)
    have h0 : zhd s = cnt := by
      simp only [zhd, hr, ht]
      simp [zeb]
      omega
    rw [h0] at hK; exact hK
theorem c_rName {σ : List zf} {s : List UInt8} (hs : s.length ≤ 1073741824) {K : KT} (hK : K (.d (.bool (zib s))) σ) : zm Tryz.prog zng [.d (.str s)] σ K := by
  refine zc zuR.is rfl fun hl _ => zuR.goes ?_
  simp only [zvy, iN, bT, bF, eN]
  (refine gq36 ?_; try with_reducible exact True.intro)
  refine c_rRunes hs ?_
  (refine gq36 ?_; try with_reducible exact True.intro)
  refine zq hl ?_
  have : decide ((zhd s : Int) > 0) = zib s := by simp [zib]
  rw [this]; exact hK
end Go.Proofs.YtpgahkdjkanblaaGreat

/- Contracts: which operations may be. -/
set_option maxRecDepth 100000
set_option linter.unusedSimpArgs false
namespace Go.Proofs.YtpgahkdjkanblaaGreat
open Go.AW

theorem c_Check_1 {σ : List zf} {r : List UInt8} {K : KT} (hK : K (.d (.bool (decide (r.length > 64)))) σ) : zm Tryz.prog zjh [.d (.slice (bcs r))] σ K := by
  refine zc zrm.is rfl fun hl _ => zrm.goes ?_
  simp only [zrx, iN, bT, bF, eN]
  (refine gq36 ?_; try with_reducible exact True.intro)
  refine zq hl ?_
  have : decide (((bcs r).length : Int) > 64) = decide (r.length > 64) := by simp [bcs]; omega
  rw [this]; exact hK
theorem gq42 {P Q : Prop} (h : Q) (e : P = Q := by simp -dsimp only [↓zey, ↓zay, ↓zbs, ↓zez, ↓zeu, ↓zes, ↓zev, ↓zet, ↓zbx, ↓zbt, ↓zby, ↓zbu, ↓zew, ↓zbr, ↓zbz, ↓zbv, ↓zbA, ↓zbw, ↓zer, ↓zex, ↓zbp, ↓zbB, ↓zep, ↓zeo, ↓zeq, iN, bT, bF, eN, ↓zcv, ↓unC, ↓zU, ↓zI, ↓zJ, ↓zM, ↓zX, ↓zal, ↓zcX, ↓zai, ↓zaJ, ↓zW, ↓zg, ↓zn, ↓zbP, ↓zb, ↓zaf, ↓zD, ↓zaI, ↓zaQ, ↓zd, ↓zF, ↓zj, ↓zG, ↓zam, ↓zdc, ↓zdj, ↓zak, ↓zau, ↓zaL, ↓zaY, ↓zbh, ↓zo, ↓zaj, ↓zK, ↓zr, ↓zV, zdk, zbn, zbk, unA, zdu, bnd, zdG, zae, zO, zdW, dm, dm1, zR, zaF, zea, zdZ, zw, Q0, Q1, Q2, Q3, Q4, Q5, zY, zC, zt, zN, zE, Q6, Q7, Q8, Q9, Q10, Q11, Q12, Q13, Q14, Nat.reduceAdd, Q15, Int.reduceToNat, Q16, Q17, Q18, Q19, Q20, reduceIte, Q21, Q22, dmT, zdF, zA]; rfl) : P := e.mpr h
theorem zmG {σ : List zf} {a : List (List UInt8)} (ha : a.length ≤ 1073741824) {K : KT} (hK : K (.d (.bool (a.any fun r => decide (r.length > 64)))) σ) :
    zm Tryz.prog zbe [.d (.slice (zeT a)), .fn (.func zjh) [] []] σ K := by
  refine zc zbY.is rfl fun hl _ => zbY.goes ?_
  simp only [zbZ, iN, bT, bF, eN]
  (refine gq36 ?_; try with_reducible exact True.intro)
  refine zc zcn.is rfl fun hl _ => zcn.goes ?_
  simp only [zco, iN, bT, bF, eN]
  (refine gq36 ?_; try with_reducible exact True.intro)
  refine zl a.length (fun k vs s => vs = [.d (.int .i64 k)] ∧ s = σ ∧ ∀ r ∈ a.take k, ¬ r.length > 64) ⟨rfl, rfl, by simp⟩ ?_
  rintro k vs s hk ⟨rfl, rfl, htk⟩
  (refine gq36 ?_; try with_reducible exact True.intro)
  refine zS (fun h => ?_) (fun h => ?_)
  · have hka : k < a.length := by (try simp only [decide_eq_true_eq, decide_eq_false_iff_not, beq_iff_eq, beq_eq_false_iff_ne, bne_iff_ne, ne_eq, Bool.not_eq_true', Bool.not_eq_false', bne_eq_false_iff_eq] at *); omega
    have hx : a[k]? = some a[k] := by simp [hka]
    (refine gq35 (zeZ hx) ?_; try with_reducible exact True.intro)
    refine And.intro (by omega) (c_Check_1 ?_)
    (refine gq36 ?_; try with_reducible exact True.intro)
    refine zS (fun h => ?_) (fun h => ?_)
    · refine zq hl ?_
      (refine gq42 ?_; try with_reducible exact True.intro)
      refine zq hl ?_
      have e1 : decide ((k : Int) ≥ 0) = true := by simp
      have e2 : (a.any fun r => decide (r.length > 64)) = true := by
        rw [List.any_eq_true]
        exact ⟨a[k], List.getElem_mem _, h⟩
      rw [e2] at hK
      simp only [zdF, dmT, dm, dm1]
      rw [e1]; exact hK
    · (refine gq36 ?_; try with_reducible exact True.intro)
      refine zaG.next hka ⟨?_, rfl, fun r hr => ?_⟩
      · rw [zat (by omega) (by omega)]; rfl
      · rw [List.take_add_one, hx] at hr
        rcases List.mem_append.1 hr with hr | hr
        · exact htk r hr
        · have : r = a[k] := by simpa using hr
          subst this
          simpa using h
  · refine zq hl ?_
    (refine gq42 ?_; try with_reducible exact True.intro)
    refine zq hl ?_
    have e2 : (a.any fun r => decide (r.length > 64)) = false := by
      rw [List.any_eq_false]
      intro r hr
      have hk' : k = a.length := by (try simp only [decide_eq_true_eq, decide_eq_false_iff_not, beq_iff_eq, beq_eq_false_iff_ne, bne_iff_ne, ne_eq, Bool.not_eq_true', Bool.not_eq_false', bne_eq_false_iff_eq] at *); omega
      rw [hk', List.take_length] at htk
      simpa using htk r hr
    rw [e2] at hK
    exact hK
theorem gq43 {P Q : Prop} (h : Q) (e : P = Q := by simp -dsimp only [↓zey, ↓zay, ↓zbs, ↓zez, ↓zeu, ↓zes, ↓zev, ↓zet, ↓zbx, ↓zbt, ↓zby, ↓zbu, ↓zew, ↓zbr, ↓zbz, ↓zbv, ↓zbA, ↓zbw, ↓zer, ↓zex, ↓zbp, ↓zbB, ↓zep, ↓zeo, ↓zeq, iN, bT, bF, eN, ↓zcv, ↓unC, ↓zU, ↓zI, ↓zJ, ↓zM, ↓zX, ↓zal, ↓zcX, ↓zai, ↓zaJ, ↓zW, ↓zg, ↓zn, ↓zbP, ↓zb, ↓zaf, ↓zD, ↓zaI, ↓zaQ, ↓zd, ↓zF, ↓zj, ↓zG, ↓zam, ↓zdc, ↓zdj, ↓zak, ↓zau, ↓zaL, ↓zaY, ↓zbh, ↓zo, ↓zaj, ↓zK, ↓zr, ↓zV, zdk, zbn, zbk, unA, zdu, bnd, zdG, zae, zO, zdW, dm, dm1, zR, zaF, zea, zdZ, zw, Q0, Q1, Q2, Q3, Q4, Q5, zY, zC, zt, zN, zE, Q6, Q7, Q8, Q9, Q10, Q11, Q12, Q13, Q14, Nat.reduceAdd, Q15, Int.reduceToNat, Q16, Q17, Q18, Q19, Q20, reduceIte, Q21, Q22, zA, rep, zZ, zeB, toD, zap, Q23, Q24, Q25, Q26, Q27, Q28, Nat.reduceLeDiff, Q29, Nat.reduceSub, Q30, Q31, Q32, sc, Q33, Q34, Q35, opA]; rfl) : P := e.mpr h
theorem c_Check {σ : List zf} {o : TOp} (ht : o.topic.length ≤ 1073741824) (hg : o.group.length ≤ 1073741824) (hr : o.recs.length ≤ 1073741824) {K : KT} (hK : K (.d (.int .i64 (zcg zib o))) σ) : zm Tryz.prog znh [opA o] σ K := by
  refine zc zuW.is rfl fun hl _ => zuW.goes ?_
  simp only [zvD, iN, bT, bF, eN, opA]
  (refine zuE ?_; try with_reducible exact True.intro)
  refine c_only (o := o) ?_
  have honly : (zme o).recs.length ≤ 1073741824 := by unfold zme noOp; split <;> (try split) <;> (try split) <;> (try split) <;> simp <;> omega
  (refine gq43 ?_; try with_reducible exact True.intro)
  repeat' first
    | (refine zuE ?_; try with_reducible exact True.intro)
    | refine c_Same (a := o) (b := zme o) hr honly ?_
    | refine c_Name ht ?_
    | refine c_Name hg ?_
    | refine zmG hr ?_
    | (refine zS (fun h => ?_) (fun h => ?_) <;> (try rw [h]))
    | ((with_reducible refine And.intro ?_ ?_); focus (first | omega | rfl | decide))
  all_goals refine zq hl ?_
  all_goals (try simp only [decide_eq_true_eq, decide_eq_false_iff_not, beq_iff_eq, beq_eq_false_iff_ne, bne_iff_ne, ne_eq, Bool.not_eq_true', Bool.not_eq_false', bne_eq_false_iff_eq] at *)
  all_goals
    simp only [zdF, dmT, dm, dm1]
    have e : ∀ z : Int, zcg zib o = z → K (.d (.int .i64 z)) σ := fun z hz => by rw [← hz]; exact hK
    clear hK
    apply e
    first
    | grind [zcg]
    | skip
end Go.Proofs.YtpgahkdjkanblaaGreat

/- Contracts: which operations may be, by the reference. -/
set_option maxRecDepth 100000
set_option linter.unusedSimpArgs false
namespace Go.Proofs.YtpgahkdjkanblaaGreat
open Go.AW

def zmm (k : Int) : Bool := decide (1 ≤ k ∧ k ≤ 4)
def zoZ (k : Int) : Bool := decide (k = 3)
def fOff (k : Int) : Bool := decide (k = 3 ∨ k = 4)
def zwc (k : Int) : Bool := decide (k = 2)
theorem c_fields {σ : List zf} {k : Int} {K : KT} (hK : K (.tup [.d (.bool (zmm k)), .d (.bool (zoZ k)), .d (.bool (fOff k)), .d (.bool (zwc k))]) σ) : zm Tryz.prog zjf [.d (.int .i64 k)] σ K := by
  refine zc zri.is rfl fun hl _ => zri.goes ?_
  simp only [zrt, iN, bT, bF, eN]
  (repeat' (first | (refine zuE ?_; try with_reducible exact True.intro) | (refine zS (fun h => ?_) (fun h => ?_) <;> (try rw [h])) | ((with_reducible refine And.intro ?_ ?_); focus (first | omega | rfl | decide))))
  all_goals refine zq hl ?_
  all_goals (try simp only [decide_eq_true_eq, decide_eq_false_iff_not, beq_iff_eq, beq_eq_false_iff_ne, bne_iff_ne, ne_eq, Bool.not_eq_true', Bool.not_eq_false', bne_eq_false_iff_eq] at *)
  all_goals
    simp only [zdF, dmT, dm, dm1, List.map_cons, List.map_nil]
    have e : ∀ a b c d : Bool, zmm k = a → zoZ k = b → fOff k = c → zwc k = d → K (.tup [.d (.bool a), .d (.bool b), .d (.bool c), .d (.bool d)]) σ := fun a b c d h1 h2 h3 h4 => by rw [← h1, ← h2, ← h3, ← h4]; exact hK
    clear hK
    apply e <;> simp [zmm, zoZ, fOff, zwc] <;> omega
theorem onlyF_iff (o : TOp) : o = zme o ↔ (zmm o.kind = false → o.topic = []) ∧ (zoZ o.kind = false → o.group = []) ∧ (fOff o.kind = false → o.offset = 0) ∧ (zwc o.kind = false → o.recs = []) := by
  obtain ⟨k, t, g, f, r⟩ := o
  simp only [zme, noOp, zmm, zoZ, fOff, zwc, decide_eq_false_iff_not]
  by_cases h1 : k = 1
  · subst h1; simp
  by_cases h2 : k = 2
  · subst h2; simp
  by_cases h3 : k = 3
  · subst h3; simp
  by_cases h4 : k = 4
  · subst h4; simp
  · have : ¬ (1 ≤ k ∧ k ≤ 4) := by omega
    simp [h1, h2, h3, h4, this]
set_option maxHeartbeats 2000000 in
theorem c_rCheck {σ : List zf} {o : TOp} (ht : o.topic.length ≤ 1073741824) (hg : o.group.length ≤ 1073741824) (hr : o.recs.length ≤ 1073741824) {K : KT} (hK : K (.d (.int .i64 (zcg zib o))) σ) : zm Tryz.prog zkP [opA o] σ K := by
  refine zc zsT.is rfl fun hl _ => zsT.goes ?_
  simp only [ztJ, iN, bT, bF, eN, opA]
  (refine zuE ?_; try with_reducible exact True.intro)
  refine c_fields ?_
  have fin : ∀ z : Int, zcg zib o = z → K (.d (.int .i64 z)) σ := fun z hz => by rw [← hz]; exact hK
  have honly := onlyF_iff o
  have hkind : zmm o.kind = true → zgX o = true := by simp [zmm, zgX]; omega
  have hk1 : zmm o.kind = true ↔ (zgX o = true ∧ o.kind ≠ 0) := by simp [zmm, zgX]; omega
  have hk2 : zoZ o.kind = true ↔ o.kind = 3 := by simp [zoZ]
  have hk3 : zwc o.kind = true ↔ o.kind = 2 := by simp [zwc]
  have hk4 : zgX o = true ↔ (0 ≤ o.kind ∧ o.kind ≤ 4) := by simp [zgX]
  have hnil : o.recs = [] ↔ o.recs.length = 0 := List.length_eq_zero_iff.symm
  clear hK
  repeat' first
    | (refine zuE ?_; try with_reducible exact True.intro)
    | refine c_rName ht ?_
    | refine c_rName hg ?_
    | (refine zS (fun h => ?_) (fun h => ?_) <;> (try rw [h]))
    | ((with_reducible refine And.intro ?_ ?_); focus (first | omega | rfl | decide))
  all_goals first
    | (refine zq hl ?_
       (try simp only [decide_eq_true_eq, decide_eq_false_iff_not, beq_iff_eq, beq_eq_false_iff_ne, bne_iff_ne, ne_eq, Bool.not_eq_true', Bool.not_eq_false', bne_eq_false_iff_eq] at *)
       simp only [zdF, dmT, dm, dm1]
       apply fin
       grind [zcg])
    | skip
  all_goals
    refine zl o.recs.length (fun k vs s => vs = [.d (.int .i64 k)] ∧ s = σ ++ [.box [.d (.int .i64 o.kind), .d (.str o.topic), .d (.str o.group), .d (.int .i64 o.offset), .d (.slice (zeT o.recs))]] ∧ ∀ r ∈ o.recs.take k, ¬ r.length > 64) ⟨rfl, rfl, by simp⟩ ?_
    rintro k vs s hk ⟨rfl, rfl, htk⟩
    (refine gq36 ?_; try with_reducible exact True.intro)
    refine zS (fun h => ?_) (fun h => ?_)
    · have hka : k < o.recs.length := by (try simp only [decide_eq_true_eq, decide_eq_false_iff_not, beq_iff_eq, beq_eq_false_iff_ne, bne_iff_ne, ne_eq, Bool.not_eq_true', Bool.not_eq_false', bne_eq_false_iff_eq] at *); omega
      have hx : o.recs[k]? = some o.recs[k] := by simp [hka]
      have hmem : o.recs[k] ∈ o.recs := List.getElem_mem _
      have hbl : (bcs o.recs[k]).length = o.recs[k].length := by simp [bcs]
      (refine gq35 (zeZ hx) ?_; try with_reducible exact True.intro)
      refine And.intro (by omega) ?_
      refine zS (fun h => ?_) (fun h => ?_)
      · have hany : (o.recs.any fun r => decide (r.length > 64)) = true := by
          rw [List.any_eq_true]
          exact ⟨_, hmem, by (try simp only [decide_eq_true_eq, decide_eq_false_iff_not, beq_iff_eq, beq_eq_false_iff_ne, bne_iff_ne, ne_eq, Bool.not_eq_true', Bool.not_eq_false', bne_eq_false_iff_eq] at *); omega⟩
        refine zq hl ?_
        (try simp only [decide_eq_true_eq, decide_eq_false_iff_not, beq_iff_eq, beq_eq_false_iff_ne, bne_iff_ne, ne_eq, Bool.not_eq_true', Bool.not_eq_false', bne_eq_false_iff_eq] at *)
        simp only [zdF, dmT, dm, dm1]
        apply fin
        grind [zcg]
      · (refine gq36 ?_; try with_reducible exact True.intro)
        refine zaG.next hka ⟨?_, rfl, fun r hr => ?_⟩
        · rw [zat (by omega) (by omega)]; rfl
        · rw [List.take_add_one, hx] at hr
          rcases List.mem_append.1 hr with hr | hr
          · exact htk r hr
          · have : r = o.recs[k] := by simpa using hr
            subst this
            (try simp only [decide_eq_true_eq, decide_eq_false_iff_not, beq_iff_eq, beq_eq_false_iff_ne, bne_iff_ne, ne_eq, Bool.not_eq_true', Bool.not_eq_false', bne_eq_false_iff_eq] at *)
            omega
    · have hany : (o.recs.any fun r => decide (r.length > 64)) = false := by
        rw [List.any_eq_false]
        intro r hr
        have hk' : k = o.recs.length := by (try simp only [decide_eq_true_eq, decide_eq_false_iff_not, beq_iff_eq, beq_eq_false_iff_ne, bne_iff_ne, ne_eq, Bool.not_eq_true', Bool.not_eq_false', bne_eq_false_iff_eq] at *); omega
        rw [hk', List.take_length] at htk
        simpa using htk r hr
      clear htk
      (repeat' (first | (refine zuE ?_; try with_reducible exact True.intro) | (refine zS (fun h => ?_) (fun h => ?_) <;> (try rw [h])) | ((with_reducible refine And.intro ?_ ?_); focus (first | omega | rfl | decide))))
      all_goals
        refine zq hl ?_
        (try simp only [decide_eq_true_eq, decide_eq_false_iff_not, beq_iff_eq, beq_eq_false_iff_ne, bne_iff_ne, ne_eq, Bool.not_eq_true', Bool.not_eq_false', bne_eq_false_iff_eq] at *)
        simp only [zdF, dmT, dm, dm1]
        apply fin
        grind [zcg]
end Go.Proofs.YtpgahkdjkanblaaGreat
