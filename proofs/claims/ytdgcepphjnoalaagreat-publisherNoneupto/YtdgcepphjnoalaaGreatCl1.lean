/- Contracts: bytes.Clone. -/
import Derived.Test.YtdgcepphjnoalaaGreatSh
import Derived.Test.YtdgcepphjnoalaaGreatAwEnd
import Derived.IntWalk
set_option linter.all false
set_option maxRecDepth 100000
set_option linter.unusedSimpArgs false
namespace Go.Proofs.YtdgcepphjnoalaaGreat
open Go.AW

theorem zgm {σ : List zc} {es : List (List D)} {K : AV → List zc → Prop} (he : ∀ e ∈ es, e.length = 1) (hn : es.length ≤ 1073741824) (hK : K (.own σ.length es) (σ ++ [.tok 1 es.length])) : zl Tryz.prog zbY [.d (.slice es)] σ K := by
  refine zl.tok he ?_ hK
  refine zbN ziv.is rfl (fun s => if s.length = σ.length then [] else [σ.length]) fun hl _ => ziv.goes ?_
  simp only [ziE, iN, bT, bF, eN, zZ, zdF]
  cases es with
  | nil =>
    refine ⟨?_, ?_⟩
    · simp only [zX, zL, zQ]
      exact zit (by simp) hl rfl (by simp)
    · simp only [zX, zr, zQ, zac, rep, zn, zfi, zad, zD, zeF]
      refine ⟨by simp, by simp, by simp, ?_⟩
      exact zms hl (by simp) (by simp)
  | cons e es =>
    simp only [zX, zr, zQ, zac, rep, zn, zfi, zad, zD, zeF]
    refine ⟨he, by simp, by simp at hn ⊢; omega, ?_⟩
    exact zms hl (by simp) (by simp)

theorem zrf {σ : List zc} {es : List (List D)} {K : AV → List zc → Prop} (he : ∀ e ∈ es, e.length = 1) (hK : K (.exact es) σ) : zl Tryz.prog zdh [.d (.slice es)] σ K := by
  refine zbN zeO.is rfl (fun _ => []) fun hl _ => zeO.goes ?_
  simp only [zeR, iN, bT, bF, eN, gF, gT, gFm, gTm, fl, nfl, gFl, gTl, il, cp, orC, anC, cA, bP, z1, z2, m1, List.map_cons, List.map_nil, zaV, zdF, zdU, bnd, zeV, zQ]
  refine ⟨rfl, trivial, by omega, by omega, by omega, he, ?_⟩
  simp only [zlR, zro, getL, znZ, zdg, zdb]
  simpa using ⟨hl, hK⟩
theorem ziz {σ : List zc} {a b : List UInt8} {K : AV → List zc → Prop} (hK : K (.d (.bool (a == b))) σ) : zl Tryz.prog zeK [.d (.slice (bcs a)), .d (.slice (bcs b))] σ K := by
  refine zjc zqY fun hl => ?_
  simp only [zlO, iN, bT, bF, eN, gF, gT, gFm, gTm, fl, nfl, gFl, gTl, il, cp, orC, anC, cA, bP, z1, z2, m1, List.map_cons, List.map_nil, zay, zdF, zkT, zds, zen, zbL, zQ]
  exact zou (by simp [zhZ, dmT, dm, dm1, zdg]) hl hK
end Go.Proofs.YtdgcepphjnoalaaGreat

/- How a number is put: seven bits a byte. No program in sight. -/
namespace Go.AW

def zdC (n : Nat) : List UInt8 := if n < 128 then [UInt8.ofNat n] else UInt8.ofNat (n % 128 + 128) :: zdC (n / 128)
termination_by n
decreasing_by omega

theorem zmc {n : Nat} (h : n < 128) : zdC n = [UInt8.ofNat n] := by rw [zdC, if_pos h]
theorem numB_big {n : Nat} (h : ¬ n < 128) : zdC n = UInt8.ofNat (n % 128 + 128) :: zdC (n / 128) := by rw [zdC, if_neg h]
theorem numB_len : ∀ (k n : Nat), n < 128 ^ (k + 1) → 1 ≤ (zdC n).length ∧ (zdC n).length ≤ k + 1
  | 0, n, h => by rw [zmc (by simpa using h)]; simp
  | k + 1, n, h => by
    by_cases hs : n < 128
    · rw [zmc hs]; simp
    · rw [numB_big hs]
      have := numB_len k (n / 128) (by rw [Nat.div_lt_iff_lt_mul (by omega)]; rw [Nat.pow_succ] at h; exact h)
      simp; omega
theorem zP {n : Nat} (h : n < 18446744073709551616) : 1 ≤ (zdC n).length ∧ (zdC n).length ≤ 10 := numB_len 9 n (by omega)

theorem or128 : ∀ x : Fin 256, (BitVec.ofInt 8 (x.val : Int) ||| BitVec.ofInt 8 128).toNat = x.val % 128 + 128 := by decide +kernel
theorem wrap8 (n : Nat) : IntKind.u8.wrap (n : Int) = ((n % 256 : Nat) : Int) := by
  simp [IntKind.wrap, IntKind.signed, IntKind.bits]
theorem wrap8_lt {n : Nat} (h : n < 256) : IntKind.u8.wrap (n : Int) = (n : Int) := by rw [wrap8, Nat.mod_eq_of_lt h]
theorem zho {n : Nat} (h : n < 18446744073709551616) : IntKind.u64.wrap (n : Int) = (n : Int) := by
  simp [IntKind.wrap, IntKind.signed, IntKind.bits]
  omega
theorem zdf {n : Int} (h1 : -9223372036854775808 ≤ n) (h2 : n ≤ 9223372036854775807) : IntKind.i64.wrap n = n := IntWalk.i64_in n ⟨h1, h2⟩
theorem zmB {n : Nat} (h : n < 256) : ((UInt8.ofNat n).toNat : Int) = (n : Int) := by
  simp; omega
end Go.AW

/- Contracts: how numbers and byte strings are put. -/
set_option maxRecDepth 100000
set_option linter.unusedSimpArgs false
namespace Go.Proofs.YtdgcepphjnoalaaGreat
open Go.AW

def bva (bs : List UInt8) : List AV := bs.map fun b => .d (.int .u8 (b.toNat : Int))
def zfj (bs : List UInt8) : List AV := bva bs ++ List.replicate (10 - bs.length) (.d (.int .u8 0))

theorem zpB {pre : List UInt8} {b : UInt8} (h : pre.length < 10) : zV (zfj pre) pre.length [.d (.int .u8 (b.toNat : Int))] = zfj (pre ++ [b]) := by
  simp only [zV, zfj, bva, List.length_singleton]
  obtain ⟨m, hm⟩ : ∃ m, 10 - pre.length = m + 1 := ⟨9 - pre.length, by omega⟩
  rw [hm, List.take_left' (by simp), List.drop_append]
  simp only [List.length_map]
  rw [List.drop_eq_nil_of_le (by simp), show pre.length + 1 - pre.length = 1 by omega, List.replicate_succ]
  simp [List.length_append, show 10 - (pre.length + 1) = m by omega]

theorem byte_or (m : Nat) : IntKind.u8.wrap ↑(BitVec.ofInt IntKind.u8.bits (IntKind.u8.wrap (m : Int)) ||| BitVec.ofInt IntKind.u8.bits 128).toNat = ((UInt8.ofNat (m % 128 + 128)).toNat : Int) := by
  rw [wrap8 m, show IntKind.u8.bits = 8 from rfl, or128 ⟨m % 256, by omega⟩, wrap8_lt (by simp; omega), zmB (by omega)]
  simp
theorem byte_wrap {m : Nat} (h : m < 128) : IntKind.u8.wrap (m : Int) = ((UInt8.ofNat m).toNat : Int) := by
  rw [wrap8_lt (by omega), zmB (by omega)]
theorem shr7 (m : Nat) : ((m : Int)).fdiv (2 ^ min 7 IntKind.u64.bits) = ((m / 128 : Nat) : Int) := by
  rw [show min 7 IntKind.u64.bits = 7 from rfl, Int.fdiv_eq_ediv_of_nonneg _ (by decide)]
  rfl
theorem zlk {pre : List UInt8} (h : pre.length ≤ 10) : (zfj pre).length = 10 := by simp [zfj, bva]; omega
theorem pad10_sc (pre : List UInt8) : (zfj pre).all sc = true := by
  simp only [zfj, bva, List.all_append, List.all_map, List.all_replicate, Bool.and_eq_true]
  refine ⟨by simp [sc], ?_⟩
  cases 10 - pre.length <;> simp [sc]

theorem pad10_d (pre : List UInt8) : zfj pre = ((pre.map fun b => D.int .u8 (b.toNat : Int)) ++ List.replicate (10 - pre.length) (D.int .u8 0)).map AV.d := by
  simp [zfj, bva, Function.comp_def]
theorem gq1 {P Q : Prop} (h : Q) (e : P = Q := by simp -dsimp only [↓zgn, ↓zaG, ↓zca, ↓zgo, ↓zgh, ↓zgf, ↓zgi, ↓zgg, ↓zcf, ↓zcb, ↓zcg, ↓zcc, ↓zgj, ↓zbW, ↓zch, ↓zcd, ↓zci, ↓zce, ↓zge, ↓zgl, ↓zbV, ↓zck, ↓zgb, ↓zga, ↓zgd, iN, bT, bF, eN, ↓zds, ↓unC, ↓zX, ↓zJ, ↓zK, ↓zM, ↓zal, ↓zaV, ↓zdU, ↓zay, ↓zbD, ↓zR, ↓zi, ↓zg, ↓zbr, ↓zd, ↓zan, ↓zO, ↓zbf, ↓zbg, ↓zf, ↓zB, ↓zn, ↓zD, ↓zZ, ↓zeb, ↓zes, ↓zaq, ↓zaC, ↓zbe, ↓zbl, ↓zbG, ↓zp, ↓zao, ↓zL, ↓zr, ↓zaj, zen, zbP, zbL, unA, zdF, bnd, zeV, zaf, zac, zeF, dm, dm1, zQ, zaz, zfy, zfx, zI, Q0, Q1, Q2, Q3, Q4, Q5, zam, zw, zu, zN, zG, Q6, Q7, Q8, Q9, Q10, Q11, Q12, Q13, Q14, Nat.reduceAdd, Q15, Int.reduceToNat, Q16, Q17, Q18, Q19, Q20, reduceIte, Q21, Q22]; rfl) : P := e.mpr h
theorem gq2 {A P Q : Prop} (a : A) (h : Q) (e : A → P = Q := by intro a; simp -dsimp only [↓zgn, ↓zaG, ↓zca, ↓zgo, ↓zgh, ↓zgf, ↓zgi, ↓zgg, ↓zcf, ↓zcb, ↓zcg, ↓zcc, ↓zgj, ↓zbW, ↓zch, ↓zcd, ↓zci, ↓zce, ↓zge, ↓zgl, ↓zbV, ↓zck, ↓zgb, ↓zga, ↓zgd, iN, bT, bF, eN, ↓zds, ↓unC, ↓zX, ↓zJ, ↓zK, ↓zM, ↓zal, ↓zaV, ↓zdU, ↓zay, ↓zbD, ↓zR, ↓zi, ↓zg, ↓zbr, ↓zd, ↓zan, ↓zO, ↓zbf, ↓zbg, ↓zf, ↓zB, ↓zn, ↓zD, ↓zZ, ↓zeb, ↓zes, ↓zaq, ↓zaC, ↓zbe, ↓zbl, ↓zbG, ↓zp, ↓zao, ↓zL, ↓zr, ↓zaj, zen, zbP, zbL, unA, zdF, bnd, zeV, zaf, zac, zeF, dm, dm1, zQ, zaz, zfy, zfx, zI, Q0, Q1, Q2, Q3, Q4, Q5, zam, zw, zu, zN, zG, Q6, Q7, Q8, Q9, Q10, Q11, Q12, Q13, Q14, Nat.reduceAdd, Q15, Int.reduceToNat, Q16, Q17, Q18, Q19, Q20, reduceIte, Q21, Q22, a]; rfl) : P := (e a).mpr h
theorem c_form {σ : List zc} {n : Nat} (hn : n < 18446744073709551616) {K : AV → List zc → Prop} (hK : K (.tup [.agg (zfj (zdC n)), .d (.int .i64 (zdC n).length)]) σ) : zl Tryz.prog zjp [.d (.int .u64 n)] σ K := by
  refine zfT e_codec_form fun hl => ?_
  simp only [znl, iN, bT, bF, eN, zR]
  have hlen := zP hn
  refine zae 10 (fun k vs s => ∃ (m : Nat) (pre : List UInt8), k = pre.length ∧ vs = [.d (.int .u64 m), .d (.int .i64 k)] ∧ zdC n = pre ++ zdC m ∧ m < 18446744073709551616 ∧
      s = σ ++ [.box (zfj []), .box (zfj pre)]) ⟨n, [], rfl, rfl, rfl, hn, by simp [zfj, bva]⟩ ?_
  rintro k vs s hk ⟨m, pre, rfl, rfl, hpre, hm, rfl⟩
  have hm10 := zP hm
  have hpl : pre.length + (zdC m).length ≤ 10 := by rw [hpre] at hlen; simpa using hlen.2
  have hp : pre.length < 10 := by omega
  (refine gq1 ?_; try with_reducible exact True.intro)
  refine zbh (fun h => ?_) (fun h => ?_)
  all_goals (try (refine gq2 h ?_; try with_reducible exact True.intro))
  · have h1 : ¬ m < 128 := by simp at h; omega
    have h2 := numB_big h1
    rw [h2] at hpl
    simp at hpl
    rw [byte_or, shr7, zpB hp]
    refine ⟨by omega, by omega, by have := zlk (pre := pre) (by omega); omega, by simp [sc], by omega, ?_⟩
    refine zdE.next (by omega) ⟨m / 128, pre ++ [UInt8.ofNat (m % 128 + 128)], by simp, ?_, by rw [hpre, h2]; simp, by omega, rfl⟩
    rw [zdf (by omega) (by omega)]
    rfl
  · have h1 : m < 128 := by simp at h; omega
    have h2 := zmc h1
    rw [byte_wrap h1, zpB hp]
    have hp1 : (zfj (pre ++ [UInt8.ofNat m])).length = 10 := zlk (by simp; omega)
    have hsp : zV (zfj []) 0 (zfj (pre ++ [UInt8.ofNat m])) = zfj (pre ++ [UInt8.ofNat m]) := by
      simp only [zV, Nat.zero_add, List.take_zero, List.nil_append]
      rw [hp1, List.drop_eq_nil_of_le (by simp [zfj, bva]), List.append_nil]
    have htk : List.take 10 (List.drop 0 (zfj (pre ++ [UInt8.ofNat m]))) = zfj (pre ++ [UInt8.ofNat m]) := by
      rw [List.drop_zero, List.take_of_length_le (by omega)]
    rw [htk, hsp, htk, if_pos (by omega)]
    refine ⟨by omega, by omega, by have := zlk (pre := pre) (by omega); omega, by simp [sc], by omega, by omega, by simp [zfj, bva], pad10_sc _, ?_⟩
    have hd : dmT (zdg [.agg (zfj (pre ++ [UInt8.ofNat m])), .d (.int .i64 (IntKind.i64.wrap (↑pre.length + 1)))]) = .tup [.agg (zfj (pre ++ [UInt8.ofNat m])), .d (.int .i64 (zdC n).length)] := by
      rw [zdf (by omega) (by omega), hpre, h2]
      simp only [zdg, dmT, List.map_cons, List.map_nil, dm, pad10_d, map_dm1_d, dm1]
      rw [List.length_append]; rfl
    refine zmr ?_ hl ?_
    · rw [hd, pad10_d, zda]
      intro c hc
      rcases List.mem_cons.1 hc with rfl | hc
      · exact .agg _ (zls _ _)
      · have hc := List.mem_singleton.1 hc
        subst hc; exact .d _
    · rw [hd]; rw [hpre, h2] at hK ⊢; exact hK

theorem toDs_bva (bs : List UInt8) (r : List AV) (ds : List D) (h : zfi r = some ds) : zfi (bva bs ++ r) = some ((bs.map fun b => D.int .u8 (b.toNat : Int)) ++ ds) := by
  induction bs with
  | nil => simpa [bva] using h
  | cons b bs ih => simp only [bva, List.map_cons, List.cons_append, zfi, toD] at ih ⊢; rw [ih]
theorem chunks1 (bs : List UInt8) : zad 1 bs.length (bs.map fun b => D.int .u8 (b.toNat : Int)) = bcs bs := by
  induction bs with
  | nil => rfl
  | cons b bs ih => simp only [List.length_cons, List.map_cons, zad, bcs, List.take_succ_cons, List.take_zero, List.drop_succ_cons, List.drop_zero] at ih ⊢; rw [ih]; rfl

theorem zdS {σ : List zc} {b : List UInt8} {n : Nat} (hn : n < 18446744073709551616) (hb : b.length ≤ 1073741824) {K : AV → List zc → Prop} (hK : K (.own σ.length (bcs (b ++ zdC n))) (σ ++ [.tok 1 (b ++ zdC n).length])) :
    zl Tryz.prog zav [.d (.slice (bcs b)), .d (.int .u64 n)] σ K := by
  refine zbN zkk.is rfl (fun s => [σ.length + 1]) fun hl _ => zkk.goes ?_
  have hlen := zP hn
  simp only [zkv, iN, bT, bF, eN, gF, gT, gFm, gTm, fl, nfl, gFl, gTl, il, cp, orC, anC, cA, bP, z1, z2, m1, List.map_cons, List.map_nil]
  simp only [dm, dm1]
  refine c_form hn ?_
  have hp := zlk hlen.2
  have hsp : zV (List.replicate 10 (AV.d (D.int .u8 0))) 0 (zfj (zdC n)) = zfj (zdC n) := by
    simp only [zV, Nat.zero_add, List.take_zero, List.nil_append]
    rw [hp, List.drop_eq_nil_of_le (by simp), List.append_nil]
  have hrep : [AV.d (D.int .u8 0), .d (.int .u8 0), .d (.int .u8 0), .d (.int .u8 0), .d (.int .u8 0), .d (.int .u8 0), .d (.int .u8 0), .d (.int .u8 0), .d (.int .u8 0), .d (.int .u8 0)] = List.replicate 10 (AV.d (D.int .u8 0)) := rfl
  (refine gq1 ?_; try with_reducible exact True.intro)
  refine ⟨hp, by omega, pad10_sc _, by omega, by omega, by omega, by omega, ?_⟩
  refine zrf zhy ?_
  rw [hrep, hsp]
  (refine gq1 ?_; try with_reducible exact True.intro)
  have htk : zfi (List.take ((zdC n).length - Int.toNat 0) (List.drop (Int.toNat 0) (zfj (zdC n)))) = some ((zdC n).map fun b => D.int .u8 (b.toNat : Int)) := by
    simp only [Int.toNat_zero, Nat.sub_zero, List.drop_zero]
    rw [zfj, List.take_left' (by simp [bva])]
    have := toDs_bva (zdC n) [] [] rfl
    simpa using this
  simp only [Int.toNat_zero] at htk
  rw [htk, if_pos (by omega), Nat.sub_zero]
  simp only [Option.map_some, chunks1]
  refine ⟨zhy, zhy, by simp [bcs]; omega, ?_⟩
  rw [zql]
  refine zov rfl hl (by omega) (by rw [zw]; rfl) ?_
  simpa [bcs] using hK

theorem gq3 {P Q : Prop} (h : Q) (e : P = Q := by simp -dsimp only [↓zgn, ↓zaG, ↓zca, ↓zgo, ↓zgh, ↓zgf, ↓zgi, ↓zgg, ↓zcf, ↓zcb, ↓zcg, ↓zcc, ↓zgj, ↓zbW, ↓zch, ↓zcd, ↓zci, ↓zce, ↓zge, ↓zgl, ↓zbV, ↓zck, ↓zgb, ↓zga, ↓zgd, iN, bT, bF, eN, ↓zds, ↓unC, ↓zX, ↓zJ, ↓zK, ↓zM, ↓zal, ↓zaV, ↓zdU, ↓zay, ↓zbD, ↓zR, ↓zi, ↓zg, ↓zbr, ↓zd, ↓zan, ↓zO, ↓zbf, ↓zbg, ↓zf, ↓zB, ↓zn, ↓zD, ↓zZ, ↓zeb, ↓zes, ↓zaq, ↓zaC, ↓zbe, ↓zbl, ↓zbG, ↓zp, ↓zao, ↓zL, ↓zr, ↓zaj, zen, zbP, zbL, unA, zdF, bnd, zeV, zaf, zac, zeF, dm, dm1, zQ, zaz, zfy, zfx, zI, Q0, Q1, Q2, Q3, Q4, Q5, zam, zw, zu, zN, zG, Q6, Q7, Q8, Q9, Q10, Q11, Q12, Q13, Q14, Nat.reduceAdd, Q15, Int.reduceToNat, Q16, Q17, Q18, Q19, Q20, reduceIte, Q21, Q22, ziS]; rfl) : P := e.mpr h
theorem zqj {σ : List zc} {b x : List UInt8} (hx : x.length ≤ 1073741824) (hb : b.length ≤ 1073741800) {K : AV → List zc → Prop} (hK : K (.own σ.length (bcs (b ++ (zdC x.length ++ x)))) (σ ++ [.tok 1 (b ++ (zdC x.length ++ x)).length])) :
    zl Tryz.prog zdo [.d (.slice (bcs b)), .d (.slice (bcs x))] σ K := by
  refine zbN ziI.is rfl (fun s => [σ.length]) fun hl _ => ziI.goes ?_
  have hlen := zP (n := x.length) (by omega)
  (refine gq3 ?_; try with_reducible exact True.intro)
  have hw : IntKind.u64.wrap ((bcs x).length : Int) = (x.length : Int) := by rw [zho (by simp [bcs]; omega)]; simp [bcs]
  rw [hw]
  refine zdS (by omega) (by omega) ?_
  (refine gq1 ?_; try with_reducible exact True.intro)
  refine ⟨zhy, by simp [bcs]; omega, by simp [bcs], ?_⟩
  rw [zql]
  simp only [List.append_assoc]
  refine zms hl rfl ?_
  simpa [bcs, Nat.add_assoc] using hK

end Go.Proofs.YtdgcepphjnoalaaGreat
