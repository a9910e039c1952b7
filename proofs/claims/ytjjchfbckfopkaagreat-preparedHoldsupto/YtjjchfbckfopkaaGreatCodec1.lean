/- Contracts of the small functions over bytes. -/
import Derived.Test.YtjjchfbckfopkaaGreatSh
import Derived.Test.YtjjchfbckfopkaaGreatAwEnd
import Derived.Test.YtjjchfbckfopkaaGreatCl1
import Derived.Test.YtjjchfbckfopkaaGreatSpNum
set_option linter.all false
set_option maxRecDepth 100000
set_option linter.unusedSimpArgs false
namespace Go.Proofs.YtjjchfbckfopkaaGreat
open Go.AW

theorem zpY {σ : List zb} {es : List (List D)} {K : AV → List zb → Prop} (he : ∀ e ∈ es, e.length = 1) (hK : K (.exact es) σ) : zt Tryz.prog zcl [.d (.slice es)] σ K := by
  refine zbH zdO.is rfl (fun _ => []) fun hl _ => zdO.goes ?_
  simp only [zdS, iN, bT, bF, eN, gF, gT, gFm, gTm, fl, nfl, gFl, gTl, il, cp, orC, anC, cA, bP, z1, z2, m1, List.map_cons, List.map_nil, zaD, zcK, zcj, bnd, zcZ, zM]
  refine ⟨rfl, trivial, by omega, by omega, by omega, he, ?_⟩
  simp only [znT, zqm, getL, zmP, zck, zch]
  simpa using ⟨hl, hK⟩
theorem zqf {σ : List zb} {a b : List UInt8} {K : AV → List zb → Prop} (hK : K (.d (.bool (a == b))) σ) : zt Tryz.prog zgS [.d (.slice (bcs a)), .d (.slice (bcs b))] σ K := by
  refine zhh zpS fun hl => ?_
  simp only [zkC, iN, bT, bF, eN, gF, gT, gFm, gTm, fl, nfl, gFl, gTl, il, cp, orC, anC, cA, bP, z1, z2, m1, List.map_cons, List.map_nil, zab, zcK, zfz, zci, zcD, zaU, zM]
  exact znp (by simp [zgi, dmT, dm, dm1, zck]) hl hK

def bva (bs : List UInt8) : List AV := bs.map fun b => .d (.int .u8 (b.toNat : Int))
def zes (bs : List UInt8) : List AV := bva bs ++ List.replicate (10 - bs.length) (.d (.int .u8 0))

theorem zoq {pre : List UInt8} {b : UInt8} (h : pre.length < 10) : zV (zes pre) pre.length [.d (.int .u8 (b.toNat : Int))] = zes (pre ++ [b]) := by
  simp only [zV, zes, bva, List.length_singleton]
  obtain ⟨m, hm⟩ : ∃ m, 10 - pre.length = m + 1 := ⟨9 - pre.length, by omega⟩
  rw [hm, List.take_left' (by simp), List.drop_append]
  simp only [List.length_map]
  rw [List.drop_eq_nil_of_le (by simp), show pre.length + 1 - pre.length = 1 by omega, List.replicate_succ]
  simp [List.length_append, show 10 - (pre.length + 1) = m by omega]

theorem byte_or (m : Nat) : IntKind.u8.wrap ↑(BitVec.ofInt IntKind.u8.bits (IntKind.u8.wrap (m : Int)) ||| BitVec.ofInt IntKind.u8.bits 128).toNat = ((UInt8.ofNat (m % 128 + 128)).toNat : Int) := by
  rw [wrap8 m, show IntKind.u8.bits = 8 from rfl, or128 ⟨m % 256, by omega⟩, zmr (by simp; omega), ziB (by omega)]
  simp
theorem byte_wrap {m : Nat} (h : m < 128) : IntKind.u8.wrap (m : Int) = ((UInt8.ofNat m).toNat : Int) := by
  rw [zmr (by omega), ziB (by omega)]
theorem shr7 (m : Nat) : ((m : Int)).fdiv (2 ^ min 7 IntKind.u64.bits) = ((m / 128 : Nat) : Int) := by
  rw [show min 7 IntKind.u64.bits = 7 from rfl, Int.fdiv_eq_ediv_of_nonneg _ (by decide)]
  rfl
theorem zjM {pre : List UInt8} (h : pre.length ≤ 10) : (zes pre).length = 10 := by simp [zes, bva]; omega
theorem pad10_sc (pre : List UInt8) : (zes pre).all sc = true := by
  simp only [zes, bva, List.all_append, List.all_map, List.all_replicate, Bool.and_eq_true]
  refine ⟨by simp [sc], ?_⟩
  cases 10 - pre.length <;> simp [sc]

theorem pad10_d (pre : List UInt8) : zes pre = ((pre.map fun b => D.int .u8 (b.toNat : Int)) ++ List.replicate (10 - pre.length) (D.int .u8 0)).map AV.d := by
  simp [zes, bva, Function.comp_def]
theorem gq9 {P Q : Prop} (h : Q) (e : P = Q := by simp -dsimp only [↓zek, ↓zar, ↓zbg, ↓zel, ↓zef, ↓zed, ↓zeg, ↓zee, ↓zbl, ↓zbh, ↓zbm, ↓zbi, ↓zeh, ↓zbe, ↓zbn, ↓zbj, ↓zbo, ↓zbk, ↓zec, ↓zej, ↓zbd, ↓zbp, ↓zdW, ↓zdV, ↓zea, iN, bT, bF, eN, ↓zci, ↓unC, ↓zS, ↓zE, ↓zF, ↓zJ, ↓zZ, ↓zaD, ↓zcj, ↓zab, ↓zbr, ↓zU, ↓zl, ↓zo, ↓zbz, ↓zg, ↓zad, ↓zI, ↓zaz, ↓zaJ, ↓zc, ↓zB, ↓zn, ↓zq, ↓zaj, ↓zcB, ↓zcE, ↓zah, ↓zao, ↓zaA, ↓zaO, ↓zaT, ↓zm, ↓zae, ↓zG, ↓zp, ↓zY, zcD, zaV, zaU, unA, zcK, bnd, zcZ, zaa, zag, zdh, dm, dm1, zM, zau, zdy, zdx, zT, Q0, Q1, Q2, Q3, Q4, Q5, zR, zi, zk, zu, zy, Q6, Q7, Q8, Q9, Q10, Q11, Q12, Q13, Q14, Nat.reduceAdd, Q15, Int.reduceToNat, Q16, Q17, Q18, Q19, Q20, reduceIte, Q21, Q22]; rfl) : P := e.mpr h
theorem gq10 {A P Q : Prop} (a : A) (h : Q) (e : A → P = Q := by intro a; simp -dsimp only [↓zek, ↓zar, ↓zbg, ↓zel, ↓zef, ↓zed, ↓zeg, ↓zee, ↓zbl, ↓zbh, ↓zbm, ↓zbi, ↓zeh, ↓zbe, ↓zbn, ↓zbj, ↓zbo, ↓zbk, ↓zec, ↓zej, ↓zbd, ↓zbp, ↓zdW, ↓zdV, ↓zea, iN, bT, bF, eN, ↓zci, ↓unC, ↓zS, ↓zE, ↓zF, ↓zJ, ↓zZ, ↓zaD, ↓zcj, ↓zab, ↓zbr, ↓zU, ↓zl, ↓zo, ↓zbz, ↓zg, ↓zad, ↓zI, ↓zaz, ↓zaJ, ↓zc, ↓zB, ↓zn, ↓zq, ↓zaj, ↓zcB, ↓zcE, ↓zah, ↓zao, ↓zaA, ↓zaO, ↓zaT, ↓zm, ↓zae, ↓zG, ↓zp, ↓zY, zcD, zaV, zaU, unA, zcK, bnd, zcZ, zaa, zag, zdh, dm, dm1, zM, zau, zdy, zdx, zT, Q0, Q1, Q2, Q3, Q4, Q5, zR, zi, zk, zu, zy, Q6, Q7, Q8, Q9, Q10, Q11, Q12, Q13, Q14, Nat.reduceAdd, Q15, Int.reduceToNat, Q16, Q17, Q18, Q19, Q20, reduceIte, Q21, Q22, a]; rfl) : P := (e a).mpr h
theorem c_form {σ : List zb} {n : Nat} (hn : n < 18446744073709551616) {K : AV → List zb → Prop} (hK : K (.tup [.agg (zes (zcG n)), .d (.int .i64 (zcG n).length)]) σ) : zt Tryz.prog zhL [.d (.int .u64 n)] σ K := by
  refine ziC e_codec_form fun hl => ?_
  simp only [zlZ, iN, bT, bF, eN, zU]
  have hlen := zO hn
  refine zC 10 (fun k vs s => ∃ (m : Nat) (pre : List UInt8), k = pre.length ∧ vs = [.d (.int .u64 m), .d (.int .i64 k)] ∧ zcG n = pre ++ zcG m ∧ m < 18446744073709551616 ∧
      s = σ ++ [.box (zes []), .box (zes pre)]) ⟨n, [], rfl, rfl, rfl, hn, by simp [zes, bva]⟩ ?_
  rintro k vs s hk ⟨m, pre, rfl, rfl, hpre, hm, rfl⟩
  have hm10 := zO hm
  have hpl : pre.length + (zcG m).length ≤ 10 := by rw [hpre] at hlen; simpa using hlen.2
  have hp : pre.length < 10 := by omega
  (refine gq9 ?_; try with_reducible exact True.intro)
  refine zL (fun h => ?_) (fun h => ?_)
  all_goals (try (refine gq10 h ?_; try with_reducible exact True.intro))
  · have h1 : ¬ m < 128 := by simp at h; omega
    have h2 := zpB h1
    rw [h2] at hpl
    simp at hpl
    rw [byte_or, shr7, zoq hp]
    refine ⟨by omega, by omega, by have := zjM (pre := pre) (by omega); omega, by simp [sc], by omega, ?_⟩
    refine zaQ.next (by omega) ⟨m / 128, pre ++ [UInt8.ofNat (m % 128 + 128)], by simp, ?_, by rw [hpre, h2]; simp, by omega, rfl⟩
    rw [zap (by omega) (by omega)]
    rfl
  · have h1 : m < 128 := by simp at h; omega
    have h2 := zin h1
    rw [byte_wrap h1, zoq hp]
    have hp1 : (zes (pre ++ [UInt8.ofNat m])).length = 10 := zjM (by simp; omega)
    have hsp : zV (zes []) 0 (zes (pre ++ [UInt8.ofNat m])) = zes (pre ++ [UInt8.ofNat m]) := by
      simp only [zV, Nat.zero_add, List.take_zero, List.nil_append]
      rw [hp1, List.drop_eq_nil_of_le (by simp [zes, bva]), List.append_nil]
    have htk : List.take 10 (List.drop 0 (zes (pre ++ [UInt8.ofNat m]))) = zes (pre ++ [UInt8.ofNat m]) := by
      rw [List.drop_zero, List.take_of_length_le (by omega)]
    rw [htk, hsp, htk, if_pos (by omega)]
    refine ⟨by omega, by omega, by have := zjM (pre := pre) (by omega); omega, by simp [sc], by omega, by omega, by simp [zes, bva], pad10_sc _, ?_⟩
    have hd : dmT (zck [.agg (zes (pre ++ [UInt8.ofNat m])), .d (.int .i64 (IntKind.i64.wrap (↑pre.length + 1)))]) = .tup [.agg (zes (pre ++ [UInt8.ofNat m])), .d (.int .i64 (zcG n).length)] := by
      rw [zap (by omega) (by omega), hpre, h2]
      simp only [zck, dmT, List.map_cons, List.map_nil, dm, pad10_d, map_dm1_d, dm1]
      rw [List.length_append]; rfl
    refine zli ?_ hl ?_
    · rw [hd, pad10_d, zdU]
      intro c hc
      rcases List.mem_cons.1 hc with rfl | hc
      · exact .agg _ (low_map_d _ _)
      · have hc := List.mem_singleton.1 hc
        subst hc; exact .d _
    · rw [hd]; rw [hpre, h2] at hK ⊢; exact hK

theorem toDs_bva (bs : List UInt8) (r : List AV) (ds : List D) (h : zdX r = some ds) : zdX (bva bs ++ r) = some ((bs.map fun b => D.int .u8 (b.toNat : Int)) ++ ds) := by
  induction bs with
  | nil => simpa [bva] using h
  | cons b bs ih => simp only [bva, List.map_cons, List.cons_append, zdX, toD] at ih ⊢; rw [ih]
theorem chunks1 (bs : List UInt8) : zaf 1 bs.length (bs.map fun b => D.int .u8 (b.toNat : Int)) = bcs bs := by
  induction bs with
  | nil => rfl
  | cons b bs ih => simp only [List.length_cons, List.map_cons, zaf, bcs, List.take_succ_cons, List.take_zero, List.drop_succ_cons, List.drop_zero] at ih ⊢; rw [ih]; rfl

theorem zeA {σ : List zb} {b : List UInt8} {n : Nat} (hn : n < 18446744073709551616) (hb : b.length ≤ 1073741824) {K : AV → List zb → Prop} (hK : K (.own σ.length (bcs (b ++ zcG n))) (σ ++ [.tok 1 (b ++ zcG n).length])) :
    zt Tryz.prog zaF [.d (.slice (bcs b)), .d (.int .u64 n)] σ K := by
  refine zbH ziT.is rfl (fun s => [σ.length + 1]) fun hl _ => ziT.goes ?_
  have hlen := zO hn
  simp only [zjf, iN, bT, bF, eN, gF, gT, gFm, gTm, fl, nfl, gFl, gTl, il, cp, orC, anC, cA, bP, z1, z2, m1, List.map_cons, List.map_nil]
  simp only [dm, dm1]
  refine c_form hn ?_
  have hp := zjM hlen.2
  have hsp : zV (List.replicate 10 (AV.d (D.int .u8 0))) 0 (zes (zcG n)) = zes (zcG n) := by
    simp only [zV, Nat.zero_add, List.take_zero, List.nil_append]
    rw [hp, List.drop_eq_nil_of_le (by simp), List.append_nil]
  have hrep : [AV.d (D.int .u8 0), .d (.int .u8 0), .d (.int .u8 0), .d (.int .u8 0), .d (.int .u8 0), .d (.int .u8 0), .d (.int .u8 0), .d (.int .u8 0), .d (.int .u8 0), .d (.int .u8 0)] = List.replicate 10 (AV.d (D.int .u8 0)) := rfl
  (refine gq9 ?_; try with_reducible exact True.intro)
  refine ⟨hp, by omega, pad10_sc _, by omega, by omega, by omega, by omega, ?_⟩
  refine zpY zex ?_
  rw [hrep, hsp]
  (refine gq9 ?_; try with_reducible exact True.intro)
  have htk : zdX (List.take ((zcG n).length - Int.toNat 0) (List.drop (Int.toNat 0) (zes (zcG n)))) = some ((zcG n).map fun b => D.int .u8 (b.toNat : Int)) := by
    simp only [Int.toNat_zero, Nat.sub_zero, List.drop_zero]
    rw [zes, List.take_left' (by simp [bva])]
    have := toDs_bva (zcG n) [] [] rfl
    simpa using this
  simp only [Int.toNat_zero] at htk
  rw [htk, if_pos (by omega), Nat.sub_zero]
  simp only [Option.map_some, chunks1]
  refine ⟨zex, zex, by simp [bcs]; omega, ?_⟩
  rw [zls]
  refine endsK_own rfl hl (by omega) (by rw [zi]; rfl) ?_
  simpa [bcs] using hK

theorem gq11 {P Q : Prop} (h : Q) (e : P = Q := by simp -dsimp only [↓zek, ↓zar, ↓zbg, ↓zel, ↓zef, ↓zed, ↓zeg, ↓zee, ↓zbl, ↓zbh, ↓zbm, ↓zbi, ↓zeh, ↓zbe, ↓zbn, ↓zbj, ↓zbo, ↓zbk, ↓zec, ↓zej, ↓zbd, ↓zbp, ↓zdW, ↓zdV, ↓zea, iN, bT, bF, eN, ↓zci, ↓unC, ↓zS, ↓zE, ↓zF, ↓zJ, ↓zZ, ↓zaD, ↓zcj, ↓zab, ↓zbr, ↓zU, ↓zl, ↓zo, ↓zbz, ↓zg, ↓zad, ↓zI, ↓zaz, ↓zaJ, ↓zc, ↓zB, ↓zn, ↓zq, ↓zaj, ↓zcB, ↓zcE, ↓zah, ↓zao, ↓zaA, ↓zaO, ↓zaT, ↓zm, ↓zae, ↓zG, ↓zp, ↓zY, zcD, zaV, zaU, unA, zcK, bnd, zcZ, zaa, zag, zdh, dm, dm1, zM, zau, zdy, zdx, zT, Q0, Q1, Q2, Q3, Q4, Q5, zR, zi, zk, zu, zy, Q6, Q7, Q8, Q9, Q10, Q11, Q12, Q13, Q14, Nat.reduceAdd, Q15, Int.reduceToNat, Q16, Q17, Q18, Q19, Q20, reduceIte, Q21, Q22, zhs]; rfl) : P := e.mpr h
theorem zlp {σ : List zb} {b x : List UInt8} (hx : x.length ≤ 1073741824) (hb : b.length ≤ 1073741800) {K : AV → List zb → Prop} (hK : K (.own σ.length (bcs (b ++ (zcG x.length ++ x)))) (σ ++ [.tok 1 (b ++ (zcG x.length ++ x)).length])) :
    zt Tryz.prog zbM [.d (.slice (bcs b)), .d (.slice (bcs x))] σ K := by
  refine zbH zhf.is rfl (fun s => [σ.length]) fun hl _ => zhf.goes ?_
  have hlen := zO (n := x.length) (by omega)
  (refine gq11 ?_; try with_reducible exact True.intro)
  have hw : IntKind.u64.wrap ((bcs x).length : Int) = (x.length : Int) := by rw [zca (by simp [bcs]; omega)]; simp [bcs]
  rw [hw]
  refine zeA (by omega) (by omega) ?_
  (refine gq9 ?_; try with_reducible exact True.intro)
  refine ⟨zex, by simp [bcs]; omega, by simp [bcs], ?_⟩
  rw [zls]
  simp only [List.append_assoc]
  refine zgu hl rfl ?_
  simpa [bcs, Nat.add_assoc] using hK

theorem div128 {m : Nat} (h : m < 18446744073709551616) : IntKind.u64.wrap ((m : Int).tdiv 128) = ((m / 128 : Nat) : Int) := by
  rw [show ((m : Int).tdiv 128) = ((m / 128 : Nat) : Int) from by rw [Int.tdiv_eq_ediv_of_nonneg (by omega)]; rfl, zca (by omega)]
theorem rem128 (m : Nat) : (m : Int).tmod 128 = ((m % 128 : Nat) : Int) := by
  rw [Int.tmod_eq_emod_of_nonneg (by omega)]; rfl

theorem gq12 {P Q : Prop} (h : Q) (e : P = Q := by simp -dsimp only [↓zek, ↓zar, ↓zbg, ↓zel, ↓zef, ↓zed, ↓zeg, ↓zee, ↓zbl, ↓zbh, ↓zbm, ↓zbi, ↓zeh, ↓zbe, ↓zbn, ↓zbj, ↓zbo, ↓zbk, ↓zec, ↓zej, ↓zbd, ↓zbp, ↓zdW, ↓zdV, ↓zea, iN, bT, bF, eN, ↓zci, ↓unC, ↓zS, ↓zE, ↓zF, ↓zJ, ↓zZ, ↓zaD, ↓zcj, ↓zab, ↓zbr, ↓zU, ↓zl, ↓zo, ↓zbz, ↓zg, ↓zad, ↓zI, ↓zaz, ↓zaJ, ↓zc, ↓zB, ↓zn, ↓zq, ↓zaj, ↓zcB, ↓zcE, ↓zah, ↓zao, ↓zaA, ↓zaO, ↓zaT, ↓zm, ↓zae, ↓zG, ↓zp, ↓zY, zcD, zaV, zaU, unA, zcK, bnd, zcZ, zaa, zag, zdh, dm, dm1, zM, zau, zdy, zdx, zT, Q0, Q1, Q2, Q3, Q4, Q5, zR, zi, zk, zu, zy, Q6, Q7, Q8, Q9, Q10, Q11, Q12, Q13, Q14, Nat.reduceAdd, Q15, Int.reduceToNat, Q16, Q17, Q18, Q19, Q20, reduceIte, Q21, Q22, zlW]; rfl) : P := e.mpr h
theorem gq13 {P Q : Prop} (h : Q) (e : P = Q := by simp -dsimp only [↓zek, ↓zar, ↓zbg, ↓zel, ↓zef, ↓zed, ↓zeg, ↓zee, ↓zbl, ↓zbh, ↓zbm, ↓zbi, ↓zeh, ↓zbe, ↓zbn, ↓zbj, ↓zbo, ↓zbk, ↓zec, ↓zej, ↓zbd, ↓zbp, ↓zdW, ↓zdV, ↓zea, iN, bT, bF, eN, ↓zci, ↓unC, ↓zS, ↓zE, ↓zF, ↓zJ, ↓zZ, ↓zaD, ↓zcj, ↓zab, ↓zbr, ↓zU, ↓zl, ↓zo, ↓zbz, ↓zg, ↓zad, ↓zI, ↓zaz, ↓zaJ, ↓zc, ↓zB, ↓zn, ↓zq, ↓zaj, ↓zcB, ↓zcE, ↓zah, ↓zao, ↓zaA, ↓zaO, ↓zaT, ↓zm, ↓zae, ↓zG, ↓zp, ↓zY, zcD, zaV, zaU, unA, zcK, bnd, zcZ, zaa, zag, zdh, dm, dm1, zM, zau, zdy, zdx, zT, Q0, Q1, Q2, Q3, Q4, Q5, zR, zi, zk, zu, zy, Q6, Q7, Q8, Q9, Q10, Q11, Q12, Q13, Q14, Nat.reduceAdd, Q15, Int.reduceToNat, Q16, Q17, Q18, Q19, Q20, reduceIte, Q21, Q22, rep, zV, zdX, toD, zaf, Q23, Q24, Q25, Q26, Q27, Q28, Nat.reduceLeDiff, Q29, Nat.reduceSub, Q30, Q31, Q32, sc, Q33, Q34, Q35]; rfl) : P := e.mpr h
theorem zdP {σ : List zb} {b : List UInt8} {n : Nat} (hn : n < 18446744073709551616) (hb : b.length ≤ 1073741824) {K : AV → List zb → Prop} (hK : K (.own σ.length (bcs (b ++ zcG n))) (σ ++ [.tok 1 (b ++ zcG n).length])) :
    zt Tryz.prog zbb [.d (.slice (bcs b)), .d (.int .u64 n)] σ K := by
  refine zbH zlN.is rfl (fun s => [σ.length]) fun hl _ => zlN.goes ?_
  have hlen := zO hn
  (refine gq12 ?_; try with_reducible exact True.intro)
  refine ⟨zex, by simp, by simp [bcs]; omega, ?_⟩
  refine zC 10 (fun k vs s => ∃ (m : Nat) (pre : List UInt8), k = pre.length ∧ vs = [.d (.int .u64 m), .own σ.length (bcs (b ++ pre))] ∧ zcG n = pre ++ zcG m ∧ m < 18446744073709551616 ∧
      s = σ ++ [.tok 1 (b ++ pre).length]) ⟨n, [], rfl, by simp, rfl, hn, by simp [bcs]⟩ ?_
  rintro k vs s hk ⟨m, pre, rfl, rfl, hpre, hm, rfl⟩
  have hm10 := zO hm
  have hpl : pre.length + (zcG m).length ≤ 10 := by rw [hpre] at hlen; simpa using hlen.2
  (refine gq9 ?_; try with_reducible exact True.intro)
  refine zL (fun h => ?_) (fun h => ?_)
  all_goals (try (refine gq10 h ?_; try with_reducible exact True.intro))
  · have h1 : ¬ m < 128 := by simp at h; omega
    have h2 := zpB h1
    rw [h2] at hpl
    simp at hpl
    have hc : IntKind.u8.wrap (IntKind.u8.wrap ((m : Int).tmod 128) + 128) = ((UInt8.ofNat (m % 128 + 128)).toNat : Int) := by
      rw [rem128, zmr (by omega), ziB (by omega), show ((m % 128 : Nat) : Int) + 128 = ((m % 128 + 128 : Nat) : Int) from rfl]
      exact zmr (by omega)
    (refine gq13 ?_; try with_reducible exact True.intro)
    rw [hc, div128 hm]
    refine ⟨by decide, by simp, by simp [bcs]; omega, by simp [bcs], by decide, ?_⟩
    refine zaQ.next (by omega) ⟨m / 128, pre ++ [UInt8.ofNat (m % 128 + 128)], by simp, ?_, by rw [hpre, h2]; simp, by omega, ?_⟩
    · simp [bcs, zaW]
    · simp [bcs, Nat.add_assoc]
  · have h1 : m < 128 := by simp at h; omega
    have h2 := zin h1
    (refine gq13 ?_; try with_reducible exact True.intro)
    rw [byte_wrap h1]
    refine ⟨by simp, by simp [bcs]; omega, by simp [bcs], ?_⟩
    rw [hpre, h2] at hK
    have e : bcs (b ++ pre) ++ [[D.int .u8 ((UInt8.ofNat m).toNat : Int)]] = bcs (b ++ (pre ++ [UInt8.ofNat m])) := by simp [bcs, zaW]
    rw [e]
    refine zgu hl rfl ?_
    simpa [bcs, Nat.add_assoc] using hK
theorem gq14 {P Q : Prop} (h : Q) (e : P = Q := by simp -dsimp only [↓zek, ↓zar, ↓zbg, ↓zel, ↓zef, ↓zed, ↓zeg, ↓zee, ↓zbl, ↓zbh, ↓zbm, ↓zbi, ↓zeh, ↓zbe, ↓zbn, ↓zbj, ↓zbo, ↓zbk, ↓zec, ↓zej, ↓zbd, ↓zbp, ↓zdW, ↓zdV, ↓zea, iN, bT, bF, eN, ↓zci, ↓unC, ↓zS, ↓zE, ↓zF, ↓zJ, ↓zZ, ↓zaD, ↓zcj, ↓zab, ↓zbr, ↓zU, ↓zl, ↓zo, ↓zbz, ↓zg, ↓zad, ↓zI, ↓zaz, ↓zaJ, ↓zc, ↓zB, ↓zn, ↓zq, ↓zaj, ↓zcB, ↓zcE, ↓zah, ↓zao, ↓zaA, ↓zaO, ↓zaT, ↓zm, ↓zae, ↓zG, ↓zp, ↓zY, zcD, zaV, zaU, unA, zcK, bnd, zcZ, zaa, zag, zdh, dm, dm1, zM, zau, zdy, zdx, zT, Q0, Q1, Q2, Q3, Q4, Q5, zR, zi, zk, zu, zy, Q6, Q7, Q8, Q9, Q10, Q11, Q12, Q13, Q14, Nat.reduceAdd, Q15, Int.reduceToNat, Q16, Q17, Q18, Q19, Q20, reduceIte, Q21, Q22, zjb]; rfl) : P := e.mpr h
theorem zjC {σ : List zb} {b x : List UInt8} (hx : x.length ≤ 1073741824) (hb : b.length ≤ 1073741800) {K : AV → List zb → Prop} (hK : K (.own σ.length (bcs (b ++ (zcG x.length ++ x)))) (σ ++ [.tok 1 (b ++ (zcG x.length ++ x)).length])) :
    zt Tryz.prog zcx [.d (.slice (bcs b)), .d (.slice (bcs x))] σ K := by
  refine zbH ziR.is rfl (fun s => [σ.length]) fun hl _ => ziR.goes ?_
  have hlen := zO (n := x.length) (by omega)
  (refine gq14 ?_; try with_reducible exact True.intro)
  have hw : IntKind.u64.wrap ((bcs x).length : Int) = (x.length : Int) := by rw [zca (by simp [bcs]; omega)]; simp [bcs]
  rw [hw]
  refine zdP (by omega) (by omega) ?_
  (refine gq9 ?_; try with_reducible exact True.intro)
  refine ⟨zex, by simp [bcs]; omega, by simp [bcs], ?_⟩
  rw [zls]
  simp only [List.append_assoc]
  refine zgu hl rfl ?_
  simpa [bcs, Nat.add_assoc] using hK

theorem zlH {P Q : Prop} (h : Q) (e : P = Q := by simp -dsimp only [↓zek, ↓zar, ↓zbg, ↓zel, ↓zef, ↓zed, ↓zeg, ↓zee, ↓zbl, ↓zbh, ↓zbm, ↓zbi, ↓zeh, ↓zbe, ↓zbn, ↓zbj, ↓zbo, ↓zbk, ↓zec, ↓zej, ↓zbd, ↓zbp, ↓zdW, ↓zdV, ↓zea, iN, bT, bF, eN, ↓zci, ↓unC, ↓zS, ↓zE, ↓zF, ↓zJ, ↓zZ, ↓zaD, ↓zcj, ↓zab, ↓zbr, ↓zU, ↓zl, ↓zo, ↓zbz, ↓zg, ↓zad, ↓zI, ↓zaz, ↓zaJ, ↓zc, ↓zB, ↓zn, ↓zq, ↓zaj, ↓zcB, ↓zcE, ↓zah, ↓zao, ↓zaA, ↓zaO, ↓zaT, ↓zm, ↓zae, ↓zG, ↓zp, ↓zY, zcD, zaV, zaU, unA, zcK, bnd, zcZ, zaa, zag, zdh, dm, dm1, zM, zau, zdy, zdx, zT, Q0, Q1, Q2, Q3, Q4, Q5, zR, zi, zk, zu, zy, Q6, Q7, Q8, Q9, Q10, Q11, Q12, Q13, Q14, Nat.reduceAdd, Q15, Int.reduceToNat, Q16, Q17, Q18, Q19, Q20, reduceIte, Q21, Q22, zA, rep, zV, zdX, toD, zaf, Q23, Q24, Q25, Q26, Q27, Q28, Nat.reduceLeDiff, Q29, Nat.reduceSub, Q30, Q31, Q32, sc, Q33, Q34, Q35]; rfl) : P := e.mpr h
theorem c_only {σ : List zb} {o : TOp} {K : AV → List zb → Prop} (hK : K (.tup [opA (zpA o), .d (.bool (zez o))]) σ) : zt Tryz.prog zmW [opA o] σ K := by
  refine ziC e_op_only fun hl => ?_
  simp only [S_op_only, iN, bT, bF, eN, zl4, opA]
  (repeat' (first | (refine zlH ?_; try with_reducible exact True.intro) | (refine zL (fun h => ?_) (fun h => ?_) <;> (try rw [h])) | ((with_reducible refine And.intro ?_ ?_); focus (first | omega | rfl | decide))))

  all_goals refine zam hl ?_
  all_goals simp only [beq_iff_eq, beq_eq_false_iff_ne, ne_eq] at *
  all_goals simp_all [zck, dmT, dm, dm1, zpA, noOp, opA, zez, zcX]
  have e : (decide (0 ≤ o.kind) && decide (o.kind ≤ 4)) = false := by simp; omega
  rw [e] at hK
  exact hK
theorem gq16 {P Q : Prop} (h : Q) (e : P = Q := by simp -dsimp only [↓zek, ↓zar, ↓zbg, ↓zel, ↓zef, ↓zed, ↓zeg, ↓zee, ↓zbl, ↓zbh, ↓zbm, ↓zbi, ↓zeh, ↓zbe, ↓zbn, ↓zbj, ↓zbo, ↓zbk, ↓zec, ↓zej, ↓zbd, ↓zbp, ↓zdW, ↓zdV, ↓zea, iN, bT, bF, eN, ↓zci, ↓unC, ↓zS, ↓zE, ↓zF, ↓zJ, ↓zZ, ↓zaD, ↓zcj, ↓zab, ↓zbr, ↓zU, ↓zl, ↓zo, ↓zbz, ↓zg, ↓zad, ↓zI, ↓zaz, ↓zaJ, ↓zc, ↓zB, ↓zn, ↓zq, ↓zaj, ↓zcB, ↓zcE, ↓zah, ↓zao, ↓zaA, ↓zaO, ↓zaT, ↓zm, ↓zae, ↓zG, ↓zp, ↓zY, zcD, zaV, zaU, unA, zcK, bnd, zcZ, zaa, zag, zdh, dm, dm1, zM, zau, zdy, zdx, zT, Q0, Q1, Q2, Q3, Q4, Q5, zR, zi, zk, zu, zy, Q6, Q7, Q8, Q9, Q10, Q11, Q12, Q13, Q14, Nat.reduceAdd, Q15, Int.reduceToNat, Q16, Q17, Q18, Q19, Q20, reduceIte, Q21, Q22, znQ, zA]; rfl) : P := e.mpr h
theorem c_Same_1 {σ : List zb} {a b : List UInt8} {K : AV → List zb → Prop} (hK : K (.d (.bool (a == b))) σ) : zt Tryz.prog zgR [.d (.slice (bcs a)), .d (.slice (bcs b))] σ K := by
  refine zhh e_op_Same_1 fun hl => ?_
  (refine gq16 ?_; try with_reducible exact True.intro)
  refine zqf ?_
  refine zam hl ?_
  exact hK
theorem zcr {A B : Prop} (a : A) (b : B) : A ∧ B := ⟨a, b⟩
theorem gq17 {P Q : Prop} (h : Q) (e : P = Q := by simp -dsimp only [↓zek, ↓zar, ↓zbg, ↓zel, ↓zef, ↓zed, ↓zeg, ↓zee, ↓zbl, ↓zbh, ↓zbm, ↓zbi, ↓zeh, ↓zbe, ↓zbn, ↓zbj, ↓zbo, ↓zbk, ↓zec, ↓zej, ↓zbd, ↓zbp, ↓zdW, ↓zdV, ↓zea, iN, bT, bF, eN, ↓zci, ↓unC, ↓zS, ↓zE, ↓zF, ↓zJ, ↓zZ, ↓zaD, ↓zcj, ↓zab, ↓zbr, ↓zU, ↓zl, ↓zo, ↓zbz, ↓zg, ↓zad, ↓zI, ↓zaz, ↓zaJ, ↓zc, ↓zB, ↓zn, ↓zq, ↓zaj, ↓zcB, ↓zcE, ↓zah, ↓zao, ↓zaA, ↓zaO, ↓zaT, ↓zm, ↓zae, ↓zG, ↓zp, ↓zY, zcD, zaV, zaU, unA, zcK, bnd, zcZ, zaa, zag, zdh, dm, dm1, zM, zau, zdy, zdx, zT, Q0, Q1, Q2, Q3, Q4, Q5, zR, zi, zk, zu, zy, Q6, Q7, Q8, Q9, Q10, Q11, Q12, Q13, Q14, Nat.reduceAdd, Q15, Int.reduceToNat, Q16, Q17, Q18, Q19, Q20, reduceIte, Q21, Q22, zaq, zA]; rfl) : P := e.mpr h
theorem gq18 {A P Q : Prop} (a : A) (h : Q) (e : A → P = Q := by intro a; simp -dsimp only [↓zek, ↓zar, ↓zbg, ↓zel, ↓zef, ↓zed, ↓zeg, ↓zee, ↓zbl, ↓zbh, ↓zbm, ↓zbi, ↓zeh, ↓zbe, ↓zbn, ↓zbj, ↓zbo, ↓zbk, ↓zec, ↓zej, ↓zbd, ↓zbp, ↓zdW, ↓zdV, ↓zea, iN, bT, bF, eN, ↓zci, ↓unC, ↓zS, ↓zE, ↓zF, ↓zJ, ↓zZ, ↓zaD, ↓zcj, ↓zab, ↓zbr, ↓zU, ↓zl, ↓zo, ↓zbz, ↓zg, ↓zad, ↓zI, ↓zaz, ↓zaJ, ↓zc, ↓zB, ↓zn, ↓zq, ↓zaj, ↓zcB, ↓zcE, ↓zah, ↓zao, ↓zaA, ↓zaO, ↓zaT, ↓zm, ↓zae, ↓zG, ↓zp, ↓zY, zcD, zaV, zaU, unA, zcK, bnd, zcZ, zaa, zag, zdh, dm, dm1, zM, zau, zdy, zdx, zT, Q0, Q1, Q2, Q3, Q4, Q5, zR, zi, zk, zu, zy, Q6, Q7, Q8, Q9, Q10, Q11, Q12, Q13, Q14, Nat.reduceAdd, Q15, Int.reduceToNat, Q16, Q17, Q18, Q19, Q20, reduceIte, Q21, Q22, zA, a]; rfl) : P := (e a).mpr h
theorem gq19 {P Q : Prop} (h : Q) (e : P = Q := by simp -dsimp only [↓zek, ↓zar, ↓zbg, ↓zel, ↓zef, ↓zed, ↓zeg, ↓zee, ↓zbl, ↓zbh, ↓zbm, ↓zbi, ↓zeh, ↓zbe, ↓zbn, ↓zbj, ↓zbo, ↓zbk, ↓zec, ↓zej, ↓zbd, ↓zbp, ↓zdW, ↓zdV, ↓zea, iN, bT, bF, eN, ↓zci, ↓unC, ↓zS, ↓zE, ↓zF, ↓zJ, ↓zZ, ↓zaD, ↓zcj, ↓zab, ↓zbr, ↓zU, ↓zl, ↓zo, ↓zbz, ↓zg, ↓zad, ↓zI, ↓zaz, ↓zaJ, ↓zc, ↓zB, ↓zn, ↓zq, ↓zaj, ↓zcB, ↓zcE, ↓zah, ↓zao, ↓zaA, ↓zaO, ↓zaT, ↓zm, ↓zae, ↓zG, ↓zp, ↓zY, zcD, zaV, zaU, unA, zcK, bnd, zcZ, zaa, zag, zdh, dm, dm1, zM, zau, zdy, zdx, zT, Q0, Q1, Q2, Q3, Q4, Q5, zR, zi, zk, zu, zy, Q6, Q7, Q8, Q9, Q10, Q11, Q12, Q13, Q14, Nat.reduceAdd, Q15, Int.reduceToNat, Q16, Q17, Q18, Q19, Q20, reduceIte, Q21, Q22, zA]; rfl) : P := e.mpr h
theorem gq20 {A P Q : Prop} (a : A) (h : Q) (e : A → P = Q := by intro a; simp -dsimp only [↓zek, ↓zar, ↓zbg, ↓zel, ↓zef, ↓zed, ↓zeg, ↓zee, ↓zbl, ↓zbh, ↓zbm, ↓zbi, ↓zeh, ↓zbe, ↓zbn, ↓zbj, ↓zbo, ↓zbk, ↓zec, ↓zej, ↓zbd, ↓zbp, ↓zdW, ↓zdV, ↓zea, iN, bT, bF, eN, ↓zci, ↓unC, ↓zS, ↓zE, ↓zF, ↓zJ, ↓zZ, ↓zaD, ↓zcj, ↓zab, ↓zbr, ↓zU, ↓zl, ↓zo, ↓zbz, ↓zg, ↓zad, ↓zI, ↓zaz, ↓zaJ, ↓zc, ↓zB, ↓zn, ↓zq, ↓zaj, ↓zcB, ↓zcE, ↓zah, ↓zao, ↓zaA, ↓zaO, ↓zaT, ↓zm, ↓zae, ↓zG, ↓zp, ↓zY, zcD, zaV, zaU, unA, zcK, bnd, zcZ, zaa, zag, zdh, dm, dm1, zM, zau, zdy, zdx, zT, Q0, Q1, Q2, Q3, Q4, Q5, zR, zi, zk, zu, zy, Q6, Q7, Q8, Q9, Q10, Q11, Q12, Q13, Q14, Nat.reduceAdd, Q15, Int.reduceToNat, Q16, Q17, Q18, Q19, Q20, reduceIte, Q21, Q22, Int.toNat_natCast, zA, a]; rfl) : P := (e a).mpr h
theorem gq21 {P Q : Prop} (h : Q) (e : P = Q := by simp -dsimp only [↓zek, ↓zar, ↓zbg, ↓zel, ↓zef, ↓zed, ↓zeg, ↓zee, ↓zbl, ↓zbh, ↓zbm, ↓zbi, ↓zeh, ↓zbe, ↓zbn, ↓zbj, ↓zbo, ↓zbk, ↓zec, ↓zej, ↓zbd, ↓zbp, ↓zdW, ↓zdV, ↓zea, iN, bT, bF, eN, ↓zci, ↓unC, ↓zS, ↓zE, ↓zF, ↓zJ, ↓zZ, ↓zaD, ↓zcj, ↓zab, ↓zbr, ↓zU, ↓zl, ↓zo, ↓zbz, ↓zg, ↓zad, ↓zI, ↓zaz, ↓zaJ, ↓zc, ↓zB, ↓zn, ↓zq, ↓zaj, ↓zcB, ↓zcE, ↓zah, ↓zao, ↓zaA, ↓zaO, ↓zaT, ↓zm, ↓zae, ↓zG, ↓zp, ↓zY, zcD, zaV, zaU, unA, zcK, bnd, zcZ, zaa, zag, zdh, dm, dm1, zM, zau, zdy, zdx, zT, Q0, Q1, Q2, Q3, Q4, Q5, zR, zi, zk, zu, zy, Q6, Q7, Q8, Q9, Q10, Q11, Q12, Q13, Q14, Nat.reduceAdd, Q15, Int.reduceToNat, Q16, Q17, Q18, Q19, Q20, reduceIte, Q21, Q22, zY, zA]; rfl) : P := e.mpr h
theorem zkt {σ : List zb} {a b : List (List UInt8)} (ha : a.length ≤ 1073741824) (hb : b.length ≤ 1073741824) {K : AV → List zb → Prop} (hK : K (.d (.bool (a == b))) σ) :
    zt Tryz.prog zX [.d (.slice (zcX a)), .d (.slice (zcX b)), .fn (.func zgR) [] []] σ K := by
  refine acE3 zaY fun hl => ?_
  (refine gq17 ?_; try with_reducible exact True.intro)
  refine zL (fun h => ?_) (fun h => ?_)
  all_goals (try (refine gq18 h ?_; try with_reducible exact True.intro))
  · refine zam hl ?_
    have : (a == b) = false := by
      rw [beq_eq_false_iff_ne]
      rintro rfl
      simp at h
    rw [this] at hK; exact hK
  have hl2 : a.length = b.length := by simp at h; omega
  refine zC a.length (fun k vs s => vs = [.d (.int .i64 k)] ∧ s = σ ∧ a.take k = b.take k) ⟨rfl, rfl, by simp⟩ ?_
  rintro k vs s hk ⟨rfl, rfl, htk⟩
  (refine gq19 ?_; try with_reducible exact True.intro)
  refine zL (fun h => ?_) (fun h => ?_)
  all_goals (try (refine gq18 h ?_; try with_reducible exact True.intro))
  · have hka : k < a.length := by simp at h; omega
    have hx : a[k]? = some a[k] := by simp [hka]
    have hy : b[k]? = some (b[k]'(by omega)) := List.getElem?_eq_getElem _
    (refine gq20 (zcr (zdc hx) (zdc hy)) ?_; try with_reducible exact True.intro)
    refine ⟨by omega, by omega, c_Same_1 ?_⟩
    (refine gq21 ?_; try with_reducible exact True.intro)
    refine zL (fun h => ?_) (fun h => ?_)
    all_goals (try (refine gq18 h ?_; try with_reducible exact True.intro))
    · refine zaQ.next hka ⟨?_, rfl, zeB hx hy htk (by simpa using h)⟩
      rw [zap (by omega) (by omega)]; rfl
    · refine zam hl ?_
      have : (a == b) = false := by
        rw [beq_eq_false_iff_ne]
        rintro rfl
        simp at h
      rw [this] at hK; exact hK
  · refine zam hl ?_
    have : (a == b) = true := by
      rw [beq_iff_eq]
      exact zkI hl2 (k := k) (by simp at h; omega) htk
    rw [this] at hK; exact hK
theorem c_Same {σ : List zb} {a b : TOp} (ha : a.recs.length ≤ 1073741824) (hb : b.recs.length ≤ 1073741824) {K : AV → List zb → Prop} (hK : K (.d (.bool (decide (a = b)))) σ) : zt Tryz.prog zmX [opA a, opA b] σ K := by
  refine zhh e_op_Same fun hl => ?_
  simp only [S_op_Same, iN, bT, bF, eN, opA]
  repeat' first
    | (refine zlH ?_; try with_reducible exact True.intro)
    | (refine zL (fun h => ?_) (fun h => ?_) <;> (try rw [h]))
    | refine zkt ha hb ?_
  all_goals refine zam hl ?_
  all_goals simp only [beq_iff_eq, beq_eq_false_iff_ne, ne_eq] at *
  · have e : decide (a = b) = (a.recs == b.recs) := by
      rw [Bool.eq_iff_iff]
      cases a; cases b
      simp_all
    rw [e] at hK; exact hK
  all_goals
    have e : decide (a = b) = false := by
      cases a; cases b
      simp_all
    rw [e] at hK; exact hK
end Go.Proofs.YtjjchfbckfopkaaGreat
