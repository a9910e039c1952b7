/- Contracts of the small functions over bytes. -/
import Derived.Test.YthpnelbciibjeaaGreatSh
import Derived.Test.YthpnelbciibjeaaGreatAwEnd
import Derived.Test.YthpnelbciibjeaaGreatCl1
set_option linter.all false
set_option maxRecDepth 100000
set_option linter.unusedSimpArgs false
namespace Go.Proofs.YthpnelbciibjeaaGreat
open Go.AW

theorem zqh {σ : List zc} {es : List (List D)} {K : AV → List zc → Prop} (he : ∀ e ∈ es, e.length = 1) (hK : K (.exact es) σ) : zo Tryz.prog zct [.d (.slice es)] σ K := by
  refine zbG zdY.is rfl (fun _ => []) fun hl _ => zdY.goes ?_
  simp only [zeb, iN, bT, bF, eN, gF, gT, gFm, gTm, fl, nfl, gFl, gTl, il, cp, orC, anC, cA, bP, z1, z2, m1, List.map_cons, List.map_nil, zba, zed, zcY, bnd, zeY, zE]
  refine ⟨rfl, trivial, by omega, by omega, by omega, he, ?_⟩
  simp only [zlK, znV, getL, zlf, zbo, zbQ]
  simpa using ⟨hl, hK⟩
theorem zhA {σ : List zc} {a b : List UInt8} {K : AV → List zc → Prop} (hK : K (.d (.bool (a == b))) σ) : zo Tryz.prog zdQ [.d (.slice (bcs a)), .d (.slice (bcs b))] σ K := by
  refine zjy zpX fun hl => ?_
  simp only [zkS, iN, bT, bF, eN, gF, gT, gFm, gTm, fl, nfl, gFl, gTl, il, cp, orC, anC, cA, bP, z1, z2, m1, List.map_cons, List.map_nil, zS, zed, zjW, zdH, zee, zbH, zE]
  exact zew (by simp [zbM, dmT, dm, dm1, zbo]) hl hK
theorem zjw {σ : List zc} {es : List (List D)} {K : AV → List zc → Prop} (he : ∀ e ∈ es, e.length = 1) (hn : es.length ≤ 1073741824) (hK : K (.own σ.length es) (σ ++ [.tok 1 es.length])) : zo Tryz.prog zbp [.d (.slice es)] σ K := by
  refine zo.tok he ?_ hK
  refine zbG zdE.is rfl (fun s => if s.length = σ.length then [] else [σ.length]) fun hl _ => zdE.goes ?_
  simp only [zdG, iN, bT, bF, eN, gF, gT, gFm, gTm, fl, nfl, gFl, gTl, il, cp, orC, anC, cA, bP, z1, z2, m1, List.map_cons, List.map_nil, zar, zed]
  cases es with
  | nil =>
    refine ⟨?_, ?_⟩
    · simp only [zR, zL, zE]
      exact zjM (by simp) hl rfl (by simp)
    · simp only [zR, zu, zE, zag, rep, zl, zfz, zab, zy, zeQ]
      refine ⟨by simp, by simp, by simp, ?_⟩
      exact zdC hl (by simp) (by simp)
  | cons e es =>
    simp only [zR, zu, zE, zag, rep, zl, zfz, zab, zy, zeQ]
    refine ⟨he, by simp, by simp at hn ⊢; omega, ?_⟩
    exact zdC hl (by simp) (by simp)

def bva (bs : List UInt8) : List AV := bs.map fun b => .d (.int .u8 (b.toNat : Int))
def zeq (bs : List UInt8) : List AV := bva bs ++ List.replicate (10 - bs.length) (.d (.int .u8 0))

theorem zoq {pre : List UInt8} {b : UInt8} (h : pre.length < 10) : zT (zeq pre) pre.length [.d (.int .u8 (b.toNat : Int))] = zeq (pre ++ [b]) := by
  simp only [zT, zeq, bva, List.length_singleton]
  obtain ⟨m, hm⟩ : ∃ m, 10 - pre.length = m + 1 := ⟨9 - pre.length, by omega⟩
  rw [hm, List.take_left' (by simp), List.drop_append]
  simp only [List.length_map]
  rw [List.drop_eq_nil_of_le (by simp), show pre.length + 1 - pre.length = 1 by omega, List.replicate_succ]
  simp [List.length_append, show 10 - (pre.length + 1) = m by omega]

theorem byte_or (m : Nat) : IntKind.u8.wrap ↑(BitVec.ofInt IntKind.u8.bits (IntKind.u8.wrap (m : Int)) ||| BitVec.ofInt IntKind.u8.bits 128).toNat = ((UInt8.ofNat (m % 128 + 128)).toNat : Int) := by
  rw [wrap8 m, show IntKind.u8.bits = 8 from rfl, or128 ⟨m % 256, by omega⟩, zkc (by simp; omega), zje (by omega)]
  simp
theorem byte_wrap {m : Nat} (h : m < 128) : IntKind.u8.wrap (m : Int) = ((UInt8.ofNat m).toNat : Int) := by
  rw [zkc (by omega), zje (by omega)]
theorem shr7 (m : Nat) : ((m : Int)).fdiv (2 ^ min 7 IntKind.u64.bits) = ((m / 128 : Nat) : Int) := by
  rw [show min 7 IntKind.u64.bits = 7 from rfl, Int.fdiv_eq_ediv_of_nonneg _ (by decide)]
  rfl
theorem zkm {pre : List UInt8} (h : pre.length ≤ 10) : (zeq pre).length = 10 := by simp [zeq, bva]; omega
theorem pad10_sc (pre : List UInt8) : (zeq pre).all sc = true := by
  simp only [zeq, bva, List.all_append, List.all_map, List.all_replicate, Bool.and_eq_true]
  refine ⟨by simp [sc], ?_⟩
  cases 10 - pre.length <;> simp [sc]

theorem pad10_d (pre : List UInt8) : zeq pre = ((pre.map fun b => D.int .u8 (b.toNat : Int)) ++ List.replicate (10 - pre.length) (D.int .u8 0)).map AV.d := by
  simp [zeq, bva, Function.comp_def]
theorem gq8 {P Q : Prop} (h : Q) (e : P = Q := by simp -dsimp only [↓zgX, ↓zaP, ↓zca, ↓zgZ, ↓zgR, ↓zgP, ↓zgS, ↓zgQ, ↓zcf, ↓zcb, ↓zcg, ↓zcc, ↓zgT, ↓zbX, ↓zch, ↓zcd, ↓zci, ↓zce, ↓zgN, ↓zgW, ↓zbW, ↓zcm, ↓zgC, ↓zgB, ↓zgL, iN, bT, bF, eN, ↓zdH, ↓unC, ↓zR, ↓zN, ↓zO, ↓zP, ↓zan, ↓zba, ↓zcY, ↓zS, ↓zcj, ↓zao, ↓zt, ↓zj, ↓zbI, ↓zg, ↓zah, ↓zX, ↓zaZ, ↓zaU, ↓zd, ↓zH, ↓zl, ↓zy, ↓zar, ↓zdS, ↓zeg, ↓zZ, ↓zaH, ↓zaO, ↓zbn, ↓zbC, ↓zw, ↓zam, ↓zL, ↓zu, ↓zaj, zee, zbN, zbH, unA, zed, bnd, zeY, zad, zag, zeQ, dm, dm1, zE, zaI, zgc, zgb, zaf, Q0, Q1, Q2, Q3, Q4, Q5, zai, zp, zm, zac, zM, Q6, Q7, Q8, Q9, Q10, Q11, Q12, Q13, Q14, Nat.reduceAdd, Q15, Int.reduceToNat, Q16, Q17, Q18, Q19, Q20, reduceIte, Q21, Q22]; rfl) : P := e.mpr h
theorem gq9 {A P Q : Prop} (a : A) (h : Q) (e : A → P = Q := by intro a; simp -dsimp only [↓zgX, ↓zaP, ↓zca, ↓zgZ, ↓zgR, ↓zgP, ↓zgS, ↓zgQ, ↓zcf, ↓zcb, ↓zcg, ↓zcc, ↓zgT, ↓zbX, ↓zch, ↓zcd, ↓zci, ↓zce, ↓zgN, ↓zgW, ↓zbW, ↓zcm, ↓zgC, ↓zgB, ↓zgL, iN, bT, bF, eN, ↓zdH, ↓unC, ↓zR, ↓zN, ↓zO, ↓zP, ↓zan, ↓zba, ↓zcY, ↓zS, ↓zcj, ↓zao, ↓zt, ↓zj, ↓zbI, ↓zg, ↓zah, ↓zX, ↓zaZ, ↓zaU, ↓zd, ↓zH, ↓zl, ↓zy, ↓zar, ↓zdS, ↓zeg, ↓zZ, ↓zaH, ↓zaO, ↓zbn, ↓zbC, ↓zw, ↓zam, ↓zL, ↓zu, ↓zaj, zee, zbN, zbH, unA, zed, bnd, zeY, zad, zag, zeQ, dm, dm1, zE, zaI, zgc, zgb, zaf, Q0, Q1, Q2, Q3, Q4, Q5, zai, zp, zm, zac, zM, Q6, Q7, Q8, Q9, Q10, Q11, Q12, Q13, Q14, Nat.reduceAdd, Q15, Int.reduceToNat, Q16, Q17, Q18, Q19, Q20, reduceIte, Q21, Q22, a]; rfl) : P := (e a).mpr h
theorem c_form {σ : List zc} {n : Nat} (hn : n < 18446744073709551616) {K : AV → List zc → Prop} (hK : K (.tup [.agg (zeq (zbs n)), .d (.int .i64 (zbs n).length)]) σ) : zo Tryz.prog zih [.d (.int .u64 n)] σ K := by
  refine zhS e_codec_form fun hl => ?_
  simp only [zml, iN, bT, bF, eN, zao]
  have hlen := zn hn
  refine zV 10 (fun k vs s => ∃ (m : Nat) (pre : List UInt8), k = pre.length ∧ vs = [.d (.int .u64 m), .d (.int .i64 k)] ∧ zbs n = pre ++ zbs m ∧ m < 18446744073709551616 ∧
      s = σ ++ [.box (zeq []), .box (zeq pre)]) ⟨n, [], rfl, rfl, rfl, hn, by simp [zeq, bva]⟩ ?_
  rintro k vs s hk ⟨m, pre, rfl, rfl, hpre, hm, rfl⟩
  have hm10 := zn hm
  have hpl : pre.length + (zbs m).length ≤ 10 := by rw [hpre] at hlen; simpa using hlen.2
  have hp : pre.length < 10 := by omega
  (refine gq8 ?_; try with_reducible exact True.intro)
  refine zap (fun h => ?_) (fun h => ?_)
  all_goals (try (refine gq9 h ?_; try with_reducible exact True.intro))
  · have h1 : ¬ m < 128 := by simp at h; omega
    have h2 := zmA h1
    rw [h2] at hpl
    simp at hpl
    rw [byte_or, shr7, zoq hp]
    refine ⟨by omega, by omega, by have := zkm (pre := pre) (by omega); omega, by simp [sc], by omega, ?_⟩
    refine zcE.next (by omega) ⟨m / 128, pre ++ [UInt8.ofNat (m % 128 + 128)], by simp, ?_, by rw [hpre, h2]; simp, by omega, rfl⟩
    rw [zaK (by omega) (by omega)]
    rfl
  · have h1 : m < 128 := by simp at h; omega
    have h2 := zgJ h1
    rw [byte_wrap h1, zoq hp]
    have hp1 : (zeq (pre ++ [UInt8.ofNat m])).length = 10 := zkm (by simp; omega)
    have hsp : zT (zeq []) 0 (zeq (pre ++ [UInt8.ofNat m])) = zeq (pre ++ [UInt8.ofNat m]) := by
      simp only [zT, Nat.zero_add, List.take_zero, List.nil_append]
      rw [hp1, List.drop_eq_nil_of_le (by simp [zeq, bva]), List.append_nil]
    have htk : List.take 10 (List.drop 0 (zeq (pre ++ [UInt8.ofNat m]))) = zeq (pre ++ [UInt8.ofNat m]) := by
      rw [List.drop_zero, List.take_of_length_le (by omega)]
    rw [htk, hsp, htk, if_pos (by omega)]
    refine ⟨by omega, by omega, by have := zkm (pre := pre) (by omega); omega, by simp [sc], by omega, by omega, by simp [zeq, bva], pad10_sc _, ?_⟩
    have hd : dmT (zbo [.agg (zeq (pre ++ [UInt8.ofNat m])), .d (.int .i64 (IntKind.i64.wrap (↑pre.length + 1)))]) = .tup [.agg (zeq (pre ++ [UInt8.ofNat m])), .d (.int .i64 (zbs n).length)] := by
      rw [zaK (by omega) (by omega), hpre, h2]
      simp only [zbo, dmT, List.map_cons, List.map_nil, dm, pad10_d, map_dm1_d, dm1]
      rw [List.length_append]; rfl
    refine zlw ?_ hl ?_
    · rw [hd, pad10_d, zdx]
      intro c hc
      rcases List.mem_cons.1 hc with rfl | hc
      · exact .agg _ (low_map_d _ _)
      · have hc := List.mem_singleton.1 hc
        subst hc; exact .d _
    · rw [hd]; rw [hpre, h2] at hK ⊢; exact hK

theorem toDs_bva (bs : List UInt8) (r : List AV) (ds : List D) (h : zfz r = some ds) : zfz (bva bs ++ r) = some ((bs.map fun b => D.int .u8 (b.toNat : Int)) ++ ds) := by
  induction bs with
  | nil => simpa [bva] using h
  | cons b bs ih => simp only [bva, List.map_cons, List.cons_append, zfz, toD] at ih ⊢; rw [ih]
theorem chunks1 (bs : List UInt8) : zab 1 bs.length (bs.map fun b => D.int .u8 (b.toNat : Int)) = bcs bs := by
  induction bs with
  | nil => rfl
  | cons b bs ih => simp only [List.length_cons, List.map_cons, zab, bcs, List.take_succ_cons, List.take_zero, List.drop_succ_cons, List.drop_zero] at ih ⊢; rw [ih]; rfl

theorem zde {σ : List zc} {b : List UInt8} {n : Nat} (hn : n < 18446744073709551616) (hb : b.length ≤ 1073741824) {K : AV → List zc → Prop} (hK : K (.own σ.length (bcs (b ++ zbs n))) (σ ++ [.tok 1 (b ++ zbs n).length])) :
    zo Tryz.prog zA [.d (.slice (bcs b)), .d (.int .u64 n)] σ K := by
  refine zbG zjv.is rfl (fun s => [σ.length + 1]) fun hl _ => zjv.goes ?_
  have hlen := zn hn
  simp only [zjA, iN, bT, bF, eN, gF, gT, gFm, gTm, fl, nfl, gFl, gTl, il, cp, orC, anC, cA, bP, z1, z2, m1, List.map_cons, List.map_nil]
  simp only [dm, dm1]
  refine c_form hn ?_
  have hp := zkm hlen.2
  have hsp : zT (List.replicate 10 (AV.d (D.int .u8 0))) 0 (zeq (zbs n)) = zeq (zbs n) := by
    simp only [zT, Nat.zero_add, List.take_zero, List.nil_append]
    rw [hp, List.drop_eq_nil_of_le (by simp), List.append_nil]
  have hrep : [AV.d (D.int .u8 0), .d (.int .u8 0), .d (.int .u8 0), .d (.int .u8 0), .d (.int .u8 0), .d (.int .u8 0), .d (.int .u8 0), .d (.int .u8 0), .d (.int .u8 0), .d (.int .u8 0)] = List.replicate 10 (AV.d (D.int .u8 0)) := rfl
  (refine gq8 ?_; try with_reducible exact True.intro)
  refine ⟨hp, by omega, pad10_sc _, by omega, by omega, by omega, by omega, ?_⟩
  refine zqh zbF ?_
  rw [hrep, hsp]
  (refine gq8 ?_; try with_reducible exact True.intro)
  have htk : zfz (List.take ((zbs n).length - Int.toNat 0) (List.drop (Int.toNat 0) (zeq (zbs n)))) = some ((zbs n).map fun b => D.int .u8 (b.toNat : Int)) := by
    simp only [Int.toNat_zero, Nat.sub_zero, List.drop_zero]
    rw [zeq, List.take_left' (by simp [bva])]
    have := toDs_bva (zbs n) [] [] rfl
    simpa using this
  simp only [Int.toNat_zero] at htk
  rw [htk, if_pos (by omega), Nat.sub_zero]
  simp only [Option.map_some, chunks1]
  refine ⟨zbF, zbF, by simp [bcs]; omega, ?_⟩
  rw [zoU]
  refine endsK_own rfl hl (by omega) (by rw [zp]; rfl) ?_
  simpa [bcs] using hK

theorem gq10 {P Q : Prop} (h : Q) (e : P = Q := by simp -dsimp only [↓zgX, ↓zaP, ↓zca, ↓zgZ, ↓zgR, ↓zgP, ↓zgS, ↓zgQ, ↓zcf, ↓zcb, ↓zcg, ↓zcc, ↓zgT, ↓zbX, ↓zch, ↓zcd, ↓zci, ↓zce, ↓zgN, ↓zgW, ↓zbW, ↓zcm, ↓zgC, ↓zgB, ↓zgL, iN, bT, bF, eN, ↓zdH, ↓unC, ↓zR, ↓zN, ↓zO, ↓zP, ↓zan, ↓zba, ↓zcY, ↓zS, ↓zcj, ↓zao, ↓zt, ↓zj, ↓zbI, ↓zg, ↓zah, ↓zX, ↓zaZ, ↓zaU, ↓zd, ↓zH, ↓zl, ↓zy, ↓zar, ↓zdS, ↓zeg, ↓zZ, ↓zaH, ↓zaO, ↓zbn, ↓zbC, ↓zw, ↓zam, ↓zL, ↓zu, ↓zaj, zee, zbN, zbH, unA, zed, bnd, zeY, zad, zag, zeQ, dm, dm1, zE, zaI, zgc, zgb, zaf, Q0, Q1, Q2, Q3, Q4, Q5, zai, zp, zm, zac, zM, Q6, Q7, Q8, Q9, Q10, Q11, Q12, Q13, Q14, Nat.reduceAdd, Q15, Int.reduceToNat, Q16, Q17, Q18, Q19, Q20, reduceIte, Q21, Q22, zhO]; rfl) : P := e.mpr h
theorem zfy {σ : List zc} {b x : List UInt8} (hx : x.length ≤ 1073741824) (hb : b.length ≤ 1073741800) {K : AV → List zc → Prop} (hK : K (.own σ.length (bcs (b ++ (zbs x.length ++ x)))) (σ ++ [.tok 1 (b ++ (zbs x.length ++ x)).length])) :
    zo Tryz.prog zal [.d (.slice (bcs b)), .d (.slice (bcs x))] σ K := by
  refine zbG zhH.is rfl (fun s => [σ.length]) fun hl _ => zhH.goes ?_
  have hlen := zn (n := x.length) (by omega)
  (refine gq10 ?_; try with_reducible exact True.intro)
  have hw : IntKind.u64.wrap ((bcs x).length : Int) = (x.length : Int) := by rw [zbe (by simp [bcs]; omega)]; simp [bcs]
  rw [hw]
  refine zde (by omega) (by omega) ?_
  (refine gq8 ?_; try with_reducible exact True.intro)
  refine ⟨zbF, by simp [bcs]; omega, by simp [bcs], ?_⟩
  rw [zoU]
  simp only [List.append_assoc]
  refine zdC hl rfl ?_
  simpa [bcs, Nat.add_assoc] using hK

theorem div128 {m : Nat} (h : m < 18446744073709551616) : IntKind.u64.wrap ((m : Int).tdiv 128) = ((m / 128 : Nat) : Int) := by
  rw [show ((m : Int).tdiv 128) = ((m / 128 : Nat) : Int) from by rw [Int.tdiv_eq_ediv_of_nonneg (by omega)]; rfl, zbe (by omega)]
theorem rem128 (m : Nat) : (m : Int).tmod 128 = ((m % 128 : Nat) : Int) := by
  rw [Int.tmod_eq_emod_of_nonneg (by omega)]; rfl

theorem gq11 {P Q : Prop} (h : Q) (e : P = Q := by simp -dsimp only [↓zgX, ↓zaP, ↓zca, ↓zgZ, ↓zgR, ↓zgP, ↓zgS, ↓zgQ, ↓zcf, ↓zcb, ↓zcg, ↓zcc, ↓zgT, ↓zbX, ↓zch, ↓zcd, ↓zci, ↓zce, ↓zgN, ↓zgW, ↓zbW, ↓zcm, ↓zgC, ↓zgB, ↓zgL, iN, bT, bF, eN, ↓zdH, ↓unC, ↓zR, ↓zN, ↓zO, ↓zP, ↓zan, ↓zba, ↓zcY, ↓zS, ↓zcj, ↓zao, ↓zt, ↓zj, ↓zbI, ↓zg, ↓zah, ↓zX, ↓zaZ, ↓zaU, ↓zd, ↓zH, ↓zl, ↓zy, ↓zar, ↓zdS, ↓zeg, ↓zZ, ↓zaH, ↓zaO, ↓zbn, ↓zbC, ↓zw, ↓zam, ↓zL, ↓zu, ↓zaj, zee, zbN, zbH, unA, zed, bnd, zeY, zad, zag, zeQ, dm, dm1, zE, zaI, zgc, zgb, zaf, Q0, Q1, Q2, Q3, Q4, Q5, zai, zp, zm, zac, zM, Q6, Q7, Q8, Q9, Q10, Q11, Q12, Q13, Q14, Nat.reduceAdd, Q15, Int.reduceToNat, Q16, Q17, Q18, Q19, Q20, reduceIte, Q21, Q22, zmi]; rfl) : P := e.mpr h
theorem gq12 {P Q : Prop} (h : Q) (e : P = Q := by simp -dsimp only [↓zgX, ↓zaP, ↓zca, ↓zgZ, ↓zgR, ↓zgP, ↓zgS, ↓zgQ, ↓zcf, ↓zcb, ↓zcg, ↓zcc, ↓zgT, ↓zbX, ↓zch, ↓zcd, ↓zci, ↓zce, ↓zgN, ↓zgW, ↓zbW, ↓zcm, ↓zgC, ↓zgB, ↓zgL, iN, bT, bF, eN, ↓zdH, ↓unC, ↓zR, ↓zN, ↓zO, ↓zP, ↓zan, ↓zba, ↓zcY, ↓zS, ↓zcj, ↓zao, ↓zt, ↓zj, ↓zbI, ↓zg, ↓zah, ↓zX, ↓zaZ, ↓zaU, ↓zd, ↓zH, ↓zl, ↓zy, ↓zar, ↓zdS, ↓zeg, ↓zZ, ↓zaH, ↓zaO, ↓zbn, ↓zbC, ↓zw, ↓zam, ↓zL, ↓zu, ↓zaj, zee, zbN, zbH, unA, zed, bnd, zeY, zad, zag, zeQ, dm, dm1, zE, zaI, zgc, zgb, zaf, Q0, Q1, Q2, Q3, Q4, Q5, zai, zp, zm, zac, zM, Q6, Q7, Q8, Q9, Q10, Q11, Q12, Q13, Q14, Nat.reduceAdd, Q15, Int.reduceToNat, Q16, Q17, Q18, Q19, Q20, reduceIte, Q21, Q22, rep, zT, zfz, toD, zab, Q23, Q24, Q25, Q26, Q27, Q28, Nat.reduceLeDiff, Q29, Nat.reduceSub, Q30, Q31, Q32, sc, Q33, Q34, Q35]; rfl) : P := e.mpr h
theorem c_rPutNum {σ : List zc} {b : List UInt8} {n : Nat} (hn : n < 18446744073709551616) (hb : b.length ≤ 1073741824) {K : AV → List zc → Prop} (hK : K (.own σ.length (bcs (b ++ zbs n))) (σ ++ [.tok 1 (b ++ zbs n).length])) :
    zo Tryz.prog zgj [.d (.slice (bcs b)), .d (.int .u64 n)] σ K := by
  refine zbG zlX.is rfl (fun s => [σ.length]) fun hl _ => zlX.goes ?_
  have hlen := zn hn
  (refine gq11 ?_; try with_reducible exact True.intro)
  refine ⟨zbF, by simp, by simp [bcs]; omega, ?_⟩
  refine zV 10 (fun k vs s => ∃ (m : Nat) (pre : List UInt8), k = pre.length ∧ vs = [.d (.int .u64 m), .own σ.length (bcs (b ++ pre))] ∧ zbs n = pre ++ zbs m ∧ m < 18446744073709551616 ∧
      s = σ ++ [.tok 1 (b ++ pre).length]) ⟨n, [], rfl, by simp, rfl, hn, by simp [bcs]⟩ ?_
  rintro k vs s hk ⟨m, pre, rfl, rfl, hpre, hm, rfl⟩
  have hm10 := zn hm
  have hpl : pre.length + (zbs m).length ≤ 10 := by rw [hpre] at hlen; simpa using hlen.2
  (refine gq8 ?_; try with_reducible exact True.intro)
  refine zap (fun h => ?_) (fun h => ?_)
  all_goals (try (refine gq9 h ?_; try with_reducible exact True.intro))
  · have h1 : ¬ m < 128 := by simp at h; omega
    have h2 := zmA h1
    rw [h2] at hpl
    simp at hpl
    have hc : IntKind.u8.wrap (IntKind.u8.wrap ((m : Int).tmod 128) + 128) = ((UInt8.ofNat (m % 128 + 128)).toNat : Int) := by
      rw [rem128, zkc (by omega), zje (by omega), show ((m % 128 : Nat) : Int) + 128 = ((m % 128 + 128 : Nat) : Int) from rfl]
      exact zkc (by omega)
    (refine gq12 ?_; try with_reducible exact True.intro)
    rw [hc, div128 hm]
    refine ⟨by decide, by simp, by simp [bcs]; omega, by simp [bcs], by decide, ?_⟩
    refine zcE.next (by omega) ⟨m / 128, pre ++ [UInt8.ofNat (m % 128 + 128)], by simp, ?_, by rw [hpre, h2]; simp, by omega, ?_⟩
    · simp [bcs, zaQ]
    · simp [bcs, Nat.add_assoc]
  · have h1 : m < 128 := by simp at h; omega
    have h2 := zgJ h1
    (refine gq12 ?_; try with_reducible exact True.intro)
    rw [byte_wrap h1]
    refine ⟨by simp, by simp [bcs]; omega, by simp [bcs], ?_⟩
    rw [hpre, h2] at hK
    have e : bcs (b ++ pre) ++ [[D.int .u8 ((UInt8.ofNat m).toNat : Int)]] = bcs (b ++ (pre ++ [UInt8.ofNat m])) := by simp [bcs, zaQ]
    rw [e]
    refine zdC hl rfl ?_
    simpa [bcs, Nat.add_assoc] using hK
end Go.Proofs.YthpnelbciibjeaaGreat
