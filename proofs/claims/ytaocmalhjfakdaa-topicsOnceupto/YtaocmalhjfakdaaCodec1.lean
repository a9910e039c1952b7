/- Contracts of the small functions over bytes. -/
import Derived.Test.YtaocmalhjfakdaaSh
import Derived.Test.YtaocmalhjfakdaaAwEnd
import Derived.Test.YtaocmalhjfakdaaCl1
import Derived.Test.YtaocmalhjfakdaaSpNum
set_option linter.all false
set_option maxRecDepth 100000
set_option linter.unusedSimpArgs false
namespace Go.Proofs.Ytaocmalhjfakdaa
open Go.AW

theorem zko {σ : List zb} {es : List (List D)} {K : AV → List zb → Prop} (he : ∀ e ∈ es, e.length = 1) (hK : K (.exact es) σ) : zC Try.prog zbo [.d (.slice es)] σ K := by
  refine zfr zcg.is rfl (fun _ => []) fun hl _ => zcg.goes ?_
  simp only [zck, iN, bT, bF, eN, gF, gT, gFm, gTm, fl, nfl, gFl, gTl, il, cp, orC, anC, cA, bP, z1, z2, m1, List.map_cons, List.map_nil, zbO, zey, zdM, bnd, zfu, zR]
  refine ⟨rfl, trivial, by omega, by omega, by omega, he, ?_⟩
  simp only [EndsK, EndsL, getL, zjS, zdY, zbj]
  simpa using ⟨hl, hK⟩
theorem zbJ {σ : List zb} {a b : List UInt8} {K : AV → List zb → Prop} (hK : K (.d (.bool (a == b))) σ) : zC Try.prog zca [.d (.slice (bcs a)), .d (.slice (bcs b))] σ K := by
  refine acE2 zki fun hl => ?_
  simp only [zgr, iN, bT, bF, eN, gF, gT, gFm, gTm, fl, nfl, gFl, gTl, il, cp, orC, anC, cA, bP, z1, z2, m1, List.map_cons, List.map_nil, zaD, zey, ziN, zeB, zeh, zct, zR]
  exact ziF (by simp [Low_d, dmT, dm, dm1, zdY]) hl hK

def bva (bs : List UInt8) : List AV := bs.map fun b => .d (.int .u8 (b.toNat : Int))
def zcu (bs : List UInt8) : List AV := bva bs ++ List.replicate (10 - bs.length) (.d (.int .u8 0))

theorem zji {pre : List UInt8} {b : UInt8} (h : pre.length < 10) : zO (zcu pre) pre.length [.d (.int .u8 (b.toNat : Int))] = zcu (pre ++ [b]) := by
  simp only [zO, zcu, bva, List.length_singleton]
  obtain ⟨m, hm⟩ : ∃ m, 10 - pre.length = m + 1 := ⟨9 - pre.length, by omega⟩
  rw [hm, List.take_left' (by simp), List.drop_append]
  simp only [List.length_map]
  rw [List.drop_eq_nil_of_le (by simp), show pre.length + 1 - pre.length = 1 by omega, List.replicate_succ]
  simp [List.length_append, show 10 - (pre.length + 1) = m by omega]

theorem byte_or (m : Nat) : IntKind.u8.wrap ↑(BitVec.ofInt IntKind.u8.bits (IntKind.u8.wrap (m : Int)) ||| BitVec.ofInt IntKind.u8.bits 128).toNat = ((UInt8.ofNat (m % 128 + 128)).toNat : Int) := by
  rw [wrap8 m, show IntKind.u8.bits = 8 from rfl, or128 ⟨m % 256, by omega⟩, wrap8_lt (by simp; omega), zgQ (by omega)]
  simp
theorem byte_wrap {m : Nat} (h : m < 128) : IntKind.u8.wrap (m : Int) = ((UInt8.ofNat m).toNat : Int) := by
  rw [wrap8_lt (by omega), zgQ (by omega)]
theorem shr7 (m : Nat) : ((m : Int)).fdiv (2 ^ min 7 IntKind.u64.bits) = ((m / 128 : Nat) : Int) := by
  rw [show min 7 IntKind.u64.bits = 7 from rfl, Int.fdiv_eq_ediv_of_nonneg _ (by decide)]
  rfl
theorem zfW {pre : List UInt8} (h : pre.length ≤ 10) : (zcu pre).length = 10 := by simp [zcu, bva]; omega
theorem pad10_sc (pre : List UInt8) : (zcu pre).all sc = true := by
  simp only [zcu, bva, List.all_append, List.all_map, List.all_replicate, Bool.and_eq_true]
  refine ⟨by simp [sc], ?_⟩
  cases 10 - pre.length <;> simp [sc]

theorem pad10_d (pre : List UInt8) : zcu pre = ((pre.map fun b => D.int .u8 (b.toNat : Int)) ++ List.replicate (10 - pre.length) (D.int .u8 0)).map AV.d := by
  simp [zcu, bva, Function.comp_def]
theorem gq1 {P Q : Prop} (h : Q) (e : P = Q := by simp -dsimp only [↓zhJ, ↓zbB, ↓zdh, ↓zhK, ↓zhC, ↓zhA, ↓zhD, ↓zhB, ↓zdm, ↓zdi, ↓zdn, ↓zdj, ↓zhE, ↓zdf, ↓zdo, ↓zdk, ↓zdp, ↓zdl, ↓zhy, ↓zhH, ↓zde, ↓zdq, ↓zhv, ↓zhu, ↓zhx, iN, bT, bF, eN, ↓zeB, ↓unC, ↓zas, ↓zZ, ↓zaa, ↓zaj, ↓zaK, ↓zbO, ↓zdM, ↓zaD, ↓zdL, ↓zaN, ↓zq, ↓zt, ↓zcV, ↓zl, ↓zak, ↓zY, ↓zbk, ↓zbe, ↓zd, ↓zG, ↓zp, ↓zL, ↓zaG, ↓zem, ↓zel, ↓zaH, ↓zbc, ↓zaS, ↓zbN, ↓zcb, ↓zD, ↓zaq, ↓zab, ↓zE, ↓zaE, zeh, zcC, zct, unA, zey, bnd, zfu, zaf, zaC, zfF, dm, dm1, zR, zbD, zge, zgd, zan, Q0, Q1, Q2, Q3, Q4, Q5, zaL, zV, zn, zaJ, zai, Q6, Q7, Q8, Q9, Q10, Q11, Q12, Q13, Q14, Nat.reduceAdd, Q15, Int.reduceToNat, Q16, Q17, Q18, Q19, Q20, reduceIte, Q21, Q22]; rfl) : P := e.mpr h
theorem gq2 {A P Q : Prop} (a : A) (h : Q) (e : A → P = Q := by intro a; simp -dsimp only [↓zhJ, ↓zbB, ↓zdh, ↓zhK, ↓zhC, ↓zhA, ↓zhD, ↓zhB, ↓zdm, ↓zdi, ↓zdn, ↓zdj, ↓zhE, ↓zdf, ↓zdo, ↓zdk, ↓zdp, ↓zdl, ↓zhy, ↓zhH, ↓zde, ↓zdq, ↓zhv, ↓zhu, ↓zhx, iN, bT, bF, eN, ↓zeB, ↓unC, ↓zas, ↓zZ, ↓zaa, ↓zaj, ↓zaK, ↓zbO, ↓zdM, ↓zaD, ↓zdL, ↓zaN, ↓zq, ↓zt, ↓zcV, ↓zl, ↓zak, ↓zY, ↓zbk, ↓zbe, ↓zd, ↓zG, ↓zp, ↓zL, ↓zaG, ↓zem, ↓zel, ↓zaH, ↓zbc, ↓zaS, ↓zbN, ↓zcb, ↓zD, ↓zaq, ↓zab, ↓zE, ↓zaE, zeh, zcC, zct, unA, zey, bnd, zfu, zaf, zaC, zfF, dm, dm1, zR, zbD, zge, zgd, zan, Q0, Q1, Q2, Q3, Q4, Q5, zaL, zV, zn, zaJ, zai, Q6, Q7, Q8, Q9, Q10, Q11, Q12, Q13, Q14, Nat.reduceAdd, Q15, Int.reduceToNat, Q16, Q17, Q18, Q19, Q20, reduceIte, Q21, Q22, a]; rfl) : P := (e a).mpr h
theorem c_form {σ : List zb} {n : Nat} (hn : n < 18446744073709551616) {K : AV → List zb → Prop} (hK : K (.tup [.agg (zcu (zcR n)), .d (.int .i64 (zcR n).length)]) σ) : zC Try.prog zeP [.d (.int .u64 n)] σ K := by
  refine acE1 e_codec_form fun hl => ?_
  simp only [zhk, iN, bT, bF, eN, zaN]
  have hlen := zad hn
  refine zba 10 (fun k vs s => ∃ (m : Nat) (pre : List UInt8), k = pre.length ∧ vs = [.d (.int .u64 m), .d (.int .i64 k)] ∧ zcR n = pre ++ zcR m ∧ m < 18446744073709551616 ∧
      s = σ ++ [.box (zcu []), .box (zcu pre)]) ⟨n, [], rfl, rfl, rfl, hn, by simp [zcu, bva]⟩ ?_
  rintro k vs s hk ⟨m, pre, rfl, rfl, hpre, hm, rfl⟩
  have hm10 := zad hm
  have hpl : pre.length + (zcR m).length ≤ 10 := by rw [hpre] at hlen; simpa using hlen.2
  have hp : pre.length < 10 := by omega
  (refine gq1 ?_; try with_reducible exact True.intro)
  refine zbG (fun h => ?_) (fun h => ?_)
  all_goals (try (refine gq2 h ?_; try with_reducible exact True.intro))
  · have h1 : ¬ m < 128 := by simp at h; omega
    have h2 := numB_big h1
    rw [h2] at hpl
    simp at hpl
    rw [byte_or, shr7, zji hp]
    refine ⟨by omega, by omega, by have := zfW (pre := pre) (by omega); omega, by simp [sc], by omega, ?_⟩
    refine zeg.next (by omega) ⟨m / 128, pre ++ [UInt8.ofNat (m % 128 + 128)], by simp, ?_, by rw [hpre, h2]; simp, by omega, rfl⟩
    rw [zcT (by omega) (by omega)]
    rfl
  · have h1 : m < 128 := by simp at h; omega
    have h2 := zgB h1
    rw [byte_wrap h1, zji hp]
    have hp1 : (zcu (pre ++ [UInt8.ofNat m])).length = 10 := zfW (by simp; omega)
    have hsp : zO (zcu []) 0 (zcu (pre ++ [UInt8.ofNat m])) = zcu (pre ++ [UInt8.ofNat m]) := by
      simp only [zO, Nat.zero_add, List.take_zero, List.nil_append]
      rw [hp1, List.drop_eq_nil_of_le (by simp [zcu, bva]), List.append_nil]
    have htk : List.take 10 (List.drop 0 (zcu (pre ++ [UInt8.ofNat m]))) = zcu (pre ++ [UInt8.ofNat m]) := by
      rw [List.drop_zero, List.take_of_length_le (by omega)]
    rw [htk, hsp, htk, if_pos (by omega)]
    refine ⟨by omega, by omega, by have := zfW (pre := pre) (by omega); omega, by simp [sc], by omega, by omega, by simp [zcu, bva], pad10_sc _, ?_⟩
    have hd : dmT (zdY [.agg (zcu (pre ++ [UInt8.ofNat m])), .d (.int .i64 (IntKind.i64.wrap (↑pre.length + 1)))]) = .tup [.agg (zcu (pre ++ [UInt8.ofNat m])), .d (.int .i64 (zcR n).length)] := by
      rw [zcT (by omega) (by omega), hpre, h2]
      simp only [zdY, dmT, List.map_cons, List.map_nil, dm, pad10_d, map_dm1_d, dm1]
      rw [List.length_append]; rfl
    refine zgM ?_ hl ?_
    · rw [hd, pad10_d, zkw]
      intro c hc
      rcases List.mem_cons.1 hc with rfl | hc
      · exact .agg _ (low_map_d _ _)
      · have hc := List.mem_singleton.1 hc
        subst hc; exact .d _
    · rw [hd]; rw [hpre, h2] at hK ⊢; exact hK

theorem toDs_bva (bs : List UInt8) (r : List AV) (ds : List D) (h : zgw r = some ds) : zgw (bva bs ++ r) = some ((bs.map fun b => D.int .u8 (b.toNat : Int)) ++ ds) := by
  induction bs with
  | nil => simpa [bva] using h
  | cons b bs ih => simp only [bva, List.map_cons, List.cons_append, zgw, toD] at ih ⊢; rw [ih]
theorem chunks1 (bs : List UInt8) : zah 1 bs.length (bs.map fun b => D.int .u8 (b.toNat : Int)) = bcs bs := by
  induction bs with
  | nil => rfl
  | cons b bs ih => simp only [List.length_cons, List.map_cons, zah, bcs, List.take_succ_cons, List.take_zero, List.drop_succ_cons, List.drop_zero] at ih ⊢; rw [ih]; rfl

theorem c_PutNum {σ : List zb} {b : List UInt8} {n : Nat} (hn : n < 18446744073709551616) (hb : b.length ≤ 1073741824) {K : AV → List zb → Prop} (hK : K (.own σ.length (bcs (b ++ zcR n))) (σ ++ [.tok 1 (b ++ zcR n).length])) :
    zC Try.prog zN [.d (.slice (bcs b)), .d (.int .u64 n)] σ K := by
  refine zfr zfC.is rfl (fun s => [σ.length + 1]) fun hl _ => zfC.goes ?_
  have hlen := zad hn
  simp only [zfE, iN, bT, bF, eN, gF, gT, gFm, gTm, fl, nfl, gFl, gTl, il, cp, orC, anC, cA, bP, z1, z2, m1, List.map_cons, List.map_nil]
  simp only [dm, dm1]
  refine c_form hn ?_
  have hp := zfW hlen.2
  have hsp : zO (List.replicate 10 (AV.d (D.int .u8 0))) 0 (zcu (zcR n)) = zcu (zcR n) := by
    simp only [zO, Nat.zero_add, List.take_zero, List.nil_append]
    rw [hp, List.drop_eq_nil_of_le (by simp), List.append_nil]
  have hrep : [AV.d (D.int .u8 0), .d (.int .u8 0), .d (.int .u8 0), .d (.int .u8 0), .d (.int .u8 0), .d (.int .u8 0), .d (.int .u8 0), .d (.int .u8 0), .d (.int .u8 0), .d (.int .u8 0)] = List.replicate 10 (AV.d (D.int .u8 0)) := rfl
  (refine gq1 ?_; try with_reducible exact True.intro)
  refine ⟨hp, by omega, pad10_sc _, by omega, by omega, by omega, by omega, ?_⟩
  refine zko ziO ?_
  rw [hrep, hsp]
  (refine gq1 ?_; try with_reducible exact True.intro)
  have htk : zgw (List.take ((zcR n).length - Int.toNat 0) (List.drop (Int.toNat 0) (zcu (zcR n)))) = some ((zcR n).map fun b => D.int .u8 (b.toNat : Int)) := by
    simp only [Int.toNat_zero, Nat.sub_zero, List.drop_zero]
    rw [zcu, List.take_left' (by simp [bva])]
    have := toDs_bva (zcR n) [] [] rfl
    simpa using this
  simp only [Int.toNat_zero] at htk
  rw [htk, if_pos (by omega), Nat.sub_zero]
  simp only [Option.map_some, chunks1]
  refine ⟨ziO, ziO, by simp [bcs]; omega, ?_⟩
  rw [zjC]
  refine endsK_own rfl hl (by omega) (by rw [zV]; rfl) ?_
  simpa [bcs] using hK

theorem gq3 {P Q : Prop} (h : Q) (e : P = Q := by simp -dsimp only [↓zhJ, ↓zbB, ↓zdh, ↓zhK, ↓zhC, ↓zhA, ↓zhD, ↓zhB, ↓zdm, ↓zdi, ↓zdn, ↓zdj, ↓zhE, ↓zdf, ↓zdo, ↓zdk, ↓zdp, ↓zdl, ↓zhy, ↓zhH, ↓zde, ↓zdq, ↓zhv, ↓zhu, ↓zhx, iN, bT, bF, eN, ↓zeB, ↓unC, ↓zas, ↓zZ, ↓zaa, ↓zaj, ↓zaK, ↓zbO, ↓zdM, ↓zaD, ↓zdL, ↓zaN, ↓zq, ↓zt, ↓zcV, ↓zl, ↓zak, ↓zY, ↓zbk, ↓zbe, ↓zd, ↓zG, ↓zp, ↓zL, ↓zaG, ↓zem, ↓zel, ↓zaH, ↓zbc, ↓zaS, ↓zbN, ↓zcb, ↓zD, ↓zaq, ↓zab, ↓zE, ↓zaE, zeh, zcC, zct, unA, zey, bnd, zfu, zaf, zaC, zfF, dm, dm1, zR, zbD, zge, zgd, zan, Q0, Q1, Q2, Q3, Q4, Q5, zaL, zV, zn, zaJ, zai, Q6, Q7, Q8, Q9, Q10, Q11, Q12, Q13, Q14, Nat.reduceAdd, Q15, Int.reduceToNat, Q16, Q17, Q18, Q19, Q20, reduceIte, Q21, Q22, zeG]; rfl) : P := e.mpr h
theorem c_PutBytes {σ : List zb} {b x : List UInt8} (hx : x.length ≤ 1073741824) (hb : b.length ≤ 1073741800) {K : AV → List zb → Prop} (hK : K (.own σ.length (bcs (b ++ (zcR x.length ++ x)))) (σ ++ [.tok 1 (b ++ (zcR x.length ++ x)).length])) :
    zC Try.prog zaT [.d (.slice (bcs b)), .d (.slice (bcs x))] σ K := by
  refine zfr zez.is rfl (fun s => [σ.length]) fun hl _ => zez.goes ?_
  have hlen := zad (n := x.length) (by omega)
  (refine gq3 ?_; try with_reducible exact True.intro)
  have hw : IntKind.u64.wrap ((bcs x).length : Int) = (x.length : Int) := by rw [zhS (by simp [bcs]; omega)]; simp [bcs]
  rw [hw]
  refine c_PutNum (by omega) (by omega) ?_
  (refine gq1 ?_; try with_reducible exact True.intro)
  refine ⟨ziO, by simp [bcs]; omega, by simp [bcs], ?_⟩
  rw [zjC]
  simp only [List.append_assoc]
  refine zgN hl rfl ?_
  simpa [bcs, Nat.add_assoc] using hK

end Go.Proofs.Ytaocmalhjfakdaa
