/- Contracts of the small functions over bytes. -/
import Derived.Test.YtaocmalhjfakdaaSh
import Derived.Test.YtaocmalhjfakdaaAwEnd
import Derived.Test.YtaocmalhjfakdaaCl1
set_option linter.all false
set_option maxRecDepth 100000
set_option linter.unusedSimpArgs false
namespace Go.Proofs.Ytaocmalhjfakdaa
open Go.AW

theorem zmV {σ : List zc} {es : List (List D)} {K : AV → List zc → Prop} (he : ∀ e ∈ es, e.length = 1) (hK : K (.exact es) σ) : zt Try.prog zbM [.d (.slice es)] σ K := by
  refine zcW zdl.is rfl (fun _ => []) fun hl _ => zdl.goes ?_
  simp only [zdr, iN, bT, bF, eN, gF, gT, gFm, gTm, fl, nfl, gFl, gTl, il, cp, orC, anC, cA, bP, z1, z2, m1, List.map_cons, List.map_nil, zbx, zeK, zdD, bnd, zfK, zV]
  refine ⟨rfl, trivial, by omega, by omega, by omega, he, ?_⟩
  simp only [zkh, zlB, getL, zjZ, zcg, zbB]
  simpa using ⟨hl, hK⟩
theorem zeD {σ : List zc} {a b : List UInt8} {K : AV → List zc → Prop} (hK : K (.d (.bool (a == b))) σ) : zt Try.prog zck [.d (.slice (bcs a)), .d (.slice (bcs b))] σ K := by
  refine acE2 zmO fun hl => ?_
  simp only [ziW, iN, bT, bF, eN, gF, gT, gFm, gTm, fl, nfl, gFl, gTl, il, cp, orC, anC, cA, bP, z1, z2, m1, List.map_cons, List.map_nil, zan, zeK, zge, zdW, zeM, zcd, zV]
  exact zeX (by simp [zgi, dmT, dm, dm1, zcg]) hl hK
theorem zhL {σ : List zc} {es : List (List D)} {K : AV → List zc → Prop} (he : ∀ e ∈ es, e.length = 1) (hn : es.length ≤ 1073741824) (hK : K (.own σ.length es) (σ ++ [.tok 1 es.length])) : zt Try.prog zaV [.d (.slice es)] σ K := by
  refine zt.tok he ?_ hK
  refine zcW zcU.is rfl (fun s => if s.length = σ.length then [] else [σ.length]) fun hl _ => zcU.goes ?_
  simp only [zcY, iN, bT, bF, eN, gF, gT, gFm, gTm, fl, nfl, gFl, gTl, il, cp, orC, anC, cA, bP, z1, z2, m1, List.map_cons, List.map_nil, zas, zeK]
  cases es with
  | nil =>
    refine ⟨?_, ?_⟩
    · simp only [zW, zK, zV]
      exact zid (by simp) hl rfl (by simp)
    · simp only [zW, zr, zV, zaj, rep, zl, zfV, zab, zA, zfy]
      refine ⟨by simp, by simp, by simp, ?_⟩
      exact zdJ hl (by simp) (by simp)
  | cons e es =>
    simp only [zW, zr, zV, zaj, rep, zl, zfV, zab, zA, zfy]
    refine ⟨he, by simp, by simp at hn ⊢; omega, ?_⟩
    exact zdJ hl (by simp) (by simp)

def bva (bs : List UInt8) : List AV := bs.map fun b => .d (.int .u8 (b.toNat : Int))
def zdF (bs : List UInt8) : List AV := bva bs ++ List.replicate (10 - bs.length) (.d (.int .u8 0))

theorem zlG {pre : List UInt8} {b : UInt8} (h : pre.length < 10) : zR (zdF pre) pre.length [.d (.int .u8 (b.toNat : Int))] = zdF (pre ++ [b]) := by
  simp only [zR, zdF, bva, List.length_singleton]
  obtain ⟨m, hm⟩ : ∃ m, 10 - pre.length = m + 1 := ⟨9 - pre.length, by omega⟩
  rw [hm, List.take_left' (by simp), List.drop_append]
  simp only [List.length_map]
  rw [List.drop_eq_nil_of_le (by simp), show pre.length + 1 - pre.length = 1 by omega, List.replicate_succ]
  simp [List.length_append, show 10 - (pre.length + 1) = m by omega]

theorem byte_or (m : Nat) : IntKind.u8.wrap ↑(BitVec.ofInt IntKind.u8.bits (IntKind.u8.wrap (m : Int)) ||| BitVec.ofInt IntKind.u8.bits 128).toNat = ((UInt8.ofNat (m % 128 + 128)).toNat : Int) := by
  rw [wrap8 m, show IntKind.u8.bits = 8 from rfl, or128 ⟨m % 256, by omega⟩, zmo (by simp; omega), zjy (by omega)]
  simp
theorem byte_wrap {m : Nat} (h : m < 128) : IntKind.u8.wrap (m : Int) = ((UInt8.ofNat m).toNat : Int) := by
  rw [zmo (by omega), zjy (by omega)]
theorem shr7 (m : Nat) : ((m : Int)).fdiv (2 ^ min 7 IntKind.u64.bits) = ((m / 128 : Nat) : Int) := by
  rw [show min 7 IntKind.u64.bits = 7 from rfl, Int.fdiv_eq_ediv_of_nonneg _ (by decide)]
  rfl
theorem zix {pre : List UInt8} (h : pre.length ≤ 10) : (zdF pre).length = 10 := by simp [zdF, bva]; omega
theorem pad10_sc (pre : List UInt8) : (zdF pre).all sc = true := by
  simp only [zdF, bva, List.all_append, List.all_map, List.all_replicate, Bool.and_eq_true]
  refine ⟨by simp [sc], ?_⟩
  cases 10 - pre.length <;> simp [sc]

theorem pad10_d (pre : List UInt8) : zdF pre = ((pre.map fun b => D.int .u8 (b.toNat : Int)) ++ List.replicate (10 - pre.length) (D.int .u8 0)).map AV.d := by
  simp [zdF, bva, Function.comp_def]
theorem gq7 {P Q : Prop} (h : Q) (e : P = Q := by simp -dsimp only [↓zhM, ↓zbc, ↓zcw, ↓zhN, ↓zhF, ↓zhD, ↓zhG, ↓zhE, ↓zcB, ↓zcx, ↓zcC, ↓zcy, ↓zhH, ↓zcv, ↓zcD, ↓zcz, ↓zcE, ↓zcA, ↓zhC, ↓zhK, ↓zcu, ↓zcF, ↓zhu, ↓zht, ↓zhA, iN, bT, bF, eN, ↓zdW, ↓unC, ↓zW, ↓zP, ↓zQ, ↓zZ, ↓zax, ↓zbx, ↓zdD, ↓zan, ↓zcV, ↓zaD, ↓zn, ↓zp, ↓zca, ↓zh, ↓zak, ↓zN, ↓zbf, ↓zba, ↓ze, ↓zD, ↓zl, ↓zA, ↓zas, ↓zeB, ↓zeQ, ↓zaC, ↓zaP, ↓zaS, ↓zbs, ↓zbW, ↓zx, ↓zap, ↓zK, ↓zr, ↓zaw, zeM, zcl, zcd, unA, zeK, bnd, zfK, zae, zaj, zfy, dm, dm1, zV, zbo, zgx, zgw, keepO, Q0, Q1, Q2, Q3, Q4, Q5, zaz, zG, zi, zau, zY, Q6, Q7, Q8, Q9, Q10, Q11, Q12, Q13, Q14, Nat.reduceAdd, Q15, Int.reduceToNat, Q16, Q17, Q18, Q19, Q20, reduceIte, Q21, Q22]; rfl) : P := e.mpr h
theorem gq8 {A P Q : Prop} (a : A) (h : Q) (e : A → P = Q := by intro a; simp -dsimp only [↓zhM, ↓zbc, ↓zcw, ↓zhN, ↓zhF, ↓zhD, ↓zhG, ↓zhE, ↓zcB, ↓zcx, ↓zcC, ↓zcy, ↓zhH, ↓zcv, ↓zcD, ↓zcz, ↓zcE, ↓zcA, ↓zhC, ↓zhK, ↓zcu, ↓zcF, ↓zhu, ↓zht, ↓zhA, iN, bT, bF, eN, ↓zdW, ↓unC, ↓zW, ↓zP, ↓zQ, ↓zZ, ↓zax, ↓zbx, ↓zdD, ↓zan, ↓zcV, ↓zaD, ↓zn, ↓zp, ↓zca, ↓zh, ↓zak, ↓zN, ↓zbf, ↓zba, ↓ze, ↓zD, ↓zl, ↓zA, ↓zas, ↓zeB, ↓zeQ, ↓zaC, ↓zaP, ↓zaS, ↓zbs, ↓zbW, ↓zx, ↓zap, ↓zK, ↓zr, ↓zaw, zeM, zcl, zcd, unA, zeK, bnd, zfK, zae, zaj, zfy, dm, dm1, zV, zbo, zgx, zgw, keepO, Q0, Q1, Q2, Q3, Q4, Q5, zaz, zG, zi, zau, zY, Q6, Q7, Q8, Q9, Q10, Q11, Q12, Q13, Q14, Nat.reduceAdd, Q15, Int.reduceToNat, Q16, Q17, Q18, Q19, Q20, reduceIte, Q21, Q22, a]; rfl) : P := (e a).mpr h
theorem c_form {σ : List zc} {n : Nat} (hn : n < 18446744073709551616) {K : AV → List zc → Prop} (hK : K (.tup [.agg (zdF (zci n)), .d (.int .i64 (zci n).length)]) σ) : zt Try.prog zgG [.d (.int .u64 n)] σ K := by
  refine acE1 e_codec_form fun hl => ?_
  simp only [zjV, iN, bT, bF, eN, zaD]
  have hlen := zaq hn
  refine zai 10 (fun k vs s => ∃ (m : Nat) (pre : List UInt8), k = pre.length ∧ vs = [.d (.int .u64 m), .d (.int .i64 k)] ∧ zci n = pre ++ zci m ∧ m < 18446744073709551616 ∧
      s = σ ++ [.box (zdF []), .box (zdF pre)]) ⟨n, [], rfl, rfl, rfl, hn, by simp [zdF, bva]⟩ ?_
  rintro k vs s hk ⟨m, pre, rfl, rfl, hpre, hm, rfl⟩
  have hm10 := zaq hm
  have hpl : pre.length + (zci m).length ≤ 10 := by rw [hpre] at hlen; simpa using hlen.2
  have hp : pre.length < 10 := by omega
  (refine gq7 ?_; try with_reducible exact True.intro)
  refine zaY (fun h => ?_) (fun h => ?_)
  all_goals (try (refine gq8 h ?_; try with_reducible exact True.intro))
  · have h1 : ¬ m < 128 := by simp at h; omega
    have h2 := zkk h1
    rw [h2] at hpl
    simp at hpl
    rw [byte_or, shr7, zlG hp]
    refine ⟨by omega, by omega, by have := zix (pre := pre) (by omega); omega, by simp [sc], by omega, ?_⟩
    refine zds.next (by omega) ⟨m / 128, pre ++ [UInt8.ofNat (m % 128 + 128)], by simp, ?_, by rw [hpre, h2]; simp, by omega, rfl⟩
    rw [zbJ (by omega) (by omega)]
    rfl
  · have h1 : m < 128 := by simp at h; omega
    have h2 := zfG h1
    rw [byte_wrap h1, zlG hp]
    have hp1 : (zdF (pre ++ [UInt8.ofNat m])).length = 10 := zix (by simp; omega)
    have hsp : zR (zdF []) 0 (zdF (pre ++ [UInt8.ofNat m])) = zdF (pre ++ [UInt8.ofNat m]) := by
      simp only [zR, Nat.zero_add, List.take_zero, List.nil_append]
      rw [hp1, List.drop_eq_nil_of_le (by simp [zdF, bva]), List.append_nil]
    have htk : List.take 10 (List.drop 0 (zdF (pre ++ [UInt8.ofNat m]))) = zdF (pre ++ [UInt8.ofNat m]) := by
      rw [List.drop_zero, List.take_of_length_le (by omega)]
    rw [htk, hsp, htk, if_pos (by omega)]
    refine ⟨by omega, by omega, by have := zix (pre := pre) (by omega); omega, by simp [sc], by omega, by omega, by simp [zdF, bva], pad10_sc _, ?_⟩
    have hd : dmT (zcg [.agg (zdF (pre ++ [UInt8.ofNat m])), .d (.int .i64 (IntKind.i64.wrap (↑pre.length + 1)))]) = .tup [.agg (zdF (pre ++ [UInt8.ofNat m])), .d (.int .i64 (zci n).length)] := by
      rw [zbJ (by omega) (by omega), hpre, h2]
      simp only [zcg, dmT, List.map_cons, List.map_nil, dm, pad10_d, map_dm1_d, dm1]
      rw [List.length_append]; rfl
    refine zjt ?_ hl ?_
    · rw [hd, pad10_d, zjC]
      intro c hc
      rcases List.mem_cons.1 hc with rfl | hc
      · exact .agg _ (low_map_d _ _)
      · have hc := List.mem_singleton.1 hc
        subst hc; exact .d _
    · rw [hd]; rw [hpre, h2] at hK ⊢; exact hK

theorem toDs_bva (bs : List UInt8) (r : List AV) (ds : List D) (h : zfV r = some ds) : zfV (bva bs ++ r) = some ((bs.map fun b => D.int .u8 (b.toNat : Int)) ++ ds) := by
  induction bs with
  | nil => simpa [bva] using h
  | cons b bs ih => simp only [bva, List.map_cons, List.cons_append, zfV, toD] at ih ⊢; rw [ih]
theorem chunks1 (bs : List UInt8) : zab 1 bs.length (bs.map fun b => D.int .u8 (b.toNat : Int)) = bcs bs := by
  induction bs with
  | nil => rfl
  | cons b bs ih => simp only [List.length_cons, List.map_cons, zab, bcs, List.take_succ_cons, List.take_zero, List.drop_succ_cons, List.drop_zero] at ih ⊢; rw [ih]; rfl

theorem c_PutNum {σ : List zc} {b : List UInt8} {n : Nat} (hn : n < 18446744073709551616) (hb : b.length ≤ 1073741824) {K : AV → List zc → Prop} (hK : K (.own σ.length (bcs (b ++ zci n))) (σ ++ [.tok 1 (b ++ zci n).length])) :
    zt Try.prog zag [.d (.slice (bcs b)), .d (.int .u64 n)] σ K := by
  refine zcW zhJ.is rfl (fun s => [σ.length + 1]) fun hl _ => zhJ.goes ?_
  have hlen := zaq hn
  simp only [zhP, iN, bT, bF, eN, gF, gT, gFm, gTm, fl, nfl, gFl, gTl, il, cp, orC, anC, cA, bP, z1, z2, m1, List.map_cons, List.map_nil]
  simp only [dm, dm1]
  refine c_form hn ?_
  have hp := zix hlen.2
  have hsp : zR (List.replicate 10 (AV.d (D.int .u8 0))) 0 (zdF (zci n)) = zdF (zci n) := by
    simp only [zR, Nat.zero_add, List.take_zero, List.nil_append]
    rw [hp, List.drop_eq_nil_of_le (by simp), List.append_nil]
  have hrep : [AV.d (D.int .u8 0), .d (.int .u8 0), .d (.int .u8 0), .d (.int .u8 0), .d (.int .u8 0), .d (.int .u8 0), .d (.int .u8 0), .d (.int .u8 0), .d (.int .u8 0), .d (.int .u8 0)] = List.replicate 10 (AV.d (D.int .u8 0)) := rfl
  (refine gq7 ?_; try with_reducible exact True.intro)
  refine ⟨hp, by omega, pad10_sc _, by omega, by omega, by omega, by omega, ?_⟩
  refine zmV zej ?_
  rw [hrep, hsp]
  (refine gq7 ?_; try with_reducible exact True.intro)
  have htk : zfV (List.take ((zci n).length - Int.toNat 0) (List.drop (Int.toNat 0) (zdF (zci n)))) = some ((zci n).map fun b => D.int .u8 (b.toNat : Int)) := by
    simp only [Int.toNat_zero, Nat.sub_zero, List.drop_zero]
    rw [zdF, List.take_left' (by simp [bva])]
    have := toDs_bva (zci n) [] [] rfl
    simpa using this
  simp only [Int.toNat_zero] at htk
  rw [htk, if_pos (by omega), Nat.sub_zero]
  simp only [Option.map_some, chunks1]
  refine ⟨zej, zej, by simp [bcs]; omega, ?_⟩
  rw [zmg]
  refine endsK_own rfl hl (by omega) (by rw [zG]; rfl) ?_
  simpa [bcs] using hK

theorem gq9 {P Q : Prop} (h : Q) (e : P = Q := by simp -dsimp only [↓zhM, ↓zbc, ↓zcw, ↓zhN, ↓zhF, ↓zhD, ↓zhG, ↓zhE, ↓zcB, ↓zcx, ↓zcC, ↓zcy, ↓zhH, ↓zcv, ↓zcD, ↓zcz, ↓zcE, ↓zcA, ↓zhC, ↓zhK, ↓zcu, ↓zcF, ↓zhu, ↓zht, ↓zhA, iN, bT, bF, eN, ↓zdW, ↓unC, ↓zW, ↓zP, ↓zQ, ↓zZ, ↓zax, ↓zbx, ↓zdD, ↓zan, ↓zcV, ↓zaD, ↓zn, ↓zp, ↓zca, ↓zh, ↓zak, ↓zN, ↓zbf, ↓zba, ↓ze, ↓zD, ↓zl, ↓zA, ↓zas, ↓zeB, ↓zeQ, ↓zaC, ↓zaP, ↓zaS, ↓zbs, ↓zbW, ↓zx, ↓zap, ↓zK, ↓zr, ↓zaw, zeM, zcl, zcd, unA, zeK, bnd, zfK, zae, zaj, zfy, dm, dm1, zV, zbo, zgx, zgw, keepO, Q0, Q1, Q2, Q3, Q4, Q5, zaz, zG, zi, zau, zY, Q6, Q7, Q8, Q9, Q10, Q11, Q12, Q13, Q14, Nat.reduceAdd, Q15, Int.reduceToNat, Q16, Q17, Q18, Q19, Q20, reduceIte, Q21, Q22, zgu]; rfl) : P := e.mpr h
theorem c_PutBytes {σ : List zc} {b x : List UInt8} (hx : x.length ≤ 1073741824) (hb : b.length ≤ 1073741800) {K : AV → List zc → Prop} (hK : K (.own σ.length (bcs (b ++ (zci x.length ++ x)))) (σ ++ [.tok 1 (b ++ (zci x.length ++ x)).length])) :
    zt Try.prog zbp [.d (.slice (bcs b)), .d (.slice (bcs x))] σ K := by
  refine zcW zgm.is rfl (fun s => [σ.length]) fun hl _ => zgm.goes ?_
  have hlen := zaq (n := x.length) (by omega)
  (refine gq9 ?_; try with_reducible exact True.intro)
  have hw : IntKind.u64.wrap ((bcs x).length : Int) = (x.length : Int) := by rw [zfU (by simp [bcs]; omega)]; simp [bcs]
  rw [hw]
  refine c_PutNum (by omega) (by omega) ?_
  (refine gq7 ?_; try with_reducible exact True.intro)
  refine ⟨zej, by simp [bcs]; omega, by simp [bcs], ?_⟩
  rw [zmg]
  simp only [List.append_assoc]
  refine zdJ hl rfl ?_
  simpa [bcs, Nat.add_assoc] using hK

end Go.Proofs.Ytaocmalhjfakdaa
