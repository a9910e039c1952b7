/- Contracts of the small functions over bytes. -/
import Derived.Test.YthpnelbciibjeaaSh
import Derived.Test.YthpnelbciibjeaaAwEnd
import Derived.Test.YthpnelbciibjeaaCl1
import Derived.Test.YthpnelbciibjeaaSpNum
set_option linter.all false
set_option maxRecDepth 100000
set_option linter.unusedSimpArgs false
namespace Go.Proofs.Ythpnelbciibjeaa
open Go.AW

theorem zoh {σ : List zc} {es : List (List D)} {K : AV → List zc → Prop} (he : ∀ e ∈ es, e.length = 1) (hK : K (.exact es) σ) : zj Try.prog zbU [.d (.slice es)] σ K := by
  refine zdu zdH.is rfl (fun _ => []) fun hl _ => zdH.goes ?_
  simp only [zdM, iN, bT, bF, eN, gF, gT, gFm, gTm, fl, nfl, gFl, gTl, il, cp, orC, anC, cA, bP, z1, z2, m1, List.map_cons, List.map_nil, zbl, zfm, zea, bnd, zfY, zA]
  refine ⟨rfl, trivial, by omega, by omega, by omega, he, ?_⟩
  simp only [zmo, zor, getL, zls, zdg, zbP]
  simpa using ⟨hl, hK⟩
theorem zok {σ : List zc} {a b : List UInt8} {K : AV → List zc → Prop} (hK : K (.d (.bool (a == b))) σ) : zj Try.prog zgx [.d (.slice (bcs a)), .d (.slice (bcs b))] σ K := by
  refine zla znV fun hl => ?_
  simp only [zjF, iN, bT, bF, eN, gF, gT, gFm, gTm, fl, nfl, gFl, gTl, il, cp, orC, anC, cA, bP, z1, z2, m1, List.map_cons, List.map_nil, zaj, zfm, zmb, zeU, zfb, zcr, zA]
  exact zlO (by simp [zfO, dmT, dm, dm1, zdg]) hl hK

def bva (bs : List UInt8) : List AV := bs.map fun b => .d (.int .u8 (b.toNat : Int))
def zec (bs : List UInt8) : List AV := bva bs ++ List.replicate (10 - bs.length) (.d (.int .u8 0))

theorem zmI {pre : List UInt8} {b : UInt8} (h : pre.length < 10) : zT (zec pre) pre.length [.d (.int .u8 (b.toNat : Int))] = zec (pre ++ [b]) := by
  simp only [zT, zec, bva, List.length_singleton]
  obtain ⟨m, hm⟩ : ∃ m, 10 - pre.length = m + 1 := ⟨9 - pre.length, by omega⟩
  rw [hm, List.take_left' (by simp), List.drop_append]
  simp only [List.length_map]
  rw [List.drop_eq_nil_of_le (by simp), show pre.length + 1 - pre.length = 1 by omega, List.replicate_succ]
  simp [List.length_append, show 10 - (pre.length + 1) = m by omega]

theorem byte_or (m : Nat) : IntKind.u8.wrap ↑(BitVec.ofInt IntKind.u8.bits (IntKind.u8.wrap (m : Int)) ||| BitVec.ofInt IntKind.u8.bits 128).toNat = ((UInt8.ofNat (m % 128 + 128)).toNat : Int) := by
  rw [wrap8 m, show IntKind.u8.bits = 8 from rfl, or128 ⟨m % 256, by omega⟩, wrap8_lt (by simp; omega), zkl (by omega)]
  simp
theorem byte_wrap {m : Nat} (h : m < 128) : IntKind.u8.wrap (m : Int) = ((UInt8.ofNat m).toNat : Int) := by
  rw [wrap8_lt (by omega), zkl (by omega)]
theorem shr7 (m : Nat) : ((m : Int)).fdiv (2 ^ min 7 IntKind.u64.bits) = ((m / 128 : Nat) : Int) := by
  rw [show min 7 IntKind.u64.bits = 7 from rfl, Int.fdiv_eq_ediv_of_nonneg _ (by decide)]
  rfl
theorem zjf {pre : List UInt8} (h : pre.length ≤ 10) : (zec pre).length = 10 := by simp [zec, bva]; omega
theorem pad10_sc (pre : List UInt8) : (zec pre).all sc = true := by
  simp only [zec, bva, List.all_append, List.all_map, List.all_replicate, Bool.and_eq_true]
  refine ⟨by simp [sc], ?_⟩
  cases 10 - pre.length <;> simp [sc]

theorem pad10_d (pre : List UInt8) : zec pre = ((pre.map fun b => D.int .u8 (b.toNat : Int)) ++ List.replicate (10 - pre.length) (D.int .u8 0)).map AV.d := by
  simp [zec, bva, Function.comp_def]
theorem gq5 {P Q : Prop} (h : Q) (e : P = Q := by simp -dsimp only [↓ziv, ↓zbi, ↓zcW, ↓zix, ↓zio, ↓zim, ↓ziq, ↓zin, ↓zdb, ↓zcX, ↓zdc, ↓zcY, ↓zir, ↓zcU, ↓zdd, ↓zcZ, ↓zde, ↓zda, ↓zil, ↓ziu, ↓zcS, ↓zdf, ↓zia, ↓zhZ, ↓zij, iN, bT, bF, eN, ↓zeU, ↓unC, ↓zah, ↓zR, ↓zS, ↓zad, ↓zaG, ↓zbl, ↓zea, ↓zaj, ↓zcA, ↓zau, ↓zu, ↓zo, ↓zcT, ↓zi, ↓zax, ↓zac, ↓zbm, ↓zbg, ↓zd, ↓zK, ↓zq, ↓zJ, ↓zaI, ↓zeE, ↓zfi, ↓zat, ↓zaW, ↓zaY, ↓zbC, ↓zck, ↓zG, ↓zaA, ↓zQ, ↓zF, ↓zaE, zfb, zcF, zcr, unA, zfm, bnd, zfY, zap, zaw, zfQ, dm, dm1, zA, zaT, zgP, zgO, zZ, Q0, Q1, Q2, Q3, Q4, Q5, zaD, zI, zr, zav, zW, Q6, Q7, Q8, Q9, Q10, Q11, Q12, Q13, Q14, Nat.reduceAdd, Q15, Int.reduceToNat, Q16, Q17, Q18, Q19, Q20, reduceIte, Q21, Q22]; rfl) : P := e.mpr h
theorem gq6 {A P Q : Prop} (a : A) (h : Q) (e : A → P = Q := by intro a; simp -dsimp only [↓ziv, ↓zbi, ↓zcW, ↓zix, ↓zio, ↓zim, ↓ziq, ↓zin, ↓zdb, ↓zcX, ↓zdc, ↓zcY, ↓zir, ↓zcU, ↓zdd, ↓zcZ, ↓zde, ↓zda, ↓zil, ↓ziu, ↓zcS, ↓zdf, ↓zia, ↓zhZ, ↓zij, iN, bT, bF, eN, ↓zeU, ↓unC, ↓zah, ↓zR, ↓zS, ↓zad, ↓zaG, ↓zbl, ↓zea, ↓zaj, ↓zcA, ↓zau, ↓zu, ↓zo, ↓zcT, ↓zi, ↓zax, ↓zac, ↓zbm, ↓zbg, ↓zd, ↓zK, ↓zq, ↓zJ, ↓zaI, ↓zeE, ↓zfi, ↓zat, ↓zaW, ↓zaY, ↓zbC, ↓zck, ↓zG, ↓zaA, ↓zQ, ↓zF, ↓zaE, zfb, zcF, zcr, unA, zfm, bnd, zfY, zap, zaw, zfQ, dm, dm1, zA, zaT, zgP, zgO, zZ, Q0, Q1, Q2, Q3, Q4, Q5, zaD, zI, zr, zav, zW, Q6, Q7, Q8, Q9, Q10, Q11, Q12, Q13, Q14, Nat.reduceAdd, Q15, Int.reduceToNat, Q16, Q17, Q18, Q19, Q20, reduceIte, Q21, Q22, a]; rfl) : P := (e a).mpr h
theorem c_form {σ : List zc} {n : Nat} (hn : n < 18446744073709551616) {K : AV → List zc → Prop} (hK : K (.tup [.agg (zec (zbB n)), .d (.int .i64 (zbB n).length)]) σ) : zj Try.prog zhb [.d (.int .u64 n)] σ K := by
  refine zhr e_codec_form fun hl => ?_
  simp only [zkL, iN, bT, bF, eN, zau]
  have hlen := zk hn
  refine zV 10 (fun k vs s => ∃ (m : Nat) (pre : List UInt8), k = pre.length ∧ vs = [.d (.int .u64 m), .d (.int .i64 k)] ∧ zbB n = pre ++ zbB m ∧ m < 18446744073709551616 ∧
      s = σ ++ [.box (zec []), .box (zec pre)]) ⟨n, [], rfl, rfl, rfl, hn, by simp [zec, bva]⟩ ?_
  rintro k vs s hk ⟨m, pre, rfl, rfl, hpre, hm, rfl⟩
  have hm10 := zk hm
  have hpl : pre.length + (zbB m).length ≤ 10 := by rw [hpre] at hlen; simpa using hlen.2
  have hp : pre.length < 10 := by omega
  (refine gq5 ?_; try with_reducible exact True.intro)
  refine zbf (fun h => ?_) (fun h => ?_)
  all_goals (try (refine gq6 h ?_; try with_reducible exact True.intro))
  · have h1 : ¬ m < 128 := by simp at h; omega
    have h2 := numB_big h1
    rw [h2] at hpl
    simp at hpl
    rw [byte_or, shr7, zmI hp]
    refine ⟨by omega, by omega, by have := zjf (pre := pre) (by omega); omega, by simp [sc], by omega, ?_⟩
    refine zcd.next (by omega) ⟨m / 128, pre ++ [UInt8.ofNat (m % 128 + 128)], by simp, ?_, by rw [hpre, h2]; simp, by omega, rfl⟩
    rw [zbJ (by omega) (by omega)]
    rfl
  · have h1 : m < 128 := by simp at h; omega
    have h2 := zjX h1
    rw [byte_wrap h1, zmI hp]
    have hp1 : (zec (pre ++ [UInt8.ofNat m])).length = 10 := zjf (by simp; omega)
    have hsp : zT (zec []) 0 (zec (pre ++ [UInt8.ofNat m])) = zec (pre ++ [UInt8.ofNat m]) := by
      simp only [zT, Nat.zero_add, List.take_zero, List.nil_append]
      rw [hp1, List.drop_eq_nil_of_le (by simp [zec, bva]), List.append_nil]
    have htk : List.take 10 (List.drop 0 (zec (pre ++ [UInt8.ofNat m]))) = zec (pre ++ [UInt8.ofNat m]) := by
      rw [List.drop_zero, List.take_of_length_le (by omega)]
    rw [htk, hsp, htk, if_pos (by omega)]
    refine ⟨by omega, by omega, by have := zjf (pre := pre) (by omega); omega, by simp [sc], by omega, by omega, by simp [zec, bva], pad10_sc _, ?_⟩
    have hd : dmT (zdg [.agg (zec (pre ++ [UInt8.ofNat m])), .d (.int .i64 (IntKind.i64.wrap (↑pre.length + 1)))]) = .tup [.agg (zec (pre ++ [UInt8.ofNat m])), .d (.int .i64 (zbB n).length)] := by
      rw [zbJ (by omega) (by omega), hpre, h2]
      simp only [zdg, dmT, List.map_cons, List.map_nil, dm, pad10_d, map_dm1_d, dm1]
      rw [List.length_append]; rfl
    refine zke ?_ hl ?_
    · rw [hd, pad10_d, zhv]
      intro c hc
      rcases List.mem_cons.1 hc with rfl | hc
      · exact .agg _ (low_map_d _ _)
      · have hc := List.mem_singleton.1 hc
        subst hc; exact .d _
    · rw [hd]; rw [hpre, h2] at hK ⊢; exact hK

theorem toDs_bva (bs : List UInt8) (r : List AV) (ds : List D) (h : zgN r = some ds) : zgN (bva bs ++ r) = some ((bs.map fun b => D.int .u8 (b.toNat : Int)) ++ ds) := by
  induction bs with
  | nil => simpa [bva] using h
  | cons b bs ih => simp only [bva, List.map_cons, List.cons_append, zgN, toD] at ih ⊢; rw [ih]
theorem chunks1 (bs : List UInt8) : zan 1 bs.length (bs.map fun b => D.int .u8 (b.toNat : Int)) = bcs bs := by
  induction bs with
  | nil => rfl
  | cons b bs ih => simp only [List.length_cons, List.map_cons, zan, bcs, List.take_succ_cons, List.take_zero, List.drop_succ_cons, List.drop_zero] at ih ⊢; rw [ih]; rfl

theorem zcG {σ : List zc} {b : List UInt8} {n : Nat} (hn : n < 18446744073709551616) (hb : b.length ≤ 1073741824) {K : AV → List zc → Prop} (hK : K (.own σ.length (bcs (b ++ zbB n))) (σ ++ [.tok 1 (b ++ zbB n).length])) :
    zj Try.prog zp [.d (.slice (bcs b)), .d (.int .u64 n)] σ K := by
  refine zdu zis.is rfl (fun s => [σ.length + 1]) fun hl _ => zis.goes ?_
  have hlen := zk hn
  simp only [ziz, iN, bT, bF, eN, gF, gT, gFm, gTm, fl, nfl, gFl, gTl, il, cp, orC, anC, cA, bP, z1, z2, m1, List.map_cons, List.map_nil]
  simp only [dm, dm1]
  refine c_form hn ?_
  have hp := zjf hlen.2
  have hsp : zT (List.replicate 10 (AV.d (D.int .u8 0))) 0 (zec (zbB n)) = zec (zbB n) := by
    simp only [zT, Nat.zero_add, List.take_zero, List.nil_append]
    rw [hp, List.drop_eq_nil_of_le (by simp), List.append_nil]
  have hrep : [AV.d (D.int .u8 0), .d (.int .u8 0), .d (.int .u8 0), .d (.int .u8 0), .d (.int .u8 0), .d (.int .u8 0), .d (.int .u8 0), .d (.int .u8 0), .d (.int .u8 0), .d (.int .u8 0)] = List.replicate 10 (AV.d (D.int .u8 0)) := rfl
  (refine gq5 ?_; try with_reducible exact True.intro)
  refine ⟨hp, by omega, pad10_sc _, by omega, by omega, by omega, by omega, ?_⟩
  refine zoh zfL ?_
  rw [hrep, hsp]
  (refine gq5 ?_; try with_reducible exact True.intro)
  have htk : zgN (List.take ((zbB n).length - Int.toNat 0) (List.drop (Int.toNat 0) (zec (zbB n)))) = some ((zbB n).map fun b => D.int .u8 (b.toNat : Int)) := by
    simp only [Int.toNat_zero, Nat.sub_zero, List.drop_zero]
    rw [zec, List.take_left' (by simp [bva])]
    have := toDs_bva (zbB n) [] [] rfl
    simpa using this
  simp only [Int.toNat_zero] at htk
  rw [htk, if_pos (by omega), Nat.sub_zero]
  simp only [Option.map_some, chunks1]
  refine ⟨zfL, zfL, by simp [bcs]; omega, ?_⟩
  rw [zni]
  refine endsK_own rfl hl (by omega) (by rw [zI]; rfl) ?_
  simpa [bcs] using hK

theorem gq7 {P Q : Prop} (h : Q) (e : P = Q := by simp -dsimp only [↓ziv, ↓zbi, ↓zcW, ↓zix, ↓zio, ↓zim, ↓ziq, ↓zin, ↓zdb, ↓zcX, ↓zdc, ↓zcY, ↓zir, ↓zcU, ↓zdd, ↓zcZ, ↓zde, ↓zda, ↓zil, ↓ziu, ↓zcS, ↓zdf, ↓zia, ↓zhZ, ↓zij, iN, bT, bF, eN, ↓zeU, ↓unC, ↓zah, ↓zR, ↓zS, ↓zad, ↓zaG, ↓zbl, ↓zea, ↓zaj, ↓zcA, ↓zau, ↓zu, ↓zo, ↓zcT, ↓zi, ↓zax, ↓zac, ↓zbm, ↓zbg, ↓zd, ↓zK, ↓zq, ↓zJ, ↓zaI, ↓zeE, ↓zfi, ↓zat, ↓zaW, ↓zaY, ↓zbC, ↓zck, ↓zG, ↓zaA, ↓zQ, ↓zF, ↓zaE, zfb, zcF, zcr, unA, zfm, bnd, zfY, zap, zaw, zfQ, dm, dm1, zA, zaT, zgP, zgO, zZ, Q0, Q1, Q2, Q3, Q4, Q5, zaD, zI, zr, zav, zW, Q6, Q7, Q8, Q9, Q10, Q11, Q12, Q13, Q14, Nat.reduceAdd, Q15, Int.reduceToNat, Q16, Q17, Q18, Q19, Q20, reduceIte, Q21, Q22, zgM]; rfl) : P := e.mpr h
theorem zfa {σ : List zc} {b x : List UInt8} (hx : x.length ≤ 1073741824) (hb : b.length ≤ 1073741800) {K : AV → List zc → Prop} (hK : K (.own σ.length (bcs (b ++ (zbB x.length ++ x)))) (σ ++ [.tok 1 (b ++ (zbB x.length ++ x)).length])) :
    zj Try.prog zaa [.d (.slice (bcs b)), .d (.slice (bcs x))] σ K := by
  refine zdu zgH.is rfl (fun s => [σ.length]) fun hl _ => zgH.goes ?_
  have hlen := zk (n := x.length) (by omega)
  (refine gq7 ?_; try with_reducible exact True.intro)
  have hw : IntKind.u64.wrap ((bcs x).length : Int) = (x.length : Int) := by rw [zcp (by simp [bcs]; omega)]; simp [bcs]
  rw [hw]
  refine zcG (by omega) (by omega) ?_
  (refine gq5 ?_; try with_reducible exact True.intro)
  refine ⟨zfL, by simp [bcs]; omega, by simp [bcs], ?_⟩
  rw [zni]
  simp only [List.append_assoc]
  refine zgc hl rfl ?_
  simpa [bcs, Nat.add_assoc] using hK

end Go.Proofs.Ythpnelbciibjeaa
