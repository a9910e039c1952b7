/- Contracts of the small functions over bytes. -/
import Derived.Test.YtaocmalhjfakdaaGreatSh
import Derived.Test.YtaocmalhjfakdaaGreatAwEnd
import Derived.Test.YtaocmalhjfakdaaGreatCl1
import Derived.Test.YtaocmalhjfakdaaGreatSpNum
set_option linter.all false
set_option maxRecDepth 100000
set_option linter.unusedSimpArgs false
namespace Go.Proofs.YtaocmalhjfakdaaGreat
open Go.AW

theorem zps {σ : List zc} {es : List (List D)} {K : KT} (he : ∀ e ∈ es, e.length = 1) (hK : K (.exact es) σ) : zn Tryz.prog zcO [.d (.slice es)] σ K := by
  refine zdy zeu.is rfl (fun _ => []) fun hl _ => zeu.goes ?_
  simp only [zez, iN, bT, bF, eN, gF, gT, gFm, gTm, fl, nfl, gFl, gTl, il, cp, orC, anC, cA, bP, z1, z2, m1, List.map_cons, List.map_nil, zbe, zeV, zdk, bnd, zfP, zp]
  refine ⟨rfl, trivial, by omega, by omega, by omega, he, ?_⟩
  simp only [znW, znV, getL, zmS, zcJ, zcm]
  simpa using ⟨hl, hK⟩
theorem zew {σ : List zc} {a b : List UInt8} {K : KT} (hK : K (.d (.bool (a == b))) σ) : zn Tryz.prog zcP [.d (.slice (bcs a)), .d (.slice (bcs b))] σ K := by
  refine znT zpl fun hl => ?_
  simp only [zlg, iN, bT, bF, eN, gF, gT, gFm, gTm, fl, nfl, gFl, gTl, il, cp, orC, anC, cA, bP, z1, z2, m1, List.map_cons, List.map_nil, zaa, zeV, zkh, zea, zeH, zcf, zp]
  exact zeW (by simp [zeB, dmT, dm, dm1, zcJ]) hl hK
theorem zjC {σ : List zc} {es : List (List D)} {K : KT} (he : ∀ e ∈ es, e.length = 1) (hn : es.length ≤ 1073741824) (hK : K (.own σ.length es) (σ ++ [.tok 1 es.length])) : zn Tryz.prog zbD [.d (.slice es)] σ K := by
  refine zn.tok he ?_ hK
  refine zdy zdY.is rfl (fun s => if s.length = σ.length then [] else [σ.length]) fun hl _ => zdY.goes ?_
  simp only [zec, iN, bT, bF, eN, gF, gT, gFm, gTm, fl, nfl, gFl, gTl, il, cp, orC, anC, cA, bP, z1, z2, m1, List.map_cons, List.map_nil, zaA, zeV]
  cases es with
  | nil =>
    refine ⟨?_, ?_⟩
    · simp only [zad, zL, zp]
      exact znp (by simp) hl rfl (by simp)
    · simp only [zad, zA, zp, zX, rep, zq, zgT, zao, zr, zft]
      refine ⟨by simp, by simp, by simp, ?_⟩
      exact zeX hl (by simp) (by simp)
  | cons e es =>
    simp only [zad, zA, zp, zX, rep, zq, zgT, zao, zr, zft]
    refine ⟨he, by simp, by simp at hn ⊢; omega, ?_⟩
    exact zeX hl (by simp) (by simp)

def bva (bs : List UInt8) : List AV := bs.map fun b => .d (.int .u8 (b.toNat : Int))
def zeP (bs : List UInt8) : List AV := bva bs ++ List.replicate (10 - bs.length) (.d (.int .u8 0))

theorem zob {pre : List UInt8} {b : UInt8} (h : pre.length < 10) : zab (zeP pre) pre.length [.d (.int .u8 (b.toNat : Int))] = zeP (pre ++ [b]) := by
  simp only [zab, zeP, bva, List.length_singleton]
  obtain ⟨m, hm⟩ : ∃ m, 10 - pre.length = m + 1 := ⟨9 - pre.length, by omega⟩
  rw [hm, List.take_left' (by simp), List.drop_append]
  simp only [List.length_map]
  rw [List.drop_eq_nil_of_le (by simp), show pre.length + 1 - pre.length = 1 by omega, List.replicate_succ]
  simp [List.length_append, show 10 - (pre.length + 1) = m by omega]

theorem byte_or (m : Nat) : IntKind.u8.wrap ↑(BitVec.ofInt IntKind.u8.bits (IntKind.u8.wrap (m : Int)) ||| BitVec.ofInt IntKind.u8.bits 128).toNat = ((UInt8.ofNat (m % 128 + 128)).toNat : Int) := by
  rw [wrap8 m, show IntKind.u8.bits = 8 from rfl, or128 ⟨m % 256, by omega⟩, zkl (by simp; omega), zjm (by omega)]
  simp
theorem byte_wrap {m : Nat} (h : m < 128) : IntKind.u8.wrap (m : Int) = ((UInt8.ofNat m).toNat : Int) := by
  rw [zkl (by omega), zjm (by omega)]
theorem shr7 (m : Nat) : ((m : Int)).fdiv (2 ^ min 7 IntKind.u64.bits) = ((m / 128 : Nat) : Int) := by
  rw [show min 7 IntKind.u64.bits = 7 from rfl, Int.fdiv_eq_ediv_of_nonneg _ (by decide)]
  rfl
theorem zky {pre : List UInt8} (h : pre.length ≤ 10) : (zeP pre).length = 10 := by simp [zeP, bva]; omega
theorem pad10_sc (pre : List UInt8) : (zeP pre).all sc = true := by
  simp only [zeP, bva, List.all_append, List.all_map, List.all_replicate, Bool.and_eq_true]
  refine ⟨by simp [sc], ?_⟩
  cases 10 - pre.length <;> simp [sc]

theorem pad10_d (pre : List UInt8) : zeP pre = ((pre.map fun b => D.int .u8 (b.toNat : Int)) ++ List.replicate (10 - pre.length) (D.int .u8 0)).map AV.d := by
  simp [zeP, bva, Function.comp_def]
theorem gq1 {P Q : Prop} (h : Q) (e : P = Q := by simp -dsimp only [↓zhB, ↓zbf, ↓zcv, ↓zhC, ↓zhx, ↓zhv, ↓zhy, ↓zhw, ↓zcA, ↓zcw, ↓zcB, ↓zcx, ↓zhz, ↓zcu, ↓zcC, ↓zcy, ↓zcD, ↓zcz, ↓zhu, ↓zhA, ↓zct, ↓zcE, ↓zhs, ↓zhr, ↓zht, iN, bT, bF, eN, ↓zea, ↓unC, ↓zad, ↓zN, ↓zO, ↓zU, ↓zaw, ↓zbe, ↓zdk, ↓zaa, ↓zcX, ↓zai, ↓zk, ↓zi, ↓zbE, ↓zh, ↓zar, ↓zC, ↓zbb, ↓zbp, ↓ze, ↓zy, ↓zq, ↓zr, ↓zaA, ↓zeC, ↓zeS, ↓zaI, ↓zaT, ↓zbd, ↓zbF, ↓zbU, ↓zx, ↓zav, ↓zL, ↓zA, ↓zau, zeH, zcn, zcf, unA, zeV, bnd, zfP, zah, zX, zft, dm, dm1, zp, zaG, zgx, zgw, zS, Q0, Q1, Q2, Q3, Q4, Q5, zap, zE, zj, zat, zP, Q6, Q7, Q8, Q9, Q10, Q11, Q12, Q13, Q14, Nat.reduceAdd, Q15, Int.reduceToNat, Q16, Q17, Q18, Q19, Q20, reduceIte, Q21, Q22]; rfl) : P := e.mpr h
theorem gq2 {A P Q : Prop} (a : A) (h : Q) (e : A → P = Q := by intro a; simp -dsimp only [↓zhB, ↓zbf, ↓zcv, ↓zhC, ↓zhx, ↓zhv, ↓zhy, ↓zhw, ↓zcA, ↓zcw, ↓zcB, ↓zcx, ↓zhz, ↓zcu, ↓zcC, ↓zcy, ↓zcD, ↓zcz, ↓zhu, ↓zhA, ↓zct, ↓zcE, ↓zhs, ↓zhr, ↓zht, iN, bT, bF, eN, ↓zea, ↓unC, ↓zad, ↓zN, ↓zO, ↓zU, ↓zaw, ↓zbe, ↓zdk, ↓zaa, ↓zcX, ↓zai, ↓zk, ↓zi, ↓zbE, ↓zh, ↓zar, ↓zC, ↓zbb, ↓zbp, ↓ze, ↓zy, ↓zq, ↓zr, ↓zaA, ↓zeC, ↓zeS, ↓zaI, ↓zaT, ↓zbd, ↓zbF, ↓zbU, ↓zx, ↓zav, ↓zL, ↓zA, ↓zau, zeH, zcn, zcf, unA, zeV, bnd, zfP, zah, zX, zft, dm, dm1, zp, zaG, zgx, zgw, zS, Q0, Q1, Q2, Q3, Q4, Q5, zap, zE, zj, zat, zP, Q6, Q7, Q8, Q9, Q10, Q11, Q12, Q13, Q14, Nat.reduceAdd, Q15, Int.reduceToNat, Q16, Q17, Q18, Q19, Q20, reduceIte, Q21, Q22, a]; rfl) : P := (e a).mpr h
theorem c_form {σ : List zc} {n : Nat} (hn : n < 18446744073709551616) {K : KT} (hK : K (.tup [.agg (zeP (zbQ n)), .d (.int .i64 (zbQ n).length)]) σ) : zn Tryz.prog ziu [.d (.int .u64 n)] σ K := by
  refine zmx e_codec_form fun hl => ?_
  simp only [zmn, iN, bT, bF, eN, zai]
  have hlen := zZ hn
  refine zF 10 (fun k vs s => ∃ (m : Nat) (pre : List UInt8), k = pre.length ∧ vs = [.d (.int .u64 m), .d (.int .i64 k)] ∧ zbQ n = pre ++ zbQ m ∧ m < 18446744073709551616 ∧
      s = σ ++ [.box (zeP []), .box (zeP pre)]) ⟨n, [], rfl, rfl, rfl, hn, by simp [zeP, bva]⟩ ?_
  rintro k vs s hk ⟨m, pre, rfl, rfl, hpre, hm, rfl⟩
  have hm10 := zZ hm
  have hpl : pre.length + (zbQ m).length ≤ 10 := by rw [hpre] at hlen; simpa using hlen.2
  have hp : pre.length < 10 := by omega
  (refine gq1 ?_; try with_reducible exact True.intro)
  refine zM (fun h => ?_) (fun h => ?_)
  all_goals (try (refine gq2 h ?_; try with_reducible exact True.intro))
  · have h1 : ¬ m < 128 := by simp at h; omega
    have h2 := zkB h1
    rw [h2] at hpl
    simp at hpl
    rw [byte_or, shr7, zob hp]
    refine ⟨by omega, by omega, by have := zky (pre := pre) (by omega); omega, by simp [sc], by omega, ?_⟩
    refine zbC.next (by omega) ⟨m / 128, pre ++ [UInt8.ofNat (m % 128 + 128)], by simp, ?_, by rw [hpre, h2]; simp, by omega, rfl⟩
    rw [zam (by omega) (by omega)]
    rfl
  · have h1 : m < 128 := by simp at h; omega
    have h2 := zfX h1
    rw [byte_wrap h1, zob hp]
    have hp1 : (zeP (pre ++ [UInt8.ofNat m])).length = 10 := zky (by simp; omega)
    have hsp : zab (zeP []) 0 (zeP (pre ++ [UInt8.ofNat m])) = zeP (pre ++ [UInt8.ofNat m]) := by
      simp only [zab, Nat.zero_add, List.take_zero, List.nil_append]
      rw [hp1, List.drop_eq_nil_of_le (by simp [zeP, bva]), List.append_nil]
    have htk : List.take 10 (List.drop 0 (zeP (pre ++ [UInt8.ofNat m]))) = zeP (pre ++ [UInt8.ofNat m]) := by
      rw [List.drop_zero, List.take_of_length_le (by omega)]
    rw [htk, hsp, htk, if_pos (by omega)]
    refine ⟨by omega, by omega, by have := zky (pre := pre) (by omega); omega, by simp [sc], by omega, by omega, by simp [zeP, bva], pad10_sc _, ?_⟩
    have hd : dmT (zcJ [.agg (zeP (pre ++ [UInt8.ofNat m])), .d (.int .i64 (IntKind.i64.wrap (↑pre.length + 1)))]) = .tup [.agg (zeP (pre ++ [UInt8.ofNat m])), .d (.int .i64 (zbQ n).length)] := by
      rw [zam (by omega) (by omega), hpre, h2]
      simp only [zcJ, dmT, List.map_cons, List.map_nil, dm, pad10_d, map_dm1_d, dm1]
      rw [List.length_append]; rfl
    refine zlC ?_ hl ?_
    · rw [hd, pad10_d, ziS]
      intro c hc
      rcases List.mem_cons.1 hc with rfl | hc
      · exact .agg _ (low_map_d _ _)
      · have hc := List.mem_singleton.1 hc
        subst hc; exact .d _
    · rw [hd]; rw [hpre, h2] at hK ⊢; exact hK

theorem toDs_bva (bs : List UInt8) (r : List AV) (ds : List D) (h : zgT r = some ds) : zgT (bva bs ++ r) = some ((bs.map fun b => D.int .u8 (b.toNat : Int)) ++ ds) := by
  induction bs with
  | nil => simpa [bva] using h
  | cons b bs ih => simp only [bva, List.map_cons, List.cons_append, zgT, toD] at ih ⊢; rw [ih]
theorem chunks1 (bs : List UInt8) : zao 1 bs.length (bs.map fun b => D.int .u8 (b.toNat : Int)) = bcs bs := by
  induction bs with
  | nil => rfl
  | cons b bs ih => simp only [List.length_cons, List.map_cons, zao, bcs, List.take_succ_cons, List.take_zero, List.drop_succ_cons, List.drop_zero] at ih ⊢; rw [ih]; rfl

theorem c_PutNum {σ : List zc} {b : List UInt8} {n : Nat} (hn : n < 18446744073709551616) (hb : b.length ≤ 1073741824) {K : KT} (hK : K (.own σ.length (bcs (b ++ zbQ n))) (σ ++ [.tok 1 (b ++ zbQ n).length])) :
    zn Tryz.prog zaF [.d (.slice (bcs b)), .d (.int .u64 n)] σ K := by
  refine zdy zjB.is rfl (fun s => [σ.length + 1]) fun hl _ => zjB.goes ?_
  have hlen := zZ hn
  simp only [zjF, iN, bT, bF, eN, gF, gT, gFm, gTm, fl, nfl, gFl, gTl, il, cp, orC, anC, cA, bP, z1, z2, m1, List.map_cons, List.map_nil]
  simp only [dm, dm1]
  refine c_form hn ?_
  have hp := zky hlen.2
  have hsp : zab (List.replicate 10 (AV.d (D.int .u8 0))) 0 (zeP (zbQ n)) = zeP (zbQ n) := by
    simp only [zab, Nat.zero_add, List.take_zero, List.nil_append]
    rw [hp, List.drop_eq_nil_of_le (by simp), List.append_nil]
  have hrep : [AV.d (D.int .u8 0), .d (.int .u8 0), .d (.int .u8 0), .d (.int .u8 0), .d (.int .u8 0), .d (.int .u8 0), .d (.int .u8 0), .d (.int .u8 0), .d (.int .u8 0), .d (.int .u8 0)] = List.replicate 10 (AV.d (D.int .u8 0)) := rfl
  (refine gq1 ?_; try with_reducible exact True.intro)
  refine ⟨hp, by omega, pad10_sc _, by omega, by omega, by omega, by omega, ?_⟩
  refine zps zdh ?_
  rw [hrep, hsp]
  (refine gq1 ?_; try with_reducible exact True.intro)
  have htk : zgT (List.take ((zbQ n).length - Int.toNat 0) (List.drop (Int.toNat 0) (zeP (zbQ n)))) = some ((zbQ n).map fun b => D.int .u8 (b.toNat : Int)) := by
    simp only [Int.toNat_zero, Nat.sub_zero, List.drop_zero]
    rw [zeP, List.take_left' (by simp [bva])]
    have := toDs_bva (zbQ n) [] [] rfl
    simpa using this
  simp only [Int.toNat_zero] at htk
  rw [htk, if_pos (by omega), Nat.sub_zero]
  simp only [Option.map_some, chunks1]
  refine ⟨zdh, zdh, by simp [bcs]; omega, ?_⟩
  rw [zlO]
  refine endsK_own rfl hl (by omega) (by rw [zE]; rfl) ?_
  simpa [bcs] using hK

theorem gq3 {P Q : Prop} (h : Q) (e : P = Q := by simp -dsimp only [↓zhB, ↓zbf, ↓zcv, ↓zhC, ↓zhx, ↓zhv, ↓zhy, ↓zhw, ↓zcA, ↓zcw, ↓zcB, ↓zcx, ↓zhz, ↓zcu, ↓zcC, ↓zcy, ↓zcD, ↓zcz, ↓zhu, ↓zhA, ↓zct, ↓zcE, ↓zhs, ↓zhr, ↓zht, iN, bT, bF, eN, ↓zea, ↓unC, ↓zad, ↓zN, ↓zO, ↓zU, ↓zaw, ↓zbe, ↓zdk, ↓zaa, ↓zcX, ↓zai, ↓zk, ↓zi, ↓zbE, ↓zh, ↓zar, ↓zC, ↓zbb, ↓zbp, ↓ze, ↓zy, ↓zq, ↓zr, ↓zaA, ↓zeC, ↓zeS, ↓zaI, ↓zaT, ↓zbd, ↓zbF, ↓zbU, ↓zx, ↓zav, ↓zL, ↓zA, ↓zau, zeH, zcn, zcf, unA, zeV, bnd, zfP, zah, zX, zft, dm, dm1, zp, zaG, zgx, zgw, zS, Q0, Q1, Q2, Q3, Q4, Q5, zap, zE, zj, zat, zP, Q6, Q7, Q8, Q9, Q10, Q11, Q12, Q13, Q14, Nat.reduceAdd, Q15, Int.reduceToNat, Q16, Q17, Q18, Q19, Q20, reduceIte, Q21, Q22, zia]; rfl) : P := e.mpr h
theorem c_PutBytes {σ : List zc} {b x : List UInt8} (hx : x.length ≤ 1073741824) (hb : b.length ≤ 1073741800) {K : KT} (hK : K (.own σ.length (bcs (b ++ (zbQ x.length ++ x)))) (σ ++ [.tok 1 (b ++ (zbQ x.length ++ x)).length])) :
    zn Tryz.prog zbV [.d (.slice (bcs b)), .d (.slice (bcs x))] σ K := by
  refine zdy zhT.is rfl (fun s => [σ.length]) fun hl _ => zhT.goes ?_
  have hlen := zZ (n := x.length) (by omega)
  (refine gq3 ?_; try with_reducible exact True.intro)
  have hw : IntKind.u64.wrap ((bcs x).length : Int) = (x.length : Int) := by rw [zcH (by simp [bcs]; omega)]; simp [bcs]
  rw [hw]
  refine c_PutNum (by omega) (by omega) ?_
  (refine gq1 ?_; try with_reducible exact True.intro)
  refine ⟨zdh, by simp [bcs]; omega, by simp [bcs], ?_⟩
  rw [zlO]
  simp only [List.append_assoc]
  refine zeX hl rfl ?_
  simpa [bcs, Nat.add_assoc] using hK

theorem div128 {m : Nat} (h : m < 18446744073709551616) : IntKind.u64.wrap ((m : Int).tdiv 128) = ((m / 128 : Nat) : Int) := by
  rw [show ((m : Int).tdiv 128) = ((m / 128 : Nat) : Int) from by rw [Int.tdiv_eq_ediv_of_nonneg (by omega)]; rfl, zcH (by omega)]
theorem rem128 (m : Nat) : (m : Int).tmod 128 = ((m % 128 : Nat) : Int) := by
  rw [Int.tmod_eq_emod_of_nonneg (by omega)]; rfl

theorem gq4 {P Q : Prop} (h : Q) (e : P = Q := by simp -dsimp only [↓zhB, ↓zbf, ↓zcv, ↓zhC, ↓zhx, ↓zhv, ↓zhy, ↓zhw, ↓zcA, ↓zcw, ↓zcB, ↓zcx, ↓zhz, ↓zcu, ↓zcC, ↓zcy, ↓zcD, ↓zcz, ↓zhu, ↓zhA, ↓zct, ↓zcE, ↓zhs, ↓zhr, ↓zht, iN, bT, bF, eN, ↓zea, ↓unC, ↓zad, ↓zN, ↓zO, ↓zU, ↓zaw, ↓zbe, ↓zdk, ↓zaa, ↓zcX, ↓zai, ↓zk, ↓zi, ↓zbE, ↓zh, ↓zar, ↓zC, ↓zbb, ↓zbp, ↓ze, ↓zy, ↓zq, ↓zr, ↓zaA, ↓zeC, ↓zeS, ↓zaI, ↓zaT, ↓zbd, ↓zbF, ↓zbU, ↓zx, ↓zav, ↓zL, ↓zA, ↓zau, zeH, zcn, zcf, unA, zeV, bnd, zfP, zah, zX, zft, dm, dm1, zp, zaG, zgx, zgw, zS, Q0, Q1, Q2, Q3, Q4, Q5, zap, zE, zj, zat, zP, Q6, Q7, Q8, Q9, Q10, Q11, Q12, Q13, Q14, Nat.reduceAdd, Q15, Int.reduceToNat, Q16, Q17, Q18, Q19, Q20, reduceIte, Q21, Q22, zml]; rfl) : P := e.mpr h
theorem gq5 {P Q : Prop} (h : Q) (e : P = Q := by simp -dsimp only [↓zhB, ↓zbf, ↓zcv, ↓zhC, ↓zhx, ↓zhv, ↓zhy, ↓zhw, ↓zcA, ↓zcw, ↓zcB, ↓zcx, ↓zhz, ↓zcu, ↓zcC, ↓zcy, ↓zcD, ↓zcz, ↓zhu, ↓zhA, ↓zct, ↓zcE, ↓zhs, ↓zhr, ↓zht, iN, bT, bF, eN, ↓zea, ↓unC, ↓zad, ↓zN, ↓zO, ↓zU, ↓zaw, ↓zbe, ↓zdk, ↓zaa, ↓zcX, ↓zai, ↓zk, ↓zi, ↓zbE, ↓zh, ↓zar, ↓zC, ↓zbb, ↓zbp, ↓ze, ↓zy, ↓zq, ↓zr, ↓zaA, ↓zeC, ↓zeS, ↓zaI, ↓zaT, ↓zbd, ↓zbF, ↓zbU, ↓zx, ↓zav, ↓zL, ↓zA, ↓zau, zeH, zcn, zcf, unA, zeV, bnd, zfP, zah, zX, zft, dm, dm1, zp, zaG, zgx, zgw, zS, Q0, Q1, Q2, Q3, Q4, Q5, zap, zE, zj, zat, zP, Q6, Q7, Q8, Q9, Q10, Q11, Q12, Q13, Q14, Nat.reduceAdd, Q15, Int.reduceToNat, Q16, Q17, Q18, Q19, Q20, reduceIte, Q21, Q22, rep, zab, zgT, toD, zao, Q23, Q24, Q25, Q26, Q27, Q28, Nat.reduceLeDiff, Q29, Nat.reduceSub, Q30, Q31, Q32, sc, Q33, Q34, Q35]; rfl) : P := e.mpr h
theorem c_rPutNum {σ : List zc} {b : List UInt8} {n : Nat} (hn : n < 18446744073709551616) (hb : b.length ≤ 1073741824) {K : KT} (hK : K (.own σ.length (bcs (b ++ zbQ n))) (σ ++ [.tok 1 (b ++ zbQ n).length])) :
    zn Tryz.prog zgC [.d (.slice (bcs b)), .d (.int .u64 n)] σ K := by
  refine zdy zme.is rfl (fun s => [σ.length]) fun hl _ => zme.goes ?_
  have hlen := zZ hn
  (refine gq4 ?_; try with_reducible exact True.intro)
  refine ⟨zdh, by simp, by simp [bcs]; omega, ?_⟩
  refine zF 10 (fun k vs s => ∃ (m : Nat) (pre : List UInt8), k = pre.length ∧ vs = [.d (.int .u64 m), .own σ.length (bcs (b ++ pre))] ∧ zbQ n = pre ++ zbQ m ∧ m < 18446744073709551616 ∧
      s = σ ++ [.tok 1 (b ++ pre).length]) ⟨n, [], rfl, by simp, rfl, hn, by simp [bcs]⟩ ?_
  rintro k vs s hk ⟨m, pre, rfl, rfl, hpre, hm, rfl⟩
  have hm10 := zZ hm
  have hpl : pre.length + (zbQ m).length ≤ 10 := by rw [hpre] at hlen; simpa using hlen.2
  (refine gq1 ?_; try with_reducible exact True.intro)
  refine zM (fun h => ?_) (fun h => ?_)
  all_goals (try (refine gq2 h ?_; try with_reducible exact True.intro))
  · have h1 : ¬ m < 128 := by simp at h; omega
    have h2 := zkB h1
    rw [h2] at hpl
    simp at hpl
    have hc : IntKind.u8.wrap (IntKind.u8.wrap ((m : Int).tmod 128) + 128) = ((UInt8.ofNat (m % 128 + 128)).toNat : Int) := by
      rw [rem128, zkl (by omega), zjm (by omega), show ((m % 128 : Nat) : Int) + 128 = ((m % 128 + 128 : Nat) : Int) from rfl]
      exact zkl (by omega)
    (refine gq5 ?_; try with_reducible exact True.intro)
    rw [hc, div128 hm]
    refine ⟨by decide, by simp, by simp [bcs]; omega, by simp [bcs], by decide, ?_⟩
    refine zbC.next (by omega) ⟨m / 128, pre ++ [UInt8.ofNat (m % 128 + 128)], by simp, ?_, by rw [hpre, h2]; simp, by omega, ?_⟩
    · simp [bcs, zbx]
    · simp [bcs, Nat.add_assoc]
  · have h1 : m < 128 := by simp at h; omega
    have h2 := zfX h1
    (refine gq5 ?_; try with_reducible exact True.intro)
    rw [byte_wrap h1]
    refine ⟨by simp, by simp [bcs]; omega, by simp [bcs], ?_⟩
    rw [hpre, h2] at hK
    have e : bcs (b ++ pre) ++ [[D.int .u8 ((UInt8.ofNat m).toNat : Int)]] = bcs (b ++ (pre ++ [UInt8.ofNat m])) := by simp [bcs, zbx]
    rw [e]
    refine zeX hl rfl ?_
    simpa [bcs, Nat.add_assoc] using hK
theorem gq6 {P Q : Prop} (h : Q) (e : P = Q := by simp -dsimp only [↓zhB, ↓zbf, ↓zcv, ↓zhC, ↓zhx, ↓zhv, ↓zhy, ↓zhw, ↓zcA, ↓zcw, ↓zcB, ↓zcx, ↓zhz, ↓zcu, ↓zcC, ↓zcy, ↓zcD, ↓zcz, ↓zhu, ↓zhA, ↓zct, ↓zcE, ↓zhs, ↓zhr, ↓zht, iN, bT, bF, eN, ↓zea, ↓unC, ↓zad, ↓zN, ↓zO, ↓zU, ↓zaw, ↓zbe, ↓zdk, ↓zaa, ↓zcX, ↓zai, ↓zk, ↓zi, ↓zbE, ↓zh, ↓zar, ↓zC, ↓zbb, ↓zbp, ↓ze, ↓zy, ↓zq, ↓zr, ↓zaA, ↓zeC, ↓zeS, ↓zaI, ↓zaT, ↓zbd, ↓zbF, ↓zbU, ↓zx, ↓zav, ↓zL, ↓zA, ↓zau, zeH, zcn, zcf, unA, zeV, bnd, zfP, zah, zX, zft, dm, dm1, zp, zaG, zgx, zgw, zS, Q0, Q1, Q2, Q3, Q4, Q5, zap, zE, zj, zat, zP, Q6, Q7, Q8, Q9, Q10, Q11, Q12, Q13, Q14, Nat.reduceAdd, Q15, Int.reduceToNat, Q16, Q17, Q18, Q19, Q20, reduceIte, Q21, Q22, zjE]; rfl) : P := e.mpr h
theorem c_rPutBytes {σ : List zc} {b x : List UInt8} (hx : x.length ≤ 1073741824) (hb : b.length ≤ 1073741800) {K : KT} (hK : K (.own σ.length (bcs (b ++ (zbQ x.length ++ x)))) (σ ++ [.tok 1 (b ++ (zbQ x.length ++ x)).length])) :
    zn Tryz.prog zda [.d (.slice (bcs b)), .d (.slice (bcs x))] σ K := by
  refine zdy zjA.is rfl (fun s => [σ.length]) fun hl _ => zjA.goes ?_
  have hlen := zZ (n := x.length) (by omega)
  (refine gq6 ?_; try with_reducible exact True.intro)
  have hw : IntKind.u64.wrap ((bcs x).length : Int) = (x.length : Int) := by rw [zcH (by simp [bcs]; omega)]; simp [bcs]
  rw [hw]
  refine c_rPutNum (by omega) (by omega) ?_
  (refine gq1 ?_; try with_reducible exact True.intro)
  refine ⟨zdh, by simp [bcs]; omega, by simp [bcs], ?_⟩
  rw [zlO]
  simp only [List.append_assoc]
  refine zeX hl rfl ?_
  simpa [bcs, Nat.add_assoc] using hK
end Go.Proofs.YtaocmalhjfakdaaGreat
