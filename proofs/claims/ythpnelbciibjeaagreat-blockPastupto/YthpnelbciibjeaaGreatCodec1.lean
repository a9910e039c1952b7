/- Contracts of the small functions over bytes. -/
import Derived.Test.YthpnelbciibjeaaGreatSh
import Derived.Test.YthpnelbciibjeaaGreatAwEnd
import Derived.Test.YthpnelbciibjeaaGreatCl1
set_option linter.all false
set_option maxRecDepth 100000
set_option linter.unusedSimpArgs false
namespace Go.Proofs.YthpnelbciibjeaaGreat
open Go.AW

theorem zpO {σ : List zc} {es : List (List D)} {K : AV → List zc → Prop} (he : ∀ e ∈ es, e.length = 1) (hK : K (.exact es) σ) : zt Tryz.prog zck [.d (.slice es)] σ K := by
  refine zdG zdY.is rfl (fun _ => []) fun hl _ => zdY.goes ?_
  simp only [zec, iN, bT, bF, eN, gF, gT, gFm, gTm, fl, nfl, gFl, gTl, il, cp, orC, anC, cA, bP, z1, z2, m1, List.map_cons, List.map_nil, zaO, zfb, zdI, bnd, zfU, zC]
  refine ⟨rfl, trivial, by omega, by omega, by omega, he, ?_⟩
  simp only [znN, zpY, getL, zmI, zcE, zca]
  simpa using ⟨hl, hK⟩
theorem zpS {σ : List zc} {a b : List UInt8} {K : AV → List zc → Prop} (hK : K (.d (.bool (a == b))) σ) : zt Tryz.prog zgZ [.d (.slice (bcs a)), .d (.slice (bcs b))] σ K := by
  refine zlO zpF fun hl => ?_
  simp only [zkE, iN, bT, bF, eN, gF, gT, gFm, gTm, fl, nfl, gFl, gTl, il, cp, orC, anC, cA, bP, z1, z2, m1, List.map_cons, List.map_nil, zak, zfb, zjJ, zei, zeY, zcg, zC]
  exact znf (by simp [zgo, dmT, dm, dm1, zcE]) hl hK

def bva (bs : List UInt8) : List AV := bs.map fun b => .d (.int .u8 (b.toNat : Int))
def zep (bs : List UInt8) : List AV := bva bs ++ List.replicate (10 - bs.length) (.d (.int .u8 0))

theorem zoi {pre : List UInt8} {b : UInt8} (h : pre.length < 10) : zag (zep pre) pre.length [.d (.int .u8 (b.toNat : Int))] = zep (pre ++ [b]) := by
  simp only [zag, zep, bva, List.length_singleton]
  obtain ⟨m, hm⟩ : ∃ m, 10 - pre.length = m + 1 := ⟨9 - pre.length, by omega⟩
  rw [hm, List.take_left' (by simp), List.drop_append]
  simp only [List.length_map]
  rw [List.drop_eq_nil_of_le (by simp), show pre.length + 1 - pre.length = 1 by omega, List.replicate_succ]
  simp [List.length_append, show 10 - (pre.length + 1) = m by omega]

theorem byte_or (m : Nat) : IntKind.u8.wrap ↑(BitVec.ofInt IntKind.u8.bits (IntKind.u8.wrap (m : Int)) ||| BitVec.ofInt IntKind.u8.bits 128).toNat = ((UInt8.ofNat (m % 128 + 128)).toNat : Int) := by
  rw [wrap8 m, show IntKind.u8.bits = 8 from rfl, or128 ⟨m % 256, by omega⟩, wrap8_lt (by simp; omega), zlq (by omega)]
  simp
theorem byte_wrap {m : Nat} (h : m < 128) : IntKind.u8.wrap (m : Int) = ((UInt8.ofNat m).toNat : Int) := by
  rw [wrap8_lt (by omega), zlq (by omega)]
theorem shr7 (m : Nat) : ((m : Int)).fdiv (2 ^ min 7 IntKind.u64.bits) = ((m / 128 : Nat) : Int) := by
  rw [show min 7 IntKind.u64.bits = 7 from rfl, Int.fdiv_eq_ediv_of_nonneg _ (by decide)]
  rfl
theorem zjX {pre : List UInt8} (h : pre.length ≤ 10) : (zep pre).length = 10 := by simp [zep, bva]; omega
theorem pad10_sc (pre : List UInt8) : (zep pre).all sc = true := by
  simp only [zep, bva, List.all_append, List.all_map, List.all_replicate, Bool.and_eq_true]
  refine ⟨by simp [sc], ?_⟩
  cases 10 - pre.length <;> simp [sc]

theorem pad10_d (pre : List UInt8) : zep pre = ((pre.map fun b => D.int .u8 (b.toNat : Int)) ++ List.replicate (10 - pre.length) (D.int .u8 0)).map AV.d := by
  simp [zep, bva, Function.comp_def]
theorem gq5 {P Q : Prop} (h : Q) (e : P = Q := by simp -dsimp only [↓zhH, ↓zbh, ↓zcI, ↓zhI, ↓zhD, ↓zhB, ↓zhE, ↓zhC, ↓zcN, ↓zcJ, ↓zcO, ↓zcK, ↓zhF, ↓zcH, ↓zcP, ↓zcL, ↓zcQ, ↓zcM, ↓zhA, ↓zhG, ↓zcG, ↓zcS, ↓zhy, ↓zhx, ↓zhz, iN, bT, bF, eN, ↓zei, ↓unC, ↓zal, ↓zZ, ↓zaa, ↓zah, ↓zaE, ↓zaO, ↓zdI, ↓zak, ↓zcu, ↓zaF, ↓zr, ↓zA, ↓zde, ↓zj, ↓zau, ↓zT, ↓zaW, ↓zbl, ↓zd, ↓zU, ↓zq, ↓zJ, ↓zaI, ↓zez, ↓zeX, ↓zaq, ↓zaS, ↓zaV, ↓zbA, ↓zbV, ↓zG, ↓zay, ↓zX, ↓zH, ↓zaC, zeY, zcw, zcg, unA, zfb, bnd, zfU, zan, zaG, zfT, dm, dm1, zC, zaT, zgx, zgw, zao, Q0, Q1, Q2, Q3, Q4, Q5, zaB, zP, zp, zas, zac, Q6, Q7, Q8, Q9, Q10, Q11, Q12, Q13, Q14, Nat.reduceAdd, Q15, Int.reduceToNat, Q16, Q17, Q18, Q19, Q20, reduceIte, Q21, Q22]; rfl) : P := e.mpr h
theorem gq6 {A P Q : Prop} (a : A) (h : Q) (e : A → P = Q := by intro a; simp -dsimp only [↓zhH, ↓zbh, ↓zcI, ↓zhI, ↓zhD, ↓zhB, ↓zhE, ↓zhC, ↓zcN, ↓zcJ, ↓zcO, ↓zcK, ↓zhF, ↓zcH, ↓zcP, ↓zcL, ↓zcQ, ↓zcM, ↓zhA, ↓zhG, ↓zcG, ↓zcS, ↓zhy, ↓zhx, ↓zhz, iN, bT, bF, eN, ↓zei, ↓unC, ↓zal, ↓zZ, ↓zaa, ↓zah, ↓zaE, ↓zaO, ↓zdI, ↓zak, ↓zcu, ↓zaF, ↓zr, ↓zA, ↓zde, ↓zj, ↓zau, ↓zT, ↓zaW, ↓zbl, ↓zd, ↓zU, ↓zq, ↓zJ, ↓zaI, ↓zez, ↓zeX, ↓zaq, ↓zaS, ↓zaV, ↓zbA, ↓zbV, ↓zG, ↓zay, ↓zX, ↓zH, ↓zaC, zeY, zcw, zcg, unA, zfb, bnd, zfU, zan, zaG, zfT, dm, dm1, zC, zaT, zgx, zgw, zao, Q0, Q1, Q2, Q3, Q4, Q5, zaB, zP, zp, zas, zac, Q6, Q7, Q8, Q9, Q10, Q11, Q12, Q13, Q14, Nat.reduceAdd, Q15, Int.reduceToNat, Q16, Q17, Q18, Q19, Q20, reduceIte, Q21, Q22, a]; rfl) : P := (e a).mpr h
theorem c_form {σ : List zc} {n : Nat} (hn : n < 18446744073709551616) {K : AV → List zc → Prop} (hK : K (.tup [.agg (zep (zbG n)), .d (.int .i64 (zbG n).length)]) σ) : zt Tryz.prog zhT [.d (.int .u64 n)] σ K := by
  refine zhl e_codec_form fun hl => ?_
  simp only [zlT, iN, bT, bF, eN, zaF]
  have hlen := zo hn
  refine zN 10 (fun k vs s => ∃ (m : Nat) (pre : List UInt8), k = pre.length ∧ vs = [.d (.int .u64 m), .d (.int .i64 k)] ∧ zbG n = pre ++ zbG m ∧ m < 18446744073709551616 ∧
      s = σ ++ [.box (zep []), .box (zep pre)]) ⟨n, [], rfl, rfl, rfl, hn, by simp [zep, bva]⟩ ?_
  rintro k vs s hk ⟨m, pre, rfl, rfl, hpre, hm, rfl⟩
  have hm10 := zo hm
  have hpl : pre.length + (zbG m).length ≤ 10 := by rw [hpre] at hlen; simpa using hlen.2
  have hp : pre.length < 10 := by omega
  (refine gq5 ?_; try with_reducible exact True.intro)
  refine zO (fun h => ?_) (fun h => ?_)
  all_goals (try (refine gq6 h ?_; try with_reducible exact True.intro))
  · have h1 : ¬ m < 128 := by simp at h; omega
    have h2 := zpn h1
    rw [h2] at hpl
    simp at hpl
    rw [byte_or, shr7, zoi hp]
    refine ⟨by omega, by omega, by have := zjX (pre := pre) (by omega); omega, by simp [sc], by omega, ?_⟩
    refine zbJ.next (by omega) ⟨m / 128, pre ++ [UInt8.ofNat (m % 128 + 128)], by simp, ?_, by rw [hpre, h2]; simp, by omega, rfl⟩
    rw [zaD (by omega) (by omega)]
    rfl
  · have h1 : m < 128 := by simp at h; omega
    have h2 := ziC h1
    rw [byte_wrap h1, zoi hp]
    have hp1 : (zep (pre ++ [UInt8.ofNat m])).length = 10 := zjX (by simp; omega)
    have hsp : zag (zep []) 0 (zep (pre ++ [UInt8.ofNat m])) = zep (pre ++ [UInt8.ofNat m]) := by
      simp only [zag, Nat.zero_add, List.take_zero, List.nil_append]
      rw [hp1, List.drop_eq_nil_of_le (by simp [zep, bva]), List.append_nil]
    have htk : List.take 10 (List.drop 0 (zep (pre ++ [UInt8.ofNat m]))) = zep (pre ++ [UInt8.ofNat m]) := by
      rw [List.drop_zero, List.take_of_length_le (by omega)]
    rw [htk, hsp, htk, if_pos (by omega)]
    refine ⟨by omega, by omega, by have := zjX (pre := pre) (by omega); omega, by simp [sc], by omega, by omega, by simp [zep, bva], pad10_sc _, ?_⟩
    have hd : dmT (zcE [.agg (zep (pre ++ [UInt8.ofNat m])), .d (.int .i64 (IntKind.i64.wrap (↑pre.length + 1)))]) = .tup [.agg (zep (pre ++ [UInt8.ofNat m])), .d (.int .i64 (zbG n).length)] := by
      rw [zaD (by omega) (by omega), hpre, h2]
      simp only [zcE, dmT, List.map_cons, List.map_nil, dm, pad10_d, map_dm1_d, dm1]
      rw [List.length_append]; rfl
    refine zlg ?_ hl ?_
    · rw [hd, pad10_d, zio]
      intro c hc
      rcases List.mem_cons.1 hc with rfl | hc
      · exact .agg _ (low_map_d _ _)
      · have hc := List.mem_singleton.1 hc
        subst hc; exact .d _
    · rw [hd]; rw [hpre, h2] at hK ⊢; exact hK

theorem toDs_bva (bs : List UInt8) (r : List AV) (ds : List D) (h : zgP r = some ds) : zgP (bva bs ++ r) = some ((bs.map fun b => D.int .u8 (b.toNat : Int)) ++ ds) := by
  induction bs with
  | nil => simpa [bva] using h
  | cons b bs ih => simp only [bva, List.map_cons, List.cons_append, zgP, toD] at ih ⊢; rw [ih]
theorem chunks1 (bs : List UInt8) : zap 1 bs.length (bs.map fun b => D.int .u8 (b.toNat : Int)) = bcs bs := by
  induction bs with
  | nil => rfl
  | cons b bs ih => simp only [List.length_cons, List.map_cons, zap, bcs, List.take_succ_cons, List.take_zero, List.drop_succ_cons, List.drop_zero] at ih ⊢; rw [ih]; rfl

theorem zdi {σ : List zc} {b : List UInt8} {n : Nat} (hn : n < 18446744073709551616) (hb : b.length ≤ 1073741824) {K : AV → List zc → Prop} (hK : K (.own σ.length (bcs (b ++ zbG n))) (σ ++ [.tok 1 (b ++ zbG n).length])) :
    zt Tryz.prog zw [.d (.slice (bcs b)), .d (.int .u64 n)] σ K := by
  refine zdG zji.is rfl (fun s => [σ.length + 1]) fun hl _ => zji.goes ?_
  have hlen := zo hn
  simp only [zjk, iN, bT, bF, eN, gF, gT, gFm, gTm, fl, nfl, gFl, gTl, il, cp, orC, anC, cA, bP, z1, z2, m1, List.map_cons, List.map_nil]
  simp only [dm, dm1]
  refine c_form hn ?_
  have hp := zjX hlen.2
  have hsp : zag (List.replicate 10 (AV.d (D.int .u8 0))) 0 (zep (zbG n)) = zep (zbG n) := by
    simp only [zag, Nat.zero_add, List.take_zero, List.nil_append]
    rw [hp, List.drop_eq_nil_of_le (by simp), List.append_nil]
  have hrep : [AV.d (D.int .u8 0), .d (.int .u8 0), .d (.int .u8 0), .d (.int .u8 0), .d (.int .u8 0), .d (.int .u8 0), .d (.int .u8 0), .d (.int .u8 0), .d (.int .u8 0), .d (.int .u8 0)] = List.replicate 10 (AV.d (D.int .u8 0)) := rfl
  (refine gq5 ?_; try with_reducible exact True.intro)
  refine ⟨hp, by omega, pad10_sc _, by omega, by omega, by omega, by omega, ?_⟩
  refine zpO zgm ?_
  rw [hrep, hsp]
  (refine gq5 ?_; try with_reducible exact True.intro)
  have htk : zgP (List.take ((zbG n).length - Int.toNat 0) (List.drop (Int.toNat 0) (zep (zbG n)))) = some ((zbG n).map fun b => D.int .u8 (b.toNat : Int)) := by
    simp only [Int.toNat_zero, Nat.sub_zero, List.drop_zero]
    rw [zep, List.take_left' (by simp [bva])]
    have := toDs_bva (zbG n) [] [] rfl
    simpa using this
  simp only [Int.toNat_zero] at htk
  rw [htk, if_pos (by omega), Nat.sub_zero]
  simp only [Option.map_some, chunks1]
  refine ⟨zgm, zgm, by simp [bcs]; omega, ?_⟩
  rw [zoM]
  refine endsK_own rfl hl (by omega) (by rw [zP]; rfl) ?_
  simpa [bcs] using hK

theorem gq7 {P Q : Prop} (h : Q) (e : P = Q := by simp -dsimp only [↓zhH, ↓zbh, ↓zcI, ↓zhI, ↓zhD, ↓zhB, ↓zhE, ↓zhC, ↓zcN, ↓zcJ, ↓zcO, ↓zcK, ↓zhF, ↓zcH, ↓zcP, ↓zcL, ↓zcQ, ↓zcM, ↓zhA, ↓zhG, ↓zcG, ↓zcS, ↓zhy, ↓zhx, ↓zhz, iN, bT, bF, eN, ↓zei, ↓unC, ↓zal, ↓zZ, ↓zaa, ↓zah, ↓zaE, ↓zaO, ↓zdI, ↓zak, ↓zcu, ↓zaF, ↓zr, ↓zA, ↓zde, ↓zj, ↓zau, ↓zT, ↓zaW, ↓zbl, ↓zd, ↓zU, ↓zq, ↓zJ, ↓zaI, ↓zez, ↓zeX, ↓zaq, ↓zaS, ↓zaV, ↓zbA, ↓zbV, ↓zG, ↓zay, ↓zX, ↓zH, ↓zaC, zeY, zcw, zcg, unA, zfb, bnd, zfU, zan, zaG, zfT, dm, dm1, zC, zaT, zgx, zgw, zao, Q0, Q1, Q2, Q3, Q4, Q5, zaB, zP, zp, zas, zac, Q6, Q7, Q8, Q9, Q10, Q11, Q12, Q13, Q14, Nat.reduceAdd, Q15, Int.reduceToNat, Q16, Q17, Q18, Q19, Q20, reduceIte, Q21, Q22, zhq]; rfl) : P := e.mpr h
theorem zfx {σ : List zc} {b x : List UInt8} (hx : x.length ≤ 1073741824) (hb : b.length ≤ 1073741800) {K : AV → List zc → Prop} (hK : K (.own σ.length (bcs (b ++ (zbG x.length ++ x)))) (σ ++ [.tok 1 (b ++ (zbG x.length ++ x)).length])) :
    zt Tryz.prog zam [.d (.slice (bcs b)), .d (.slice (bcs x))] σ K := by
  refine zdG zhj.is rfl (fun s => [σ.length]) fun hl _ => zhj.goes ?_
  have hlen := zo (n := x.length) (by omega)
  (refine gq7 ?_; try with_reducible exact True.intro)
  have hw : IntKind.u64.wrap ((bcs x).length : Int) = (x.length : Int) := by rw [zcT (by simp [bcs]; omega)]; simp [bcs]
  rw [hw]
  refine zdi (by omega) (by omega) ?_
  (refine gq5 ?_; try with_reducible exact True.intro)
  refine ⟨zgm, by simp [bcs]; omega, by simp [bcs], ?_⟩
  rw [zoM]
  simp only [List.append_assoc]
  refine zgC hl rfl ?_
  simpa [bcs, Nat.add_assoc] using hK

end Go.Proofs.YthpnelbciibjeaaGreat
