/- Contracts of the small functions over bytes. -/
import Derived.Test.YtpgahkdjkanblaaGreatSh
import Derived.Test.YtpgahkdjkanblaaGreatAwEnd
import Derived.Test.YtpgahkdjkanblaaGreatQu1
import Derived.Test.YtpgahkdjkanblaaGreatSpOp
import Derived.Test.YtpgahkdjkanblaaGreatSpTab
set_option linter.all false
set_option maxRecDepth 100000
set_option linter.unusedSimpArgs false
namespace Go.Proofs.YtpgahkdjkanblaaGreat
open Go.AW

theorem zuZ {σ : List zd} {es : List (List D)} {K : KT} (he : ∀ e ∈ es, e.length = 1) (hK : K (.exact es) σ) : zl Tryz.prog zew [.d (.slice es)] σ K := by
  refine zcm zgw.is rfl (fun _ => []) fun hl _ => zgw.goes ?_
  simp only [zgB, iN, bT, bF, eN, gF, gT, gFm, gTm, fl, nfl, gFl, gTl, il, cp, orC, anC, cA, bP, z1, z2, m1, List.map_cons, List.map_nil, zaz, zcZ, zdn, bnd, zdZ, zI]
  refine ⟨rfl, trivial, by omega, by omega, by omega, he, ?_⟩
  simp only [zmz, zoP, getL, zqd, zdy, zdF]
  simpa using ⟨hl, hK⟩
theorem zlz {σ : List zd} {a b : List UInt8} {K : KT} (hK : K (.d (.bool (a == b))) σ) : zl Tryz.prog zgt [.d (.slice (bcs a)), .d (.slice (bcs b))] σ K := by
  refine ze zpu.is rfl fun hl _ => zpu.goes ?_
  simp only [zpP, iN, bT, bF, eN, gF, gT, gFm, gTm, fl, nfl, gFl, gTl, il, cp, orC, anC, cA, bP, z1, z2, m1, List.map_cons, List.map_nil, zau, zcZ, zhr, zcO, zdD, zbk, zI]
  exact zsk (by simp [zjI, dmT, dm, dm1, zdy]) hl hK
end Go.Proofs.YtpgahkdjkanblaaGreat

/- Contracts: how numbers and byte strings are put. -/
set_option maxRecDepth 100000
set_option linter.unusedSimpArgs false
namespace Go.Proofs.YtpgahkdjkanblaaGreat
open Go.AW

def bva (bs : List UInt8) : List AV := bs.map fun b => .d (.int .u8 (b.toNat : Int))
def zhk (bs : List UInt8) : List AV := bva bs ++ List.replicate (10 - bs.length) (.d (.int .u8 0))

theorem ztn {pre : List UInt8} {b : UInt8} (h : pre.length < 10) : zU (zhk pre) pre.length [.d (.int .u8 (b.toNat : Int))] = zhk (pre ++ [b]) := by
  simp only [zU, zhk, bva, List.length_singleton]
  obtain ⟨m, hm⟩ : ∃ m, 10 - pre.length = m + 1 := ⟨9 - pre.length, by omega⟩
  rw [hm, List.take_left' (by simp), List.drop_append]
  simp only [List.length_map]
  rw [List.drop_eq_nil_of_le (by simp), show pre.length + 1 - pre.length = 1 by omega, List.replicate_succ]
  simp [List.length_append, show 10 - (pre.length + 1) = m by omega]

theorem byte_or (m : Nat) : IntKind.u8.wrap ↑(BitVec.ofInt IntKind.u8.bits (IntKind.u8.wrap (m : Int)) ||| BitVec.ofInt IntKind.u8.bits 128).toNat = ((UInt8.ofNat (m % 128 + 128)).toNat : Int) := by
  rw [wrap8 m, show IntKind.u8.bits = 8 from rfl, or128 ⟨m % 256, by omega⟩, wrap8_lt (by simp; omega), zqJ (by omega)]
  simp
theorem byte_wrap {m : Nat} (h : m < 128) : IntKind.u8.wrap (m : Int) = ((UInt8.ofNat m).toNat : Int) := by
  rw [wrap8_lt (by omega), zqJ (by omega)]
theorem shr7 (m : Nat) : ((m : Int)).fdiv (2 ^ min 7 IntKind.u64.bits) = ((m / 128 : Nat) : Int) := by
  rw [show min 7 IntKind.u64.bits = 7 from rfl, Int.fdiv_eq_ediv_of_nonneg _ (by decide)]
  rfl
theorem zpb {pre : List UInt8} (h : pre.length ≤ 10) : (zhk pre).length = 10 := by simp [zhk, bva]; omega
theorem pad10_sc (pre : List UInt8) : (zhk pre).all sc = true := by
  simp only [zhk, bva, List.all_append, List.all_map, List.all_replicate, Bool.and_eq_true]
  refine ⟨by simp [sc], ?_⟩
  cases 10 - pre.length <;> simp [sc]

theorem pad10_d (pre : List UInt8) : zhk pre = ((pre.map fun b => D.int .u8 (b.toNat : Int)) ++ List.replicate (10 - pre.length) (D.int .u8 0)).map AV.d := by
  simp [zhk, bva, Function.comp_def]
theorem gq27 {P Q : Prop} (h : Q) (e : P = Q := by simp -dsimp only [↓zfa, ↓zat, ↓zbt, ↓zfb, ↓zeW, ↓zeU, ↓zeX, ↓zeV, ↓zby, ↓zbu, ↓zbz, ↓zbv, ↓zeY, ↓zbs, ↓zbA, ↓zbw, ↓zbB, ↓zbx, ↓zeT, ↓zeZ, ↓zbr, ↓zbC, ↓zeQ, ↓zeP, ↓zeS, iN, bT, bF, eN, ↓zcO, ↓unC, ↓zP, ↓zG, ↓zH, ↓zK, ↓zW, ↓zaz, ↓zdn, ↓zau, ↓zbf, ↓zQ, ↓zg, ↓zf, ↓zbY, ↓zb, ↓zae, ↓zL, ↓zaN, ↓zaO, ↓zc, ↓zB, ↓zj, ↓zE, ↓zY, ↓zdz, ↓zdA, ↓zam, ↓zap, ↓zaK, ↓zaV, ↓zbj, ↓zm, ↓zai, ↓zJ, ↓zr, ↓zT, zdD, zbo, zbk, unA, zcZ, bnd, zdZ, zac, zR, zdT, dm, dm1, zI, zan, zeq, zep, zZ, Q0, Q1, Q2, Q3, Q4, Q5, zX, zn, zo, zF, zA, Q6, Q7, Q8, Q9, Q10, Q11, Q12, Q13, Q14, Nat.reduceAdd, Q15, Int.reduceToNat, Q16, Q17, Q18, Q19, Q20, reduceIte, Q21, Q22]; rfl) : P := e.mpr h
theorem gq28 {A P Q : Prop} (a : A) (h : Q) (e : A → P = Q := by intro a; simp -dsimp only [↓zfa, ↓zat, ↓zbt, ↓zfb, ↓zeW, ↓zeU, ↓zeX, ↓zeV, ↓zby, ↓zbu, ↓zbz, ↓zbv, ↓zeY, ↓zbs, ↓zbA, ↓zbw, ↓zbB, ↓zbx, ↓zeT, ↓zeZ, ↓zbr, ↓zbC, ↓zeQ, ↓zeP, ↓zeS, iN, bT, bF, eN, ↓zcO, ↓unC, ↓zP, ↓zG, ↓zH, ↓zK, ↓zW, ↓zaz, ↓zdn, ↓zau, ↓zbf, ↓zQ, ↓zg, ↓zf, ↓zbY, ↓zb, ↓zae, ↓zL, ↓zaN, ↓zaO, ↓zc, ↓zB, ↓zj, ↓zE, ↓zY, ↓zdz, ↓zdA, ↓zam, ↓zap, ↓zaK, ↓zaV, ↓zbj, ↓zm, ↓zai, ↓zJ, ↓zr, ↓zT, zdD, zbo, zbk, unA, zcZ, bnd, zdZ, zac, zR, zdT, dm, dm1, zI, zan, zeq, zep, zZ, Q0, Q1, Q2, Q3, Q4, Q5, zX, zn, zo, zF, zA, Q6, Q7, Q8, Q9, Q10, Q11, Q12, Q13, Q14, Nat.reduceAdd, Q15, Int.reduceToNat, Q16, Q17, Q18, Q19, Q20, reduceIte, Q21, Q22, a]; rfl) : P := (e a).mpr h
theorem c_form {σ : List zd} {n : Nat} (hn : n < 18446744073709551616) {K : KT} (hK : K (.tup [.agg (zhk (zdv n)), .d (.int .i64 (zdv n).length)]) σ) : zl Tryz.prog zmL [.d (.int .u64 n)] σ K := by
  refine ze zrg.is rfl fun hl _ => zrg.goes ?_
  simp only [zro, iN, bT, bF, eN, zQ]
  have hlen := zC hn
  refine zy 10 (fun k vs s => ∃ (m : Nat) (pre : List UInt8), k = pre.length ∧ vs = [.d (.int .u64 m), .d (.int .i64 k)] ∧ zdv n = pre ++ zdv m ∧ m < 18446744073709551616 ∧
      s = σ ++ [.box (zhk []), .box (zhk pre)]) ⟨n, [], rfl, rfl, rfl, hn, by simp [zhk, bva]⟩ ?_
  rintro k vs s hk ⟨m, pre, rfl, rfl, hpre, hm, rfl⟩
  have hm10 := zC hm
  have hpl : pre.length + (zdv m).length ≤ 10 := by rw [hpre] at hlen; simpa using hlen.2
  have hp : pre.length < 10 := by omega
  (refine gq27 ?_; try with_reducible exact True.intro)
  refine zaU (fun h => ?_) (fun h => ?_)
  all_goals (try (refine gq28 h ?_; try with_reducible exact True.intro))
  · have h1 : ¬ m < 128 := by simp at h; omega
    have h2 := numB_big h1
    rw [h2] at hpl
    simp at hpl
    rw [byte_or, shr7, ztn hp]
    refine ⟨by omega, by omega, by have := zpb (pre := pre) (by omega); omega, by simp [sc], by omega, ?_⟩
    refine zbp.next (by omega) ⟨m / 128, pre ++ [UInt8.ofNat (m % 128 + 128)], by simp, ?_, by rw [hpre, h2]; simp, by omega, rfl⟩
    rw [zbE (by omega) (by omega)]
    rfl
  · have h1 : m < 128 := by simp at h; omega
    have h2 := zqh h1
    rw [byte_wrap h1, ztn hp]
    have hp1 : (zhk (pre ++ [UInt8.ofNat m])).length = 10 := zpb (by simp; omega)
    have hsp : zU (zhk []) 0 (zhk (pre ++ [UInt8.ofNat m])) = zhk (pre ++ [UInt8.ofNat m]) := by
      simp only [zU, Nat.zero_add, List.take_zero, List.nil_append]
      rw [hp1, List.drop_eq_nil_of_le (by simp [zhk, bva]), List.append_nil]
    have htk : List.take 10 (List.drop 0 (zhk (pre ++ [UInt8.ofNat m]))) = zhk (pre ++ [UInt8.ofNat m]) := by
      rw [List.drop_zero, List.take_of_length_le (by omega)]
    rw [htk, hsp, htk, if_pos (by omega)]
    refine ⟨by omega, by omega, by have := zpb (pre := pre) (by omega); omega, by simp [sc], by omega, by omega, by simp [zhk, bva], pad10_sc _, ?_⟩
    have hd : dmT (zdy [.agg (zhk (pre ++ [UInt8.ofNat m])), .d (.int .i64 (IntKind.i64.wrap (↑pre.length + 1)))]) = .tup [.agg (zhk (pre ++ [UInt8.ofNat m])), .d (.int .i64 (zdv n).length)] := by
      rw [zbE (by omega) (by omega), hpre, h2]
      simp only [zdy, dmT, List.map_cons, List.map_nil, dm, pad10_d, map_dm1_d, dm1]
      rw [List.length_append]; rfl
    refine zqB ?_ hl ?_
    · rw [hd, pad10_d, zbL]
      intro c hc
      rcases List.mem_cons.1 hc with rfl | hc
      · exact .agg _ (zmN _ _)
      · have hc := List.mem_singleton.1 hc
        subst hc; exact .d _
    · rw [hd]; rw [hpre, h2] at hK ⊢; exact hK

theorem toDs_bva (bs : List UInt8) (r : List AV) (ds : List D) (h : zeo r = some ds) : zeo (bva bs ++ r) = some ((bs.map fun b => D.int .u8 (b.toNat : Int)) ++ ds) := by
  induction bs with
  | nil => simpa [bva] using h
  | cons b bs ih => simp only [bva, List.map_cons, List.cons_append, zeo, toD] at ih ⊢; rw [ih]
theorem chunks1 (bs : List UInt8) : zaa 1 bs.length (bs.map fun b => D.int .u8 (b.toNat : Int)) = bcs bs := by
  induction bs with
  | nil => rfl
  | cons b bs ih => simp only [List.length_cons, List.map_cons, zaa, bcs, List.take_succ_cons, List.take_zero, List.drop_succ_cons, List.drop_zero] at ih ⊢; rw [ih]; rfl

theorem zeF {σ : List zd} {b : List UInt8} {n : Nat} (hn : n < 18446744073709551616) (hb : b.length ≤ 1073741824) {K : KT} (hK : K (.own σ.length (bcs (b ++ zdv n))) (σ ++ [.tok 1 (b ++ zdv n).length])) :
    zl Tryz.prog zbg [.d (.slice (bcs b)), .d (.int .u64 n)] σ K := by
  refine zcm zoe.is rfl (fun s => [σ.length + 1]) fun hl _ => zoe.goes ?_
  have hlen := zC hn
  simp only [zoq, iN, bT, bF, eN, gF, gT, gFm, gTm, fl, nfl, gFl, gTl, il, cp, orC, anC, cA, bP, z1, z2, m1, List.map_cons, List.map_nil]
  simp only [dm, dm1]
  refine c_form hn ?_
  have hp := zpb hlen.2
  have hsp : zU (List.replicate 10 (AV.d (D.int .u8 0))) 0 (zhk (zdv n)) = zhk (zdv n) := by
    simp only [zU, Nat.zero_add, List.take_zero, List.nil_append]
    rw [hp, List.drop_eq_nil_of_le (by simp), List.append_nil]
  have hrep : [AV.d (D.int .u8 0), .d (.int .u8 0), .d (.int .u8 0), .d (.int .u8 0), .d (.int .u8 0), .d (.int .u8 0), .d (.int .u8 0), .d (.int .u8 0), .d (.int .u8 0), .d (.int .u8 0)] = List.replicate 10 (AV.d (D.int .u8 0)) := rfl
  (refine gq27 ?_; try with_reducible exact True.intro)
  refine ⟨hp, by omega, pad10_sc _, by omega, by omega, by omega, by omega, ?_⟩
  refine zuZ zht ?_
  rw [hrep, hsp]
  (refine gq27 ?_; try with_reducible exact True.intro)
  have htk : zeo (List.take ((zdv n).length - Int.toNat 0) (List.drop (Int.toNat 0) (zhk (zdv n)))) = some ((zdv n).map fun b => D.int .u8 (b.toNat : Int)) := by
    simp only [Int.toNat_zero, Nat.sub_zero, List.drop_zero]
    rw [zhk, List.take_left' (by simp [bva])]
    have := toDs_bva (zdv n) [] [] rfl
    simpa using this
  simp only [Int.toNat_zero] at htk
  rw [htk, if_pos (by omega), Nat.sub_zero]
  simp only [Option.map_some, chunks1]
  refine ⟨zht, zht, by simp [bcs]; omega, ?_⟩
  rw [zug]
  refine zmP rfl hl (by omega) (by rw [zn]; rfl) ?_
  simpa [bcs] using hK

theorem gq29 {P Q : Prop} (h : Q) (e : P = Q := by simp -dsimp only [↓zfa, ↓zat, ↓zbt, ↓zfb, ↓zeW, ↓zeU, ↓zeX, ↓zeV, ↓zby, ↓zbu, ↓zbz, ↓zbv, ↓zeY, ↓zbs, ↓zbA, ↓zbw, ↓zbB, ↓zbx, ↓zeT, ↓zeZ, ↓zbr, ↓zbC, ↓zeQ, ↓zeP, ↓zeS, iN, bT, bF, eN, ↓zcO, ↓unC, ↓zP, ↓zG, ↓zH, ↓zK, ↓zW, ↓zaz, ↓zdn, ↓zau, ↓zbf, ↓zQ, ↓zg, ↓zf, ↓zbY, ↓zb, ↓zae, ↓zL, ↓zaN, ↓zaO, ↓zc, ↓zB, ↓zj, ↓zE, ↓zY, ↓zdz, ↓zdA, ↓zam, ↓zap, ↓zaK, ↓zaV, ↓zbj, ↓zm, ↓zai, ↓zJ, ↓zr, ↓zT, zdD, zbo, zbk, unA, zcZ, bnd, zdZ, zac, zR, zdT, dm, dm1, zI, zan, zeq, zep, zZ, Q0, Q1, Q2, Q3, Q4, Q5, zX, zn, zo, zF, zA, Q6, Q7, Q8, Q9, Q10, Q11, Q12, Q13, Q14, Nat.reduceAdd, Q15, Int.reduceToNat, Q16, Q17, Q18, Q19, Q20, reduceIte, Q21, Q22, zmp]; rfl) : P := e.mpr h
theorem znI {σ : List zd} {b x : List UInt8} (hx : x.length ≤ 1073741824) (hb : b.length ≤ 1073741800) {K : KT} (hK : K (.own σ.length (bcs (b ++ (zdv x.length ++ x)))) (σ ++ [.tok 1 (b ++ (zdv x.length ++ x)).length])) :
    zl Tryz.prog zdI [.d (.slice (bcs b)), .d (.slice (bcs x))] σ K := by
  refine zcm zlZ.is rfl (fun s => [σ.length]) fun hl _ => zlZ.goes ?_
  have hlen := zC (n := x.length) (by omega)
  (refine gq29 ?_; try with_reducible exact True.intro)
  have hw : IntKind.u64.wrap ((bcs x).length : Int) = (x.length : Int) := by rw [zgj (by simp [bcs]; omega)]; simp [bcs]
  rw [hw]
  refine zeF (by omega) (by omega) ?_
  (refine gq27 ?_; try with_reducible exact True.intro)
  refine ⟨zht, by simp [bcs]; omega, by simp [bcs], ?_⟩
  rw [zug]
  simp only [List.append_assoc]
  refine zqD hl rfl ?_
  simpa [bcs, Nat.add_assoc] using hK

end Go.Proofs.YtpgahkdjkanblaaGreat

/- Contracts of operations: which are the same. -/
set_option maxRecDepth 100000
set_option linter.unusedSimpArgs false
namespace Go.Proofs.YtpgahkdjkanblaaGreat
open Go.AW

theorem gq30 {P Q : Prop} (h : Q) (e : P = Q := by simp -dsimp only [↓zfa, ↓zat, ↓zbt, ↓zfb, ↓zeW, ↓zeU, ↓zeX, ↓zeV, ↓zby, ↓zbu, ↓zbz, ↓zbv, ↓zeY, ↓zbs, ↓zbA, ↓zbw, ↓zbB, ↓zbx, ↓zeT, ↓zeZ, ↓zbr, ↓zbC, ↓zeQ, ↓zeP, ↓zeS, iN, bT, bF, eN, ↓zcO, ↓unC, ↓zP, ↓zG, ↓zH, ↓zK, ↓zW, ↓zaz, ↓zdn, ↓zau, ↓zbf, ↓zQ, ↓zg, ↓zf, ↓zbY, ↓zb, ↓zae, ↓zL, ↓zaN, ↓zaO, ↓zc, ↓zB, ↓zj, ↓zE, ↓zY, ↓zdz, ↓zdA, ↓zam, ↓zap, ↓zaK, ↓zaV, ↓zbj, ↓zm, ↓zai, ↓zJ, ↓zr, ↓zT, zdD, zbo, zbk, unA, zcZ, bnd, zdZ, zac, zR, zdT, dm, dm1, zI, zan, zeq, zep, zZ, Q0, Q1, Q2, Q3, Q4, Q5, zX, zn, zo, zF, zA, Q6, Q7, Q8, Q9, Q10, Q11, Q12, Q13, Q14, Nat.reduceAdd, Q15, Int.reduceToNat, Q16, Q17, Q18, Q19, Q20, reduceIte, Q21, Q22, zw, rep, zU, zeo, toD, zaa, Q23, Q24, Q25, Q26, Q27, Q28, Nat.reduceLeDiff, Q29, Nat.reduceSub, Q30, Q31, Q32, sc, Q33, Q34, Q35]; rfl) : P := e.mpr h
theorem c_only {σ : List zd} {o : TOp} {K : KT} (hK : K (.tup [opA (zos o), .d (.bool (zry o))]) σ) : zl Tryz.prog zrW [opA o] σ K := by
  refine ze e_op_only.is rfl fun hl _ => e_op_only.goes ?_
  simp only [S_op_only, iN, bT, bF, eN, opA]
  (repeat' (first | (refine gq30 ?_; try with_reducible exact True.intro) | (refine zaU (fun h => ?_) (fun h => ?_) <;> (try rw [h])) | ((with_reducible refine And.intro ?_ ?_); focus (first | omega | rfl | decide))))

  all_goals refine zV hl ?_
  all_goals simp only [beq_iff_eq, beq_eq_false_iff_ne, ne_eq] at *
  all_goals simp_all [zdy, dmT, dm, dm1, zos, noOp, opA, zry, zgh]
  have e : (decide (0 ≤ o.kind) && decide (o.kind ≤ 4)) = false := by simp; omega
  rw [e] at hK
  exact hK
theorem gq31 {P Q : Prop} (h : Q) (e : P = Q := by simp -dsimp only [↓zfa, ↓zat, ↓zbt, ↓zfb, ↓zeW, ↓zeU, ↓zeX, ↓zeV, ↓zby, ↓zbu, ↓zbz, ↓zbv, ↓zeY, ↓zbs, ↓zbA, ↓zbw, ↓zbB, ↓zbx, ↓zeT, ↓zeZ, ↓zbr, ↓zbC, ↓zeQ, ↓zeP, ↓zeS, iN, bT, bF, eN, ↓zcO, ↓unC, ↓zP, ↓zG, ↓zH, ↓zK, ↓zW, ↓zaz, ↓zdn, ↓zau, ↓zbf, ↓zQ, ↓zg, ↓zf, ↓zbY, ↓zb, ↓zae, ↓zL, ↓zaN, ↓zaO, ↓zc, ↓zB, ↓zj, ↓zE, ↓zY, ↓zdz, ↓zdA, ↓zam, ↓zap, ↓zaK, ↓zaV, ↓zbj, ↓zm, ↓zai, ↓zJ, ↓zr, ↓zT, zdD, zbo, zbk, unA, zcZ, bnd, zdZ, zac, zR, zdT, dm, dm1, zI, zan, zeq, zep, zZ, Q0, Q1, Q2, Q3, Q4, Q5, zX, zn, zo, zF, zA, Q6, Q7, Q8, Q9, Q10, Q11, Q12, Q13, Q14, Nat.reduceAdd, Q15, Int.reduceToNat, Q16, Q17, Q18, Q19, Q20, reduceIte, Q21, Q22, zsM, zw]; rfl) : P := e.mpr h
theorem c_Same_1 {σ : List zd} {a b : List UInt8} {K : KT} (hK : K (.d (.bool (a == b))) σ) : zl Tryz.prog zlo [.d (.slice (bcs a)), .d (.slice (bcs b))] σ K := by
  refine ze zsn.is rfl fun hl _ => zsn.goes ?_
  (refine gq31 ?_; try with_reducible exact True.intro)
  refine zlz ?_
  refine zV hl ?_
  exact hK
theorem gqc3 {A B : Prop} (a : A) (b : B) : A ∧ B := ⟨a, b⟩
theorem gq32 {P Q : Prop} (h : Q) (e : P = Q := by simp -dsimp only [↓zfa, ↓zat, ↓zbt, ↓zfb, ↓zeW, ↓zeU, ↓zeX, ↓zeV, ↓zby, ↓zbu, ↓zbz, ↓zbv, ↓zeY, ↓zbs, ↓zbA, ↓zbw, ↓zbB, ↓zbx, ↓zeT, ↓zeZ, ↓zbr, ↓zbC, ↓zeQ, ↓zeP, ↓zeS, iN, bT, bF, eN, ↓zcO, ↓unC, ↓zP, ↓zG, ↓zH, ↓zK, ↓zW, ↓zaz, ↓zdn, ↓zau, ↓zbf, ↓zQ, ↓zg, ↓zf, ↓zbY, ↓zb, ↓zae, ↓zL, ↓zaN, ↓zaO, ↓zc, ↓zB, ↓zj, ↓zE, ↓zY, ↓zdz, ↓zdA, ↓zam, ↓zap, ↓zaK, ↓zaV, ↓zbj, ↓zm, ↓zai, ↓zJ, ↓zr, ↓zT, zdD, zbo, zbk, unA, zcZ, bnd, zdZ, zac, zR, zdT, dm, dm1, zI, zan, zeq, zep, zZ, Q0, Q1, Q2, Q3, Q4, Q5, zX, zn, zo, zF, zA, Q6, Q7, Q8, Q9, Q10, Q11, Q12, Q13, Q14, Nat.reduceAdd, Q15, Int.reduceToNat, Q16, Q17, Q18, Q19, Q20, reduceIte, Q21, Q22, zaY, zw]; rfl) : P := e.mpr h
theorem gq33 {A P Q : Prop} (a : A) (h : Q) (e : A → P = Q := by intro a; simp -dsimp only [↓zfa, ↓zat, ↓zbt, ↓zfb, ↓zeW, ↓zeU, ↓zeX, ↓zeV, ↓zby, ↓zbu, ↓zbz, ↓zbv, ↓zeY, ↓zbs, ↓zbA, ↓zbw, ↓zbB, ↓zbx, ↓zeT, ↓zeZ, ↓zbr, ↓zbC, ↓zeQ, ↓zeP, ↓zeS, iN, bT, bF, eN, ↓zcO, ↓unC, ↓zP, ↓zG, ↓zH, ↓zK, ↓zW, ↓zaz, ↓zdn, ↓zau, ↓zbf, ↓zQ, ↓zg, ↓zf, ↓zbY, ↓zb, ↓zae, ↓zL, ↓zaN, ↓zaO, ↓zc, ↓zB, ↓zj, ↓zE, ↓zY, ↓zdz, ↓zdA, ↓zam, ↓zap, ↓zaK, ↓zaV, ↓zbj, ↓zm, ↓zai, ↓zJ, ↓zr, ↓zT, zdD, zbo, zbk, unA, zcZ, bnd, zdZ, zac, zR, zdT, dm, dm1, zI, zan, zeq, zep, zZ, Q0, Q1, Q2, Q3, Q4, Q5, zX, zn, zo, zF, zA, Q6, Q7, Q8, Q9, Q10, Q11, Q12, Q13, Q14, Nat.reduceAdd, Q15, Int.reduceToNat, Q16, Q17, Q18, Q19, Q20, reduceIte, Q21, Q22, zw, a]; rfl) : P := (e a).mpr h
theorem gq34 {P Q : Prop} (h : Q) (e : P = Q := by simp -dsimp only [↓zfa, ↓zat, ↓zbt, ↓zfb, ↓zeW, ↓zeU, ↓zeX, ↓zeV, ↓zby, ↓zbu, ↓zbz, ↓zbv, ↓zeY, ↓zbs, ↓zbA, ↓zbw, ↓zbB, ↓zbx, ↓zeT, ↓zeZ, ↓zbr, ↓zbC, ↓zeQ, ↓zeP, ↓zeS, iN, bT, bF, eN, ↓zcO, ↓unC, ↓zP, ↓zG, ↓zH, ↓zK, ↓zW, ↓zaz, ↓zdn, ↓zau, ↓zbf, ↓zQ, ↓zg, ↓zf, ↓zbY, ↓zb, ↓zae, ↓zL, ↓zaN, ↓zaO, ↓zc, ↓zB, ↓zj, ↓zE, ↓zY, ↓zdz, ↓zdA, ↓zam, ↓zap, ↓zaK, ↓zaV, ↓zbj, ↓zm, ↓zai, ↓zJ, ↓zr, ↓zT, zdD, zbo, zbk, unA, zcZ, bnd, zdZ, zac, zR, zdT, dm, dm1, zI, zan, zeq, zep, zZ, Q0, Q1, Q2, Q3, Q4, Q5, zX, zn, zo, zF, zA, Q6, Q7, Q8, Q9, Q10, Q11, Q12, Q13, Q14, Nat.reduceAdd, Q15, Int.reduceToNat, Q16, Q17, Q18, Q19, Q20, reduceIte, Q21, Q22, zw]; rfl) : P := e.mpr h
theorem gq35 {A P Q : Prop} (a : A) (h : Q) (e : A → P = Q := by intro a; simp -dsimp only [↓zfa, ↓zat, ↓zbt, ↓zfb, ↓zeW, ↓zeU, ↓zeX, ↓zeV, ↓zby, ↓zbu, ↓zbz, ↓zbv, ↓zeY, ↓zbs, ↓zbA, ↓zbw, ↓zbB, ↓zbx, ↓zeT, ↓zeZ, ↓zbr, ↓zbC, ↓zeQ, ↓zeP, ↓zeS, iN, bT, bF, eN, ↓zcO, ↓unC, ↓zP, ↓zG, ↓zH, ↓zK, ↓zW, ↓zaz, ↓zdn, ↓zau, ↓zbf, ↓zQ, ↓zg, ↓zf, ↓zbY, ↓zb, ↓zae, ↓zL, ↓zaN, ↓zaO, ↓zc, ↓zB, ↓zj, ↓zE, ↓zY, ↓zdz, ↓zdA, ↓zam, ↓zap, ↓zaK, ↓zaV, ↓zbj, ↓zm, ↓zai, ↓zJ, ↓zr, ↓zT, zdD, zbo, zbk, unA, zcZ, bnd, zdZ, zac, zR, zdT, dm, dm1, zI, zan, zeq, zep, zZ, Q0, Q1, Q2, Q3, Q4, Q5, zX, zn, zo, zF, zA, Q6, Q7, Q8, Q9, Q10, Q11, Q12, Q13, Q14, Nat.reduceAdd, Q15, Int.reduceToNat, Q16, Q17, Q18, Q19, Q20, reduceIte, Q21, Q22, Int.toNat_natCast, zw, a]; rfl) : P := (e a).mpr h
theorem gq36 {P Q : Prop} (h : Q) (e : P = Q := by simp -dsimp only [↓zfa, ↓zat, ↓zbt, ↓zfb, ↓zeW, ↓zeU, ↓zeX, ↓zeV, ↓zby, ↓zbu, ↓zbz, ↓zbv, ↓zeY, ↓zbs, ↓zbA, ↓zbw, ↓zbB, ↓zbx, ↓zeT, ↓zeZ, ↓zbr, ↓zbC, ↓zeQ, ↓zeP, ↓zeS, iN, bT, bF, eN, ↓zcO, ↓unC, ↓zP, ↓zG, ↓zH, ↓zK, ↓zW, ↓zaz, ↓zdn, ↓zau, ↓zbf, ↓zQ, ↓zg, ↓zf, ↓zbY, ↓zb, ↓zae, ↓zL, ↓zaN, ↓zaO, ↓zc, ↓zB, ↓zj, ↓zE, ↓zY, ↓zdz, ↓zdA, ↓zam, ↓zap, ↓zaK, ↓zaV, ↓zbj, ↓zm, ↓zai, ↓zJ, ↓zr, ↓zT, zdD, zbo, zbk, unA, zcZ, bnd, zdZ, zac, zR, zdT, dm, dm1, zI, zan, zeq, zep, zZ, Q0, Q1, Q2, Q3, Q4, Q5, zX, zn, zo, zF, zA, Q6, Q7, Q8, Q9, Q10, Q11, Q12, Q13, Q14, Nat.reduceAdd, Q15, Int.reduceToNat, Q16, Q17, Q18, Q19, Q20, reduceIte, Q21, Q22, zT, zw]; rfl) : P := e.mpr h
theorem zpE {σ : List zd} {a b : List (List UInt8)} (ha : a.length ≤ 1073741824) (hb : b.length ≤ 1073741824) {K : KT} (hK : K (.d (.bool (a == b))) σ) :
    zl Tryz.prog zar [.d (.slice (zgh a)), .d (.slice (zgh b)), .fn (.func zlo) [] []] σ K := by
  refine ze zaW.is rfl fun hl _ => zaW.goes ?_
  (refine gq32 ?_; try with_reducible exact True.intro)
  refine zaU (fun h => ?_) (fun h => ?_)
  all_goals (try (refine gq33 h ?_; try with_reducible exact True.intro))
  · refine zV hl ?_
    have : (a == b) = false := by
      rw [beq_eq_false_iff_ne]
      rintro rfl
      simp at h
    rw [this] at hK; exact hK
  have hl2 : a.length = b.length := by simp at h; omega
  refine zy a.length (fun k vs s => vs = [.d (.int .i64 k)] ∧ s = σ ∧ a.take k = b.take k) ⟨rfl, rfl, by simp⟩ ?_
  rintro k vs s hk ⟨rfl, rfl, htk⟩
  (refine gq34 ?_; try with_reducible exact True.intro)
  refine zaU (fun h => ?_) (fun h => ?_)
  all_goals (try (refine gq33 h ?_; try with_reducible exact True.intro))
  · have hka : k < a.length := by simp at h; omega
    have hx : a[k]? = some a[k] := by simp [hka]
    have hy : b[k]? = some (b[k]'(by omega)) := List.getElem?_eq_getElem _
    (refine gq35 (gqc3 (zhG hx) (zhG hy)) ?_; try with_reducible exact True.intro)
    refine ⟨by omega, by omega, c_Same_1 ?_⟩
    (refine gq36 ?_; try with_reducible exact True.intro)
    refine zaU (fun h => ?_) (fun h => ?_)
    all_goals (try (refine gq33 h ?_; try with_reducible exact True.intro))
    · refine zbp.next hka ⟨?_, rfl, zcG hx hy htk (by simpa using h)⟩
      rw [zbE (by omega) (by omega)]; rfl
    · refine zV hl ?_
      have : (a == b) = false := by
        rw [beq_eq_false_iff_ne]
        rintro rfl
        simp at h
      rw [this] at hK; exact hK
  · refine zV hl ?_
    have : (a == b) = true := by
      rw [beq_iff_eq]
      exact zed hl2 (k := k) (by simp at h; omega) htk
    rw [this] at hK; exact hK
theorem c_Same {σ : List zd} {a b : TOp} (ha : a.recs.length ≤ 1073741824) (hb : b.recs.length ≤ 1073741824) {K : KT} (hK : K (.d (.bool (decide (a = b)))) σ) : zl Tryz.prog zpe [opA a, opA b] σ K := by
  refine ze e_op_Same.is rfl fun hl _ => e_op_Same.goes ?_
  simp only [S_op_Same, iN, bT, bF, eN, opA]
  repeat' first
    | (refine gq30 ?_; try with_reducible exact True.intro)
    | (refine zaU (fun h => ?_) (fun h => ?_) <;> (try rw [h]))
    | refine zpE ha hb ?_
  all_goals refine zV hl ?_
  all_goals simp only [beq_iff_eq, beq_eq_false_iff_ne, ne_eq] at *
  · have e : decide (a = b) = (a.recs == b.recs) := by
      rw [Bool.eq_iff_iff]
      cases a; cases b
      simp_all
    rw [e] at hK; exact hK
  all_goals
    have e : decide (a = b) = false := by
      cases a; cases b
      simp_all
    rw [e] at hK; exact hK
end Go.Proofs.YtpgahkdjkanblaaGreat

/- Contracts: runes and names. -/
set_option maxRecDepth 100000
set_option linter.unusedSimpArgs false
namespace Go.Proofs.YtpgahkdjkanblaaGreat
open Go.AW

theorem c_Runes {σ : List zd} {s : List UInt8} (hs : s.length ≤ 1073741824) {K : KT} (hK : K (.d (.int .i64 (znO s))) σ) : zl Tryz.prog zqm [.d (.str s)] σ K := by
  refine ze ztU.is rfl fun hl _ => ztU.goes ?_
  simp only [zup, iN, bT, bF, eN, zai]
  refine zy s.length (fun pos vs s' => ∃ cnt : Nat, vs = [.d (.int .i64 cnt)] ∧ s' = σ ++ [.iter s pos] ∧ pos ≤ s.length ∧ cnt ≤ pos ∧ zhT (s.length + 1) s = (zhT (s.length + 1) (s.drop pos)).map (· + cnt)) ⟨0, rfl, rfl, by omega, by omega, by simp⟩ ?_
  rintro pos vs s' hp ⟨cnt, rfl, rfl, hps, hc, hr⟩
  simp only [zm, zpd, zo, List.getElem?_cons_zero]
  split
  · rename_i hlt
    have hd : s.drop pos ≠ [] := by intro e; have := congrArg List.length e; simp at this; omega
    have hw := goDec_width _ hd
    have hw2 := znF (s.drop pos)
    simp only [decode_eq s pos hlt]
    have hcount : zhT (s.length + 1) (s.drop pos) = if (zuT (s.drop pos)).2 = 0 ∨ badF (zuT (s.drop pos)).1 = true then none else (zhT s.length ((s.drop pos).drop (zuT (s.drop pos)).2)).map (· + 1) := by
      rw [zhT, if_neg hd]
    (repeat' (first | (refine gq30 ?_; try with_reducible exact True.intro) | (refine zaU (fun h => ?_) (fun h => ?_) <;> (try rw [h])) | ((with_reducible refine And.intro ?_ ?_); focus (first | omega | rfl | decide))))
    all_goals first
      | (refine zV hl ?_
         have hb : badF (zpj (s.drop pos)).1 = true := by
           simp only [badF]
           (try simp only [decide_eq_true_eq, decide_eq_false_iff_not, beq_iff_eq, beq_eq_false_iff_ne, bne_iff_ne, ne_eq, Bool.not_eq_true', Bool.not_eq_false', bne_eq_false_iff_eq] at *)
           omega
         rw [goDec_bad] at hb
         have : zhT (s.length + 1) (s.drop pos) = none := by rw [hcount, if_pos (by simpa using hb)]
         have h0 : znO s = 0 := by simp [znO, hr, this]
         rw [h0] at hK; exact hK)
      | skip
    all_goals
      have hb : badF (zpj (s.drop pos)).1 = false := by
        simp only [badF]
        (try simp only [decide_eq_true_eq, decide_eq_false_iff_not, beq_iff_eq, beq_eq_false_iff_ne, bne_iff_ne, ne_eq, Bool.not_eq_true', Bool.not_eq_false', bne_eq_false_iff_eq] at *)
        omega
      obtain ⟨g1, g2, g3⟩ := goDec_good hb
      rw [zbE (by omega) (by omega)]
      refine zbp.to (pos + (zpj (s.drop pos)).2) (by omega) (by simp at hw; omega) ⟨cnt + 1, rfl, rfl, by simp at hw; omega, by omega, ?_⟩
      rw [hr, hcount, if_neg (by simp [g2, g3]), g1, List.drop_drop, zsu s.length (s.length + 1) _ (by simp at *; omega) (by simp; omega)]
      cases zhT (s.length + 1) (List.drop (pos + (zuT (s.drop pos)).2) s) <;> simp
      omega
  · rename_i hlt
    have e : s.drop pos = [] := List.drop_eq_nil_of_le (by omega)
    have hcnt : zhT (s.length + 1) s = some cnt := by rw [hr, e]; simp [zhT]
    (refine gq34 ?_; try with_reducible exact True.intro)
    refine zaU (fun h => ?_) (fun h => ?_)
    all_goals (try (refine gq33 h ?_; try with_reducible exact True.intro))
    · refine zV hl ?_
      have h0 : znO s = 0 := by simp [znO, hcnt]; simp at h; omega
      rw [h0] at hK; exact hK
    · refine zV hl ?_
      have h0 : znO s = cnt := by simp [znO, hcnt]; simp at h; omega
      rw [h0] at hK; exact hK
theorem gq37 {P Q : Prop} (h : Q) (e : P = Q := by simp -dsimp only [↓zfa, ↓zat, ↓zbt, ↓zfb, ↓zeW, ↓zeU, ↓zeX, ↓zeV, ↓zby, ↓zbu, ↓zbz, ↓zbv, ↓zeY, ↓zbs, ↓zbA, ↓zbw, ↓zbB, ↓zbx, ↓zeT, ↓zeZ, ↓zbr, ↓zbC, ↓zeQ, ↓zeP, ↓zeS, iN, bT, bF, eN, ↓zcO, ↓unC, ↓zP, ↓zG, ↓zH, ↓zK, ↓zW, ↓zaz, ↓zdn, ↓zau, ↓zbf, ↓zQ, ↓zg, ↓zf, ↓zbY, ↓zb, ↓zae, ↓zL, ↓zaN, ↓zaO, ↓zc, ↓zB, ↓zj, ↓zE, ↓zY, ↓zdz, ↓zdA, ↓zam, ↓zap, ↓zaK, ↓zaV, ↓zbj, ↓zm, ↓zai, ↓zJ, ↓zr, ↓zT, zdD, zbo, zbk, unA, zcZ, bnd, zdZ, zac, zR, zdT, dm, dm1, zI, zan, zeq, zep, zZ, Q0, Q1, Q2, Q3, Q4, Q5, zX, zn, zo, zF, zA, Q6, Q7, Q8, Q9, Q10, Q11, Q12, Q13, Q14, Nat.reduceAdd, Q15, Int.reduceToNat, Q16, Q17, Q18, Q19, Q20, reduceIte, Q21, Q22, S_op_Name, zw]; rfl) : P := e.mpr h
theorem c_Name {σ : List zd} {s : List UInt8} (hs : s.length ≤ 1073741824) {K : KT} (hK : K (.d (.bool (zmI s))) σ) : zl Tryz.prog zpf [.d (.str s)] σ K := by
  refine ze e_op_Name.is rfl fun hl _ => e_op_Name.goes ?_
  (refine gq37 ?_; try with_reducible exact True.intro)
  refine c_Runes hs ?_
  (refine gq34 ?_; try with_reducible exact True.intro)
  refine zV hl ?_
  have : decide ((znO s : Int) > 0) = zmI s := by simp [zmI]
  rw [this]; exact hK
end Go.Proofs.YtpgahkdjkanblaaGreat

/- Contracts: the reference's runes and names. -/
set_option maxRecDepth 100000
set_option linter.unusedSimpArgs false
namespace Go.Proofs.YtpgahkdjkanblaaGreat
open Go.AW

end Go.Proofs.YtpgahkdjkanblaaGreat

/- Contracts: which operations may be. -/
set_option maxRecDepth 100000
set_option linter.unusedSimpArgs false
namespace Go.Proofs.YtpgahkdjkanblaaGreat
open Go.AW

theorem c_Check_1 {σ : List zd} {r : List UInt8} {K : KT} (hK : K (.d (.bool (decide (r.length > 64)))) σ) : zl Tryz.prog zjM [.d (.slice (bcs r))] σ K := by
  refine ze zrf.is rfl fun hl _ => zrf.goes ?_
  simp only [zrn, iN, bT, bF, eN]
  (refine gq34 ?_; try with_reducible exact True.intro)
  refine zV hl ?_
  have : decide (((bcs r).length : Int) > 64) = decide (r.length > 64) := by simp [bcs]; omega
  rw [this]; exact hK
theorem gq38 {P Q : Prop} (h : Q) (e : P = Q := by simp -dsimp only [↓zfa, ↓zat, ↓zbt, ↓zfb, ↓zeW, ↓zeU, ↓zeX, ↓zeV, ↓zby, ↓zbu, ↓zbz, ↓zbv, ↓zeY, ↓zbs, ↓zbA, ↓zbw, ↓zbB, ↓zbx, ↓zeT, ↓zeZ, ↓zbr, ↓zbC, ↓zeQ, ↓zeP, ↓zeS, iN, bT, bF, eN, ↓zcO, ↓unC, ↓zP, ↓zG, ↓zH, ↓zK, ↓zW, ↓zaz, ↓zdn, ↓zau, ↓zbf, ↓zQ, ↓zg, ↓zf, ↓zbY, ↓zb, ↓zae, ↓zL, ↓zaN, ↓zaO, ↓zc, ↓zB, ↓zj, ↓zE, ↓zY, ↓zdz, ↓zdA, ↓zam, ↓zap, ↓zaK, ↓zaV, ↓zbj, ↓zm, ↓zai, ↓zJ, ↓zr, ↓zT, zdD, zbo, zbk, unA, zcZ, bnd, zdZ, zac, zR, zdT, dm, dm1, zI, zan, zeq, zep, zZ, Q0, Q1, Q2, Q3, Q4, Q5, zX, zn, zo, zF, zA, Q6, Q7, Q8, Q9, Q10, Q11, Q12, Q13, Q14, Nat.reduceAdd, Q15, Int.reduceToNat, Q16, Q17, Q18, Q19, Q20, reduceIte, Q21, Q22, dmT, zdy, zw]; rfl) : P := e.mpr h
theorem znb {σ : List zd} {a : List (List UInt8)} (ha : a.length ≤ 1073741824) {K : KT} (hK : K (.d (.bool (a.any fun r => decide (r.length > 64)))) σ) :
    zl Tryz.prog zbm [.d (.slice (zgh a)), .fn (.func zjM) [] []] σ K := by
  refine ze zch.is rfl fun hl _ => zch.goes ?_
  simp only [zcj, iN, bT, bF, eN]
  (refine gq34 ?_; try with_reducible exact True.intro)
  refine ze zcy.is rfl fun hl _ => zcy.goes ?_
  simp only [zcz, iN, bT, bF, eN]
  (refine gq34 ?_; try with_reducible exact True.intro)
  refine zy a.length (fun k vs s => vs = [.d (.int .i64 k)] ∧ s = σ ∧ ∀ r ∈ a.take k, ¬ r.length > 64) ⟨rfl, rfl, by simp⟩ ?_
  rintro k vs s hk ⟨rfl, rfl, htk⟩
  (refine gq34 ?_; try with_reducible exact True.intro)
  refine zaU (fun h => ?_) (fun h => ?_)
  · have hka : k < a.length := by (try simp only [decide_eq_true_eq, decide_eq_false_iff_not, beq_iff_eq, beq_eq_false_iff_ne, bne_iff_ne, ne_eq, Bool.not_eq_true', Bool.not_eq_false', bne_eq_false_iff_eq] at *); omega
    have hx : a[k]? = some a[k] := by simp [hka]
    (refine gq33 (zhG hx) ?_; try with_reducible exact True.intro)
    refine And.intro (by omega) (c_Check_1 ?_)
    (refine gq34 ?_; try with_reducible exact True.intro)
    refine zaU (fun h => ?_) (fun h => ?_)
    · refine zV hl ?_
      (refine gq38 ?_; try with_reducible exact True.intro)
      refine zV hl ?_
      have e1 : decide ((k : Int) ≥ 0) = true := by simp
      have e2 : (a.any fun r => decide (r.length > 64)) = true := by
        rw [List.any_eq_true]
        exact ⟨a[k], List.getElem_mem _, h⟩
      rw [e2] at hK
      simp only [zdy, dmT, dm, dm1]
      rw [e1]; exact hK
    · (refine gq34 ?_; try with_reducible exact True.intro)
      refine zbp.next hka ⟨?_, rfl, fun r hr => ?_⟩
      · rw [zbE (by omega) (by omega)]; rfl
      · rw [List.take_add_one, hx] at hr
        rcases List.mem_append.1 hr with hr | hr
        · exact htk r hr
        · have : r = a[k] := by simpa using hr
          subst this
          simpa using h
  · refine zV hl ?_
    (refine gq38 ?_; try with_reducible exact True.intro)
    refine zV hl ?_
    have e2 : (a.any fun r => decide (r.length > 64)) = false := by
      rw [List.any_eq_false]
      intro r hr
      have hk' : k = a.length := by (try simp only [decide_eq_true_eq, decide_eq_false_iff_not, beq_iff_eq, beq_eq_false_iff_ne, bne_iff_ne, ne_eq, Bool.not_eq_true', Bool.not_eq_false', bne_eq_false_iff_eq] at *); omega
      rw [hk', List.take_length] at htk
      simpa using htk r hr
    rw [e2] at hK
    exact hK
theorem gq39 {P Q : Prop} (h : Q) (e : P = Q := by simp -dsimp only [↓zfa, ↓zat, ↓zbt, ↓zfb, ↓zeW, ↓zeU, ↓zeX, ↓zeV, ↓zby, ↓zbu, ↓zbz, ↓zbv, ↓zeY, ↓zbs, ↓zbA, ↓zbw, ↓zbB, ↓zbx, ↓zeT, ↓zeZ, ↓zbr, ↓zbC, ↓zeQ, ↓zeP, ↓zeS, iN, bT, bF, eN, ↓zcO, ↓unC, ↓zP, ↓zG, ↓zH, ↓zK, ↓zW, ↓zaz, ↓zdn, ↓zau, ↓zbf, ↓zQ, ↓zg, ↓zf, ↓zbY, ↓zb, ↓zae, ↓zL, ↓zaN, ↓zaO, ↓zc, ↓zB, ↓zj, ↓zE, ↓zY, ↓zdz, ↓zdA, ↓zam, ↓zap, ↓zaK, ↓zaV, ↓zbj, ↓zm, ↓zai, ↓zJ, ↓zr, ↓zT, zdD, zbo, zbk, unA, zcZ, bnd, zdZ, zac, zR, zdT, dm, dm1, zI, zan, zeq, zep, zZ, Q0, Q1, Q2, Q3, Q4, Q5, zX, zn, zo, zF, zA, Q6, Q7, Q8, Q9, Q10, Q11, Q12, Q13, Q14, Nat.reduceAdd, Q15, Int.reduceToNat, Q16, Q17, Q18, Q19, Q20, reduceIte, Q21, Q22, zw, rep, zU, zeo, toD, zaa, Q23, Q24, Q25, Q26, Q27, Q28, Nat.reduceLeDiff, Q29, Nat.reduceSub, Q30, Q31, Q32, sc, Q33, Q34, Q35, opA]; rfl) : P := e.mpr h
theorem c_Check {σ : List zd} {o : TOp} (ht : o.topic.length ≤ 1073741824) (hg : o.group.length ≤ 1073741824) (hr : o.recs.length ≤ 1073741824) {K : KT} (hK : K (.d (.int .i64 (zeD zmI o))) σ) : zl Tryz.prog znz [opA o] σ K := by
  refine ze ztW.is rfl fun hl _ => ztW.goes ?_
  simp only [zur, iN, bT, bF, eN, opA]
  (refine gq30 ?_; try with_reducible exact True.intro)
  refine c_only (o := o) ?_
  have honly : (zos o).recs.length ≤ 1073741824 := by unfold zos noOp; split <;> (try split) <;> (try split) <;> (try split) <;> simp <;> omega
  (refine gq39 ?_; try with_reducible exact True.intro)
  repeat' first
    | (refine gq30 ?_; try with_reducible exact True.intro)
    | refine c_Same (a := o) (b := zos o) hr honly ?_
    | refine c_Name ht ?_
    | refine c_Name hg ?_
    | refine znb hr ?_
    | (refine zaU (fun h => ?_) (fun h => ?_) <;> (try rw [h]))
    | ((with_reducible refine And.intro ?_ ?_); focus (first | omega | rfl | decide))
  all_goals refine zV hl ?_
  all_goals (try simp only [decide_eq_true_eq, decide_eq_false_iff_not, beq_iff_eq, beq_eq_false_iff_ne, bne_iff_ne, ne_eq, Bool.not_eq_true', Bool.not_eq_false', bne_eq_false_iff_eq] at *)
  all_goals
    simp only [zdy, dmT, dm, dm1]
    have e : ∀ z : Int, zeD zmI o = z → K (.d (.int .i64 z)) σ := fun z hz => by rw [← hz]; exact hK
    clear hK
    apply e
    first
    | grind [zeD]
    | skip
end Go.Proofs.YtpgahkdjkanblaaGreat

/- Contracts: which operations may be, by the reference. -/
set_option maxRecDepth 100000
set_option linter.unusedSimpArgs false
namespace Go.Proofs.YtpgahkdjkanblaaGreat
open Go.AW

end Go.Proofs.YtpgahkdjkanblaaGreat
