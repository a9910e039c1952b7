/- Contracts of operations: which are the same. -/
import Derived.Test.YthpnelbciibjeaaCodec1
import Derived.Test.YthpnelbciibjeaaSpNum
import Derived.Test.YthpnelbciibjeaaSpUtf
set_option linter.all false
set_option maxRecDepth 100000
set_option linter.unusedSimpArgs false
namespace Go.Proofs.Ythpnelbciibjeaa
open Go.AW

theorem gq9 {P Q : Prop} (h : Q) (e : P = Q := by simp -dsimp only [↓ziv, ↓zbi, ↓zcW, ↓zix, ↓zio, ↓zim, ↓ziq, ↓zin, ↓zdb, ↓zcX, ↓zdc, ↓zcY, ↓zir, ↓zcU, ↓zdd, ↓zcZ, ↓zde, ↓zda, ↓zil, ↓ziu, ↓zcS, ↓zdf, ↓zia, ↓zhZ, ↓zij, iN, bT, bF, eN, ↓zeU, ↓unC, ↓zah, ↓zR, ↓zS, ↓zad, ↓zaG, ↓zbl, ↓zea, ↓zaj, ↓zcA, ↓zau, ↓zu, ↓zo, ↓zcT, ↓zi, ↓zax, ↓zac, ↓zbm, ↓zbg, ↓zd, ↓zK, ↓zq, ↓zJ, ↓zaI, ↓zeE, ↓zfi, ↓zat, ↓zaW, ↓zaY, ↓zbC, ↓zck, ↓zG, ↓zaA, ↓zQ, ↓zF, ↓zaE, zfb, zcF, zcr, unA, zfm, bnd, zfY, zap, zaw, zfQ, dm, dm1, zA, zaT, zgP, zgO, zZ, Q0, Q1, Q2, Q3, Q4, Q5, zaD, zI, zr, zav, zW, Q6, Q7, Q8, Q9, Q10, Q11, Q12, Q13, Q14, Nat.reduceAdd, Q15, Int.reduceToNat, Q16, Q17, Q18, Q19, Q20, reduceIte, Q21, Q22, zD, rep, zT, zgN, toD, zan, Q23, Q24, Q25, Q26, Q27, Q28, Nat.reduceLeDiff, Q29, Nat.reduceSub, Q30, Q31, Q32, sc, Q33, Q34, Q35]; rfl) : P := e.mpr h
theorem c_only {σ : List zc} {o : TOp} {K : AV → List zc → Prop} (hK : K (.tup [opA (onlyF o), .d (.bool (zhF o))]) σ) : zj Try.prog zlz [opA o] σ K := by
  refine zhr e_op_only fun hl => ?_
  simp only [S_op_only, iN, bT, bF, eN, zl1, opA]
  (repeat' (first | (refine gq9 ?_; try with_reducible exact True.intro) | (refine zbf (fun h => ?_) (fun h => ?_) <;> (try rw [h])) | ((with_reducible refine And.intro ?_ ?_); focus (first | omega | rfl | decide))))

  all_goals refine zbD hl ?_
  all_goals simp only [beq_iff_eq, beq_eq_false_iff_ne, ne_eq] at *
  all_goals simp_all [zdg, dmT, dm, dm1, onlyF, noOp, opA, zhF, zbK]
  have e : (decide (0 ≤ o.kind) && decide (o.kind ≤ 4)) = false := by simp; omega
  rw [e] at hK
  exact hK
theorem gq10 {P Q : Prop} (h : Q) (e : P = Q := by simp -dsimp only [↓ziv, ↓zbi, ↓zcW, ↓zix, ↓zio, ↓zim, ↓ziq, ↓zin, ↓zdb, ↓zcX, ↓zdc, ↓zcY, ↓zir, ↓zcU, ↓zdd, ↓zcZ, ↓zde, ↓zda, ↓zil, ↓ziu, ↓zcS, ↓zdf, ↓zia, ↓zhZ, ↓zij, iN, bT, bF, eN, ↓zeU, ↓unC, ↓zah, ↓zR, ↓zS, ↓zad, ↓zaG, ↓zbl, ↓zea, ↓zaj, ↓zcA, ↓zau, ↓zu, ↓zo, ↓zcT, ↓zi, ↓zax, ↓zac, ↓zbm, ↓zbg, ↓zd, ↓zK, ↓zq, ↓zJ, ↓zaI, ↓zeE, ↓zfi, ↓zat, ↓zaW, ↓zaY, ↓zbC, ↓zck, ↓zG, ↓zaA, ↓zQ, ↓zF, ↓zaE, zfb, zcF, zcr, unA, zfm, bnd, zfY, zap, zaw, zfQ, dm, dm1, zA, zaT, zgP, zgO, zZ, Q0, Q1, Q2, Q3, Q4, Q5, zaD, zI, zr, zav, zW, Q6, Q7, Q8, Q9, Q10, Q11, Q12, Q13, Q14, Nat.reduceAdd, Q15, Int.reduceToNat, Q16, Q17, Q18, Q19, Q20, reduceIte, Q21, Q22, zmk, zD]; rfl) : P := e.mpr h
theorem c_Same_1 {σ : List zc} {a b : List UInt8} {K : AV → List zc → Prop} (hK : K (.d (.bool (a == b))) σ) : zj Try.prog zgs [.d (.slice (bcs a)), .d (.slice (bcs b))] σ K := by
  refine zla e_op_Same_1 fun hl => ?_
  (refine gq10 ?_; try with_reducible exact True.intro)
  refine zok ?_
  refine zbD hl ?_
  exact hK
theorem zgp {A B : Prop} (a : A) (b : B) : A ∧ B := ⟨a, b⟩
theorem gq11 {P Q : Prop} (h : Q) (e : P = Q := by simp -dsimp only [↓ziv, ↓zbi, ↓zcW, ↓zix, ↓zio, ↓zim, ↓ziq, ↓zin, ↓zdb, ↓zcX, ↓zdc, ↓zcY, ↓zir, ↓zcU, ↓zdd, ↓zcZ, ↓zde, ↓zda, ↓zil, ↓ziu, ↓zcS, ↓zdf, ↓zia, ↓zhZ, ↓zij, iN, bT, bF, eN, ↓zeU, ↓unC, ↓zah, ↓zR, ↓zS, ↓zad, ↓zaG, ↓zbl, ↓zea, ↓zaj, ↓zcA, ↓zau, ↓zu, ↓zo, ↓zcT, ↓zi, ↓zax, ↓zac, ↓zbm, ↓zbg, ↓zd, ↓zK, ↓zq, ↓zJ, ↓zaI, ↓zeE, ↓zfi, ↓zat, ↓zaW, ↓zaY, ↓zbC, ↓zck, ↓zG, ↓zaA, ↓zQ, ↓zF, ↓zaE, zfb, zcF, zcr, unA, zfm, bnd, zfY, zap, zaw, zfQ, dm, dm1, zA, zaT, zgP, zgO, zZ, Q0, Q1, Q2, Q3, Q4, Q5, zaD, zI, zr, zav, zW, Q6, Q7, Q8, Q9, Q10, Q11, Q12, Q13, Q14, Nat.reduceAdd, Q15, Int.reduceToNat, Q16, Q17, Q18, Q19, Q20, reduceIte, Q21, Q22, zU, zD]; rfl) : P := e.mpr h
theorem gq12 {A P Q : Prop} (a : A) (h : Q) (e : A → P = Q := by intro a; simp -dsimp only [↓ziv, ↓zbi, ↓zcW, ↓zix, ↓zio, ↓zim, ↓ziq, ↓zin, ↓zdb, ↓zcX, ↓zdc, ↓zcY, ↓zir, ↓zcU, ↓zdd, ↓zcZ, ↓zde, ↓zda, ↓zil, ↓ziu, ↓zcS, ↓zdf, ↓zia, ↓zhZ, ↓zij, iN, bT, bF, eN, ↓zeU, ↓unC, ↓zah, ↓zR, ↓zS, ↓zad, ↓zaG, ↓zbl, ↓zea, ↓zaj, ↓zcA, ↓zau, ↓zu, ↓zo, ↓zcT, ↓zi, ↓zax, ↓zac, ↓zbm, ↓zbg, ↓zd, ↓zK, ↓zq, ↓zJ, ↓zaI, ↓zeE, ↓zfi, ↓zat, ↓zaW, ↓zaY, ↓zbC, ↓zck, ↓zG, ↓zaA, ↓zQ, ↓zF, ↓zaE, zfb, zcF, zcr, unA, zfm, bnd, zfY, zap, zaw, zfQ, dm, dm1, zA, zaT, zgP, zgO, zZ, Q0, Q1, Q2, Q3, Q4, Q5, zaD, zI, zr, zav, zW, Q6, Q7, Q8, Q9, Q10, Q11, Q12, Q13, Q14, Nat.reduceAdd, Q15, Int.reduceToNat, Q16, Q17, Q18, Q19, Q20, reduceIte, Q21, Q22, zD, a]; rfl) : P := (e a).mpr h
theorem gq13 {P Q : Prop} (h : Q) (e : P = Q := by simp -dsimp only [↓ziv, ↓zbi, ↓zcW, ↓zix, ↓zio, ↓zim, ↓ziq, ↓zin, ↓zdb, ↓zcX, ↓zdc, ↓zcY, ↓zir, ↓zcU, ↓zdd, ↓zcZ, ↓zde, ↓zda, ↓zil, ↓ziu, ↓zcS, ↓zdf, ↓zia, ↓zhZ, ↓zij, iN, bT, bF, eN, ↓zeU, ↓unC, ↓zah, ↓zR, ↓zS, ↓zad, ↓zaG, ↓zbl, ↓zea, ↓zaj, ↓zcA, ↓zau, ↓zu, ↓zo, ↓zcT, ↓zi, ↓zax, ↓zac, ↓zbm, ↓zbg, ↓zd, ↓zK, ↓zq, ↓zJ, ↓zaI, ↓zeE, ↓zfi, ↓zat, ↓zaW, ↓zaY, ↓zbC, ↓zck, ↓zG, ↓zaA, ↓zQ, ↓zF, ↓zaE, zfb, zcF, zcr, unA, zfm, bnd, zfY, zap, zaw, zfQ, dm, dm1, zA, zaT, zgP, zgO, zZ, Q0, Q1, Q2, Q3, Q4, Q5, zaD, zI, zr, zav, zW, Q6, Q7, Q8, Q9, Q10, Q11, Q12, Q13, Q14, Nat.reduceAdd, Q15, Int.reduceToNat, Q16, Q17, Q18, Q19, Q20, reduceIte, Q21, Q22, zD]; rfl) : P := e.mpr h
theorem gq14 {A P Q : Prop} (a : A) (h : Q) (e : A → P = Q := by intro a; simp -dsimp only [↓ziv, ↓zbi, ↓zcW, ↓zix, ↓zio, ↓zim, ↓ziq, ↓zin, ↓zdb, ↓zcX, ↓zdc, ↓zcY, ↓zir, ↓zcU, ↓zdd, ↓zcZ, ↓zde, ↓zda, ↓zil, ↓ziu, ↓zcS, ↓zdf, ↓zia, ↓zhZ, ↓zij, iN, bT, bF, eN, ↓zeU, ↓unC, ↓zah, ↓zR, ↓zS, ↓zad, ↓zaG, ↓zbl, ↓zea, ↓zaj, ↓zcA, ↓zau, ↓zu, ↓zo, ↓zcT, ↓zi, ↓zax, ↓zac, ↓zbm, ↓zbg, ↓zd, ↓zK, ↓zq, ↓zJ, ↓zaI, ↓zeE, ↓zfi, ↓zat, ↓zaW, ↓zaY, ↓zbC, ↓zck, ↓zG, ↓zaA, ↓zQ, ↓zF, ↓zaE, zfb, zcF, zcr, unA, zfm, bnd, zfY, zap, zaw, zfQ, dm, dm1, zA, zaT, zgP, zgO, zZ, Q0, Q1, Q2, Q3, Q4, Q5, zaD, zI, zr, zav, zW, Q6, Q7, Q8, Q9, Q10, Q11, Q12, Q13, Q14, Nat.reduceAdd, Q15, Int.reduceToNat, Q16, Q17, Q18, Q19, Q20, reduceIte, Q21, Q22, Int.toNat_natCast, zD, a]; rfl) : P := (e a).mpr h
theorem gq15 {P Q : Prop} (h : Q) (e : P = Q := by simp -dsimp only [↓ziv, ↓zbi, ↓zcW, ↓zix, ↓zio, ↓zim, ↓ziq, ↓zin, ↓zdb, ↓zcX, ↓zdc, ↓zcY, ↓zir, ↓zcU, ↓zdd, ↓zcZ, ↓zde, ↓zda, ↓zil, ↓ziu, ↓zcS, ↓zdf, ↓zia, ↓zhZ, ↓zij, iN, bT, bF, eN, ↓zeU, ↓unC, ↓zah, ↓zR, ↓zS, ↓zad, ↓zaG, ↓zbl, ↓zea, ↓zaj, ↓zcA, ↓zau, ↓zu, ↓zo, ↓zcT, ↓zi, ↓zax, ↓zac, ↓zbm, ↓zbg, ↓zd, ↓zK, ↓zq, ↓zJ, ↓zaI, ↓zeE, ↓zfi, ↓zat, ↓zaW, ↓zaY, ↓zbC, ↓zck, ↓zG, ↓zaA, ↓zQ, ↓zF, ↓zaE, zfb, zcF, zcr, unA, zfm, bnd, zfY, zap, zaw, zfQ, dm, dm1, zA, zaT, zgP, zgO, zZ, Q0, Q1, Q2, Q3, Q4, Q5, zaD, zI, zr, zav, zW, Q6, Q7, Q8, Q9, Q10, Q11, Q12, Q13, Q14, Nat.reduceAdd, Q15, Int.reduceToNat, Q16, Q17, Q18, Q19, Q20, reduceIte, Q21, Q22, zaE, zD]; rfl) : P := e.mpr h
theorem zjw {σ : List zc} {a b : List (List UInt8)} (ha : a.length ≤ 1073741824) (hb : b.length ≤ 1073741824) {K : AV → List zc → Prop} (hK : K (.d (.bool (a == b))) σ) :
    zj Try.prog zH [.d (.slice (zbK a)), .d (.slice (zbK b)), .fn (.func zgs) [] []] σ K := by
  refine acE3 zaO fun hl => ?_
  (refine gq11 ?_; try with_reducible exact True.intro)
  refine zbf (fun h => ?_) (fun h => ?_)
  all_goals (try (refine gq12 h ?_; try with_reducible exact True.intro))
  · refine zbD hl ?_
    have : (a == b) = false := by
      rw [beq_eq_false_iff_ne]
      rintro rfl
      simp at h
    rw [this] at hK; exact hK
  have hl2 : a.length = b.length := by simp at h; omega
  refine zV a.length (fun k vs s => vs = [.d (.int .i64 k)] ∧ s = σ ∧ a.take k = b.take k) ⟨rfl, rfl, by simp⟩ ?_
  rintro k vs s hk ⟨rfl, rfl, htk⟩
  (refine gq13 ?_; try with_reducible exact True.intro)
  refine zbf (fun h => ?_) (fun h => ?_)
  all_goals (try (refine gq12 h ?_; try with_reducible exact True.intro))
  · have hka : k < a.length := by simp at h; omega
    have hx : a[k]? = some a[k] := by simp [hka]
    have hy : b[k]? = some (b[k]'(by omega)) := List.getElem?_eq_getElem _
    (refine gq14 (zgp (zgW hx) (zgW hy)) ?_; try with_reducible exact True.intro)
    refine ⟨by omega, by omega, c_Same_1 ?_⟩
    (refine gq15 ?_; try with_reducible exact True.intro)
    refine zbf (fun h => ?_) (fun h => ?_)
    all_goals (try (refine gq12 h ?_; try with_reducible exact True.intro))
    · refine zcd.next hka ⟨?_, rfl, take_succ_eq hx hy htk (by simpa using h)⟩
      rw [zbJ (by omega) (by omega)]; rfl
    · refine zbD hl ?_
      have : (a == b) = false := by
        rw [beq_eq_false_iff_ne]
        rintro rfl
        simp at h
      rw [this] at hK; exact hK
  · refine zbD hl ?_
    have : (a == b) = true := by
      rw [beq_iff_eq]
      exact take_eq_of hl2 (k := k) (by simp at h; omega) htk
    rw [this] at hK; exact hK
theorem c_Same {σ : List zc} {a b : TOp} (ha : a.recs.length ≤ 1073741824) (hb : b.recs.length ≤ 1073741824) {K : AV → List zc → Prop} (hK : K (.d (.bool (decide (a = b)))) σ) : zj Try.prog zlA [opA a, opA b] σ K := by
  refine zla e_op_Same fun hl => ?_
  simp only [S_op_Same, iN, bT, bF, eN, opA]
  repeat' first
    | (refine gq9 ?_; try with_reducible exact True.intro)
    | (refine zbf (fun h => ?_) (fun h => ?_) <;> (try rw [h]))
    | refine zjw ha hb ?_
  all_goals refine zbD hl ?_
  all_goals simp only [beq_iff_eq, beq_eq_false_iff_ne, ne_eq] at *
  · have e : decide (a = b) = (a.recs == b.recs) := by
      rw [Bool.eq_iff_iff]
      cases a; cases b
      simp_all
    rw [e] at hK; exact hK
  all_goals
    have e : decide (a = b) = false := by
      cases a; cases b
      simp_all
    rw [e] at hK; exact hK

theorem c_Runes {σ : List zc} {s : List UInt8} (hs : s.length ≤ 1073741824) {K : AV → List zc → Prop} (hK : K (.d (.int .i64 (zic s))) σ) : zj Try.prog zjY [.d (.str s)] σ K := by
  refine zhr e_op_Runes fun hl => ?_
  simp only [znm, iN, bT, bF, eN, zaA]
  refine zV s.length (fun pos vs s' => ∃ cnt : Nat, vs = [.d (.int .i64 cnt)] ∧ s' = σ ++ [.iter s pos] ∧ pos ≤ s.length ∧ cnt ≤ pos ∧ zdV (s.length + 1) s = (zdV (s.length + 1) (s.drop pos)).map (· + cnt)) ⟨0, rfl, rfl, by omega, by omega, by simp⟩ ?_
  rintro pos vs s' hp ⟨cnt, rfl, rfl, hps, hc, hr⟩
  simp only [zG, zjh, zr, List.getElem?_cons_zero]
  split
  · rename_i hlt
    have hd : s.drop pos ≠ [] := by intro e; have := congrArg List.length e; simp at this; omega
    have hw := goDec_width _ hd
    have hw2 := zhM (s.drop pos)
    simp only [decode_eq s pos hlt]
    have hcount : zdV (s.length + 1) (s.drop pos) = if (zoa (s.drop pos)).2 = 0 ∨ badF (zoa (s.drop pos)).1 = true then none else (zdV s.length ((s.drop pos).drop (zoa (s.drop pos)).2)).map (· + 1) := by
      rw [zdV, if_neg hd]
    (repeat' (first | (refine gq9 ?_; try with_reducible exact True.intro) | (refine zbf (fun h => ?_) (fun h => ?_) <;> (try rw [h])) | ((with_reducible refine And.intro ?_ ?_); focus (first | omega | rfl | decide))))
    all_goals first
      | (refine zbD hl ?_
         have hb : badF (zjn (s.drop pos)).1 = true := by
           simp only [badF]
           (try simp only [decide_eq_true_eq, decide_eq_false_iff_not, beq_iff_eq, beq_eq_false_iff_ne, bne_iff_ne, ne_eq, Bool.not_eq_true', Bool.not_eq_false', bne_eq_false_iff_eq] at *)
           omega
         rw [goDec_bad] at hb
         have : zdV (s.length + 1) (s.drop pos) = none := by rw [hcount, if_pos (by simpa using hb)]
         have h0 : zic s = 0 := by simp [zic, hr, this]
         rw [h0] at hK; exact hK)
      | skip
    all_goals
      have hb : badF (zjn (s.drop pos)).1 = false := by
        simp only [badF]
        (try simp only [decide_eq_true_eq, decide_eq_false_iff_not, beq_iff_eq, beq_eq_false_iff_ne, bne_iff_ne, ne_eq, Bool.not_eq_true', Bool.not_eq_false', bne_eq_false_iff_eq] at *)
        omega
      obtain ⟨g1, g2, g3⟩ := goDec_good hb
      rw [zbJ (by omega) (by omega)]
      refine zcd.to (pos + (zjn (s.drop pos)).2) (by omega) (by simp at hw; omega) ⟨cnt + 1, rfl, rfl, by simp at hw; omega, by omega, ?_⟩
      rw [hr, hcount, if_neg (by simp [g2, g3]), g1, List.drop_drop, zlV s.length (s.length + 1) _ (by simp at *; omega) (by simp; omega)]
      cases zdV (s.length + 1) (List.drop (pos + (zoa (s.drop pos)).2) s) <;> simp
      omega
  · rename_i hlt
    have e : s.drop pos = [] := List.drop_eq_nil_of_le (by omega)
    have hcnt : zdV (s.length + 1) s = some cnt := by rw [hr, e]; simp [zdV]
    (refine gq13 ?_; try with_reducible exact True.intro)
    refine zbf (fun h => ?_) (fun h => ?_)
    all_goals (try (refine gq12 h ?_; try with_reducible exact True.intro))
    · refine zbD hl ?_
      have h0 : zic s = 0 := by simp [zic, hcnt]; simp at h; omega
      rw [h0] at hK; exact hK
    · refine zbD hl ?_
      have h0 : zic s = cnt := by simp [zic, hcnt]; simp at h; omega
      rw [h0] at hK; exact hK
theorem gq16 {P Q : Prop} (h : Q) (e : P = Q := by simp -dsimp only [↓ziv, ↓zbi, ↓zcW, ↓zix, ↓zio, ↓zim, ↓ziq, ↓zin, ↓zdb, ↓zcX, ↓zdc, ↓zcY, ↓zir, ↓zcU, ↓zdd, ↓zcZ, ↓zde, ↓zda, ↓zil, ↓ziu, ↓zcS, ↓zdf, ↓zia, ↓zhZ, ↓zij, iN, bT, bF, eN, ↓zeU, ↓unC, ↓zah, ↓zR, ↓zS, ↓zad, ↓zaG, ↓zbl, ↓zea, ↓zaj, ↓zcA, ↓zau, ↓zu, ↓zo, ↓zcT, ↓zi, ↓zax, ↓zac, ↓zbm, ↓zbg, ↓zd, ↓zK, ↓zq, ↓zJ, ↓zaI, ↓zeE, ↓zfi, ↓zat, ↓zaW, ↓zaY, ↓zbC, ↓zck, ↓zG, ↓zaA, ↓zQ, ↓zF, ↓zaE, zfb, zcF, zcr, unA, zfm, bnd, zfY, zap, zaw, zfQ, dm, dm1, zA, zaT, zgP, zgO, zZ, Q0, Q1, Q2, Q3, Q4, Q5, zaD, zI, zr, zav, zW, Q6, Q7, Q8, Q9, Q10, Q11, Q12, Q13, Q14, Nat.reduceAdd, Q15, Int.reduceToNat, Q16, Q17, Q18, Q19, Q20, reduceIte, Q21, Q22, S_op_Name, zD]; rfl) : P := e.mpr h
theorem c_Name {σ : List zc} {s : List UInt8} (hs : s.length ≤ 1073741824) {K : AV → List zc → Prop} (hK : K (.d (.bool (zcs s))) σ) : zj Try.prog zji [.d (.str s)] σ K := by
  refine zhr e_op_Name fun hl => ?_
  (refine gq16 ?_; try with_reducible exact True.intro)
  refine c_Runes hs ?_
  (refine gq13 ?_; try with_reducible exact True.intro)
  refine zbD hl ?_
  have : decide ((zic s : Int) > 0) = zcs s := by simp [zcs]
  rw [this]; exact hK


theorem c_Check_1 {σ : List zc} {r : List UInt8} {K : AV → List zc → Prop} (hK : K (.d (.bool (decide (r.length > 64)))) σ) : zj Try.prog zfA [.d (.slice (bcs r))] σ K := by
  refine zhr e_op_Check_1 fun hl => ?_
  simp only [zkJ, iN, bT, bF, eN]
  (refine gq13 ?_; try with_reducible exact True.intro)
  refine zbD hl ?_
  have : decide (((bcs r).length : Int) > 64) = decide (r.length > 64) := by simp [bcs]; omega
  rw [this]; exact hK
theorem gq17 {P Q : Prop} (h : Q) (e : P = Q := by simp -dsimp only [↓ziv, ↓zbi, ↓zcW, ↓zix, ↓zio, ↓zim, ↓ziq, ↓zin, ↓zdb, ↓zcX, ↓zdc, ↓zcY, ↓zir, ↓zcU, ↓zdd, ↓zcZ, ↓zde, ↓zda, ↓zil, ↓ziu, ↓zcS, ↓zdf, ↓zia, ↓zhZ, ↓zij, iN, bT, bF, eN, ↓zeU, ↓unC, ↓zah, ↓zR, ↓zS, ↓zad, ↓zaG, ↓zbl, ↓zea, ↓zaj, ↓zcA, ↓zau, ↓zu, ↓zo, ↓zcT, ↓zi, ↓zax, ↓zac, ↓zbm, ↓zbg, ↓zd, ↓zK, ↓zq, ↓zJ, ↓zaI, ↓zeE, ↓zfi, ↓zat, ↓zaW, ↓zaY, ↓zbC, ↓zck, ↓zG, ↓zaA, ↓zQ, ↓zF, ↓zaE, zfb, zcF, zcr, unA, zfm, bnd, zfY, zap, zaw, zfQ, dm, dm1, zA, zaT, zgP, zgO, zZ, Q0, Q1, Q2, Q3, Q4, Q5, zaD, zI, zr, zav, zW, Q6, Q7, Q8, Q9, Q10, Q11, Q12, Q13, Q14, Nat.reduceAdd, Q15, Int.reduceToNat, Q16, Q17, Q18, Q19, Q20, reduceIte, Q21, Q22, dmT, zdg, zD]; rfl) : P := e.mpr h
theorem zhp {σ : List zc} {a : List (List UInt8)} (ha : a.length ≤ 1073741824) {K : AV → List zc → Prop} (hK : K (.d (.bool (a.any fun r => decide (r.length > 64)))) σ) :
    zj Try.prog zag [.d (.slice (zbK a)), .fn (.func zfA) [] []] σ K := by
  refine zla zbY fun hl => ?_
  simp only [zaM, iN, bT, bF, eN]
  (refine gq13 ?_; try with_reducible exact True.intro)
  refine zla zco fun hl => ?_
  simp only [zaX, iN, bT, bF, eN]
  (refine gq13 ?_; try with_reducible exact True.intro)
  refine zV a.length (fun k vs s => vs = [.d (.int .i64 k)] ∧ s = σ ∧ ∀ r ∈ a.take k, ¬ r.length > 64) ⟨rfl, rfl, by simp⟩ ?_
  rintro k vs s hk ⟨rfl, rfl, htk⟩
  (refine gq13 ?_; try with_reducible exact True.intro)
  refine zbf (fun h => ?_) (fun h => ?_)
  · have hka : k < a.length := by (try simp only [decide_eq_true_eq, decide_eq_false_iff_not, beq_iff_eq, beq_eq_false_iff_ne, bne_iff_ne, ne_eq, Bool.not_eq_true', Bool.not_eq_false', bne_eq_false_iff_eq] at *); omega
    have hx : a[k]? = some a[k] := by simp [hka]
    (refine gq12 (zgW hx) ?_; try with_reducible exact True.intro)
    refine And.intro (by omega) (c_Check_1 ?_)
    (refine gq13 ?_; try with_reducible exact True.intro)
    refine zbf (fun h => ?_) (fun h => ?_)
    · refine zbD hl ?_
      (refine gq17 ?_; try with_reducible exact True.intro)
      refine zbD hl ?_
      have e1 : decide ((k : Int) ≥ 0) = true := by simp
      have e2 : (a.any fun r => decide (r.length > 64)) = true := by
        rw [List.any_eq_true]
        exact ⟨a[k], List.getElem_mem _, h⟩
      rw [e2] at hK
      simp only [zdg, dmT, dm, dm1]
      rw [e1]; exact hK
    · (refine gq13 ?_; try with_reducible exact True.intro)
      refine zcd.next hka ⟨?_, rfl, fun r hr => ?_⟩
      · rw [zbJ (by omega) (by omega)]; rfl
      · rw [List.take_add_one, hx] at hr
        rcases List.mem_append.1 hr with hr | hr
        · exact htk r hr
        · have : r = a[k] := by simpa using hr
          subst this
          simpa using h
  · refine zbD hl ?_
    (refine gq17 ?_; try with_reducible exact True.intro)
    refine zbD hl ?_
    have e2 : (a.any fun r => decide (r.length > 64)) = false := by
      rw [List.any_eq_false]
      intro r hr
      have hk' : k = a.length := by (try simp only [decide_eq_true_eq, decide_eq_false_iff_not, beq_iff_eq, beq_eq_false_iff_ne, bne_iff_ne, ne_eq, Bool.not_eq_true', Bool.not_eq_false', bne_eq_false_iff_eq] at *); omega
      rw [hk', List.take_length] at htk
      simpa using htk r hr
    rw [e2] at hK
    exact hK
theorem gq18 {P Q : Prop} (h : Q) (e : P = Q := by simp -dsimp only [↓ziv, ↓zbi, ↓zcW, ↓zix, ↓zio, ↓zim, ↓ziq, ↓zin, ↓zdb, ↓zcX, ↓zdc, ↓zcY, ↓zir, ↓zcU, ↓zdd, ↓zcZ, ↓zde, ↓zda, ↓zil, ↓ziu, ↓zcS, ↓zdf, ↓zia, ↓zhZ, ↓zij, iN, bT, bF, eN, ↓zeU, ↓unC, ↓zah, ↓zR, ↓zS, ↓zad, ↓zaG, ↓zbl, ↓zea, ↓zaj, ↓zcA, ↓zau, ↓zu, ↓zo, ↓zcT, ↓zi, ↓zax, ↓zac, ↓zbm, ↓zbg, ↓zd, ↓zK, ↓zq, ↓zJ, ↓zaI, ↓zeE, ↓zfi, ↓zat, ↓zaW, ↓zaY, ↓zbC, ↓zck, ↓zG, ↓zaA, ↓zQ, ↓zF, ↓zaE, zfb, zcF, zcr, unA, zfm, bnd, zfY, zap, zaw, zfQ, dm, dm1, zA, zaT, zgP, zgO, zZ, Q0, Q1, Q2, Q3, Q4, Q5, zaD, zI, zr, zav, zW, Q6, Q7, Q8, Q9, Q10, Q11, Q12, Q13, Q14, Nat.reduceAdd, Q15, Int.reduceToNat, Q16, Q17, Q18, Q19, Q20, reduceIte, Q21, Q22, zD, rep, zT, zgN, toD, zan, Q23, Q24, Q25, Q26, Q27, Q28, Nat.reduceLeDiff, Q29, Nat.reduceSub, Q30, Q31, Q32, sc, Q33, Q34, Q35, Bool.and_false, Bool.and_self, Bool.false_and, Bool.not_false, Bool.not_true, Bool.true_and, Int.toNat_natCast, Int.toNat_zero, List.drop_zero, List.length_map, List.length_nil, List.nil_append, List.take_length, Nat.sub_zero, Nat.zero_add, Option.isSome_none, Option.isSome_some, Option.map_none, Option.map_some, zbN, beq_self_eq_true, bne_self_eq_false, zbL, zcn, opA]; rfl) : P := e.mpr h
theorem c_Check {σ : List zc} {o : TOp} (ht : o.topic.length ≤ 1073741824) (hg : o.group.length ≤ 1073741824) (hr : o.recs.length ≤ 1073741824) {K : AV → List zc → Prop} (hK : K (.d (.int .i64 (zai zcs o))) σ) : zj Try.prog zfW [opA o] σ K := by
  refine zhr e_op_Check fun hl => ?_
  simp only [znn, iN, bT, bF, eN, zl1, opA]
  (refine gq9 ?_; try with_reducible exact True.intro)
  refine c_only (o := o) ?_
  have honly : (onlyF o).recs.length ≤ 1073741824 := by unfold onlyF noOp; split <;> (try split) <;> (try split) <;> (try split) <;> simp <;> omega
  (refine gq18 ?_; try with_reducible exact True.intro)
  repeat' first
    | (refine gq9 ?_; try with_reducible exact True.intro)
    | refine c_Same (a := o) (b := onlyF o) hr honly ?_
    | refine c_Name ht ?_
    | refine c_Name hg ?_
    | refine zhp hr ?_
    | (refine zbf (fun h => ?_) (fun h => ?_) <;> (try rw [h]))
    | ((with_reducible refine And.intro ?_ ?_); focus (first | omega | rfl | decide))
  all_goals refine zbD hl ?_
  all_goals (try simp only [decide_eq_true_eq, decide_eq_false_iff_not, beq_iff_eq, beq_eq_false_iff_ne, bne_iff_ne, ne_eq, Bool.not_eq_true', Bool.not_eq_false', bne_eq_false_iff_eq] at *)
  all_goals
    simp only [zdg, dmT, dm, dm1]
    have e : ∀ z : Int, zai zcs o = z → K (.d (.int .i64 z)) σ := fun z hz => by rw [← hz]; exact hK
    clear hK
    apply e
    first
    | grind [zai]
    | skip


theorem u64_of {n : Int} (h : 0 ≤ n) (h2 : n < 9223372036854775808) : IntKind.u64.wrap n = (n.toNat : Int) := by
  obtain ⟨m, rfl⟩ := Int.eq_ofNat_of_zero_le h
  rw [Int.toNat_natCast]; exact zcp (by omega)
theorem bytesE (s : List UInt8) : s.map zbz = bcs s := rfl

theorem gq19 {A P Q : Prop} (a : A) (h : Q) (e : A → P = Q := by intro a; simp -dsimp only [↓ziv, ↓zbi, ↓zcW, ↓zix, ↓zio, ↓zim, ↓ziq, ↓zin, ↓zdb, ↓zcX, ↓zdc, ↓zcY, ↓zir, ↓zcU, ↓zdd, ↓zcZ, ↓zde, ↓zda, ↓zil, ↓ziu, ↓zcS, ↓zdf, ↓zia, ↓zhZ, ↓zij, iN, bT, bF, eN, ↓zeU, ↓unC, ↓zah, ↓zR, ↓zS, ↓zad, ↓zaG, ↓zbl, ↓zea, ↓zaj, ↓zcA, ↓zau, ↓zu, ↓zo, ↓zcT, ↓zi, ↓zax, ↓zac, ↓zbm, ↓zbg, ↓zd, ↓zK, ↓zq, ↓zJ, ↓zaI, ↓zeE, ↓zfi, ↓zat, ↓zaW, ↓zaY, ↓zbC, ↓zck, ↓zG, ↓zaA, ↓zQ, ↓zF, ↓zaE, zfb, zcF, zcr, unA, zfm, bnd, zfY, zap, zaw, zfQ, dm, dm1, zA, zaT, zgP, zgO, zZ, Q0, Q1, Q2, Q3, Q4, Q5, zaD, zI, zr, zav, zW, Q6, Q7, Q8, Q9, Q10, Q11, Q12, Q13, Q14, Nat.reduceAdd, Q15, Int.reduceToNat, Q16, Q17, Q18, Q19, Q20, reduceIte, Q21, Q22, zD, rep, zT, zgN, toD, zan, Q23, Q24, Q25, Q26, Q27, Q28, Nat.reduceLeDiff, Q29, Nat.reduceSub, Q30, Q31, Q32, sc, Q33, Q34, Q35, a]; rfl) : P := (e a).mpr h
theorem gq20 {A P Q : Prop} (a : A) (h : Q) (e : A → P = Q := by intro a; simp -dsimp only [↓ziv, ↓zbi, ↓zcW, ↓zix, ↓zio, ↓zim, ↓ziq, ↓zin, ↓zdb, ↓zcX, ↓zdc, ↓zcY, ↓zir, ↓zcU, ↓zdd, ↓zcZ, ↓zde, ↓zda, ↓zil, ↓ziu, ↓zcS, ↓zdf, ↓zia, ↓zhZ, ↓zij, iN, bT, bF, eN, ↓zeU, ↓unC, ↓zah, ↓zR, ↓zS, ↓zad, ↓zaG, ↓zbl, ↓zea, ↓zaj, ↓zcA, ↓zau, ↓zu, ↓zo, ↓zcT, ↓zi, ↓zax, ↓zac, ↓zbm, ↓zbg, ↓zd, ↓zK, ↓zq, ↓zJ, ↓zaI, ↓zeE, ↓zfi, ↓zat, ↓zaW, ↓zaY, ↓zbC, ↓zck, ↓zG, ↓zaA, ↓zQ, ↓zF, ↓zaE, zfb, zcF, zcr, unA, zfm, bnd, zfY, zap, zaw, zfQ, dm, dm1, zA, zaT, zgP, zgO, zZ, Q0, Q1, Q2, Q3, Q4, Q5, zaD, zI, zr, zav, zW, Q6, Q7, Q8, Q9, Q10, Q11, Q12, Q13, Q14, Nat.reduceAdd, Q15, Int.reduceToNat, Q16, Q17, Q18, Q19, Q20, reduceIte, Q21, Q22, zD, rep, zT, zgN, toD, zan, Q23, Q24, Q25, Q26, Q27, Q28, Nat.reduceLeDiff, Q29, Nat.reduceSub, Q30, Q31, Q32, sc, Q33, Q34, Q35, Bool.and_false, Bool.and_self, Bool.false_and, Bool.not_false, Bool.not_true, Bool.true_and, Int.toNat_natCast, Int.toNat_zero, List.drop_zero, List.length_map, List.length_nil, List.nil_append, List.take_length, Nat.sub_zero, Nat.zero_add, Option.isSome_none, Option.isSome_some, Option.map_none, Option.map_some, zbN, beq_self_eq_true, bne_self_eq_false, bytesE, zbL, zcn, opA, a]; rfl) : P := (e a).mpr h
theorem c_Put {σ : List zc} {b : List UInt8} {o : TOp} (hb : b.length ≤ 268435456) (ho : zlx o ≤ 268435456) {K : AV → List zc → Prop} (hK : K (.d (.slice (bcs (b ++ if zai zcs o = 0 then opB o else [])))) σ) :
    zj Try.prog znH [.d (.slice (bcs b)), opA o] σ K := by
  refine zla e_op_Put fun hl => ?_
  have hsz := ho
  simp only [zlx] at hsz
  have hrl := ziE o.recs
  simp only [S_op_Put, iN, bT, bF, eN, opA]
  (refine gq9 ?_; try with_reducible exact True.intro)
  refine zeT zfL (by simp [bcs]; omega) ?_
  (refine gq9 ?_; try with_reducible exact True.intro)
  refine c_Check (o := o) (by omega) (by omega) (by omega) ?_
  (refine gq9 ?_; try with_reducible exact True.intro)
  refine zbf (fun h => ?_) (fun h => ?_)
  · refine zbD hl ?_
    (try simp only [decide_eq_true_eq, decide_eq_false_iff_not, beq_iff_eq, beq_eq_false_iff_ne, bne_iff_ne, ne_eq, Bool.not_eq_true', Bool.not_eq_false', bne_eq_false_iff_eq] at *)
    rw [if_neg h, List.append_nil] at hK
    exact hK
  have hc : zai zcs o = 0 := by (try simp only [decide_eq_true_eq, decide_eq_false_iff_not, beq_iff_eq, beq_eq_false_iff_ne, bne_iff_ne, ne_eq, Bool.not_eq_true', Bool.not_eq_false', bne_eq_false_iff_eq] at *); omega
  obtain ⟨k0, k4, o0, o1, hon⟩ := check_ok hc
  rw [if_pos hc] at hK
  have hkn := zk (n := o.kind.toNat) (by omega)
  have hon' := zk (n := o.offset.toNat) (by omega)
  have hrn := zk (n := o.recs.length) (by omega)
  have htp := zdx (x := o.topic) (by omega)
  have hgp := zdx (x := o.group) (by omega)
  (refine gq19 (u64_of k0 (by omega)) ?_; try with_reducible exact True.intro)
  refine zcG (by omega) (by omega) ?_
  have wo := u64_of o0 (by omega : o.offset < 9223372036854775808)
  have wl : IntKind.u64.wrap ((zbK o.recs).length : Int) = (o.recs.length : Int) := by rw [zD]; exact zcp (by omega)
  have wl' : IntKind.u64.wrap (o.recs.length : Int) = (o.recs.length : Int) := zcp (by omega)
  repeat' first
    | (refine gq20 (zgp wo (zgp wl wl')) ?_; try with_reducible exact True.intro)
    | (refine zbf (fun h => ?_) (fun h => ?_) <;> (try rw [h]))
    | ((with_reducible refine And.intro ?_ ?_); focus (first | omega | rfl | decide))
    | refine zfa (by omega) (by simp only [ziU, List.length_append] at *; omega) ?_
    | refine zcG (by omega) (by simp only [ziU, List.length_append] at *; omega) ?_
  -- the ways that end
  all_goals first
    | (exfalso; (try simp only [decide_eq_true_eq, decide_eq_false_iff_not, beq_iff_eq, beq_eq_false_iff_ne, bne_iff_ne, ne_eq, Bool.not_eq_true', Bool.not_eq_false', bne_eq_false_iff_eq] at *); omega)
    | (refine zbD hl ?_
       (try simp only [decide_eq_true_eq, decide_eq_false_iff_not, beq_iff_eq, beq_eq_false_iff_ne, bne_iff_ne, ne_eq, Bool.not_eq_true', Bool.not_eq_false', bne_eq_false_iff_eq] at *)
       simp only [zdg, dmT, dm, dm1]
       (first | rw [opB_0 (by omega)] at hK | rw [opB_1 (by omega)] at hK | rw [opB_3 (by omega)] at hK | rw [opB_4 (by omega)] at hK)
       exact hK)
    | skip
  -- the records
  have hk2 : o.kind = 2 := by (try simp only [decide_eq_true_eq, decide_eq_false_iff_not, beq_iff_eq, beq_eq_false_iff_ne, bne_iff_ne, ne_eq, Bool.not_eq_true', Bool.not_eq_false', bne_eq_false_iff_eq] at *); omega
  rw [opB_2 hk2] at hK
  refine zV o.recs.length (fun k vs s => ∃ t τ, vs = [.own t (bcs (b ++ (zbB o.kind.toNat ++ (zbB o.topic.length ++ (o.topic ++ (zbB o.recs.length ++ zeC (o.recs.take k))))))), .d (.int .i64 k)] ∧ s = σ ++ τ) ⟨σ.length + 4, _, by rw [List.take_zero, show zeC [] = [] from rfl, List.append_nil]; rfl, rfl⟩ ?_
  rintro k vs s hk ⟨t, τ, rfl, rfl⟩
  (refine gq9 ?_; try with_reducible exact True.intro)
  refine zbf (fun h => ?_) (fun h => ?_)
  · have hka : k < o.recs.length := by (try simp only [decide_eq_true_eq, decide_eq_false_iff_not, beq_iff_eq, beq_eq_false_iff_ne, bne_iff_ne, ne_eq, Bool.not_eq_true', Bool.not_eq_false', bne_eq_false_iff_eq] at *); omega
    have hx : o.recs[k]? = some o.recs[k] := by simp [hka]
    have hle := rec_le (List.getElem_mem hka)
    have htl := zih o.recs (by omega) k
    (refine gq19 (zgW hx) ?_; try with_reducible exact True.intro)
    refine And.intro (by omega) (zfa (by omega) (by simp only [ziU, List.length_append] at *; omega) ?_)
    (refine gq9 ?_; try with_reducible exact True.intro)
    refine zcd.next hka ⟨σ.length + τ.length, _, ?_, rfl⟩
    rw [zbJ (by omega) (by omega), recsB_snoc hx]
    simp only [ziU, List.append_assoc]
    rfl
  · have hke : k = o.recs.length := by (try simp only [decide_eq_true_eq, decide_eq_false_iff_not, beq_iff_eq, beq_eq_false_iff_ne, bne_iff_ne, ne_eq, Bool.not_eq_true', Bool.not_eq_false', bne_eq_false_iff_eq] at *); omega
    subst hke
    refine zbD hl ?_
    rw [List.take_length]
    exact hK

end Go.Proofs.Ythpnelbciibjeaa
