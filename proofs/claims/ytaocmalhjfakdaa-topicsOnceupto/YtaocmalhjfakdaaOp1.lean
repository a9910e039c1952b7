/- Contracts of operations: which are the same. -/
import Derived.Test.YtaocmalhjfakdaaCodec1
import Derived.Test.YtaocmalhjfakdaaSpNum
import Derived.Test.YtaocmalhjfakdaaSpUtf
set_option linter.all false
set_option maxRecDepth 100000
set_option linter.unusedSimpArgs false
namespace Go.Proofs.Ytaocmalhjfakdaa
open Go.AW

theorem gq4 {P Q : Prop} (h : Q) (e : P = Q := by simp -dsimp only [↓zhJ, ↓zbB, ↓zdh, ↓zhK, ↓zhC, ↓zhA, ↓zhD, ↓zhB, ↓zdm, ↓zdi, ↓zdn, ↓zdj, ↓zhE, ↓zdf, ↓zdo, ↓zdk, ↓zdp, ↓zdl, ↓zhy, ↓zhH, ↓zde, ↓zdq, ↓zhv, ↓zhu, ↓zhx, iN, bT, bF, eN, ↓zeB, ↓unC, ↓zas, ↓zZ, ↓zaa, ↓zaj, ↓zaK, ↓zbO, ↓zdM, ↓zaD, ↓zdL, ↓zaN, ↓zq, ↓zt, ↓zcV, ↓zl, ↓zak, ↓zY, ↓zbk, ↓zbe, ↓zd, ↓zG, ↓zp, ↓zL, ↓zaG, ↓zem, ↓zel, ↓zaH, ↓zbc, ↓zaS, ↓zbN, ↓zcb, ↓zD, ↓zaq, ↓zab, ↓zE, ↓zaE, zeh, zcC, zct, unA, zey, bnd, zfu, zaf, zaC, zfF, dm, dm1, zR, zbD, zge, zgd, zan, Q0, Q1, Q2, Q3, Q4, Q5, zaL, zV, zn, zaJ, zai, Q6, Q7, Q8, Q9, Q10, Q11, Q12, Q13, Q14, Nat.reduceAdd, Q15, Int.reduceToNat, Q16, Q17, Q18, Q19, Q20, reduceIte, Q21, Q22, zB, rep, zO, zgw, toD, zah, Q23, Q24, Q25, Q26, Q27, Q28, Nat.reduceLeDiff, Q29, Nat.reduceSub, Q30, Q31, Q32, sc, Q33, Q34, Q35]; rfl) : P := e.mpr h
theorem c_only {σ : List zb} {o : TOp} {K : AV → List zb → Prop} (hK : K (.tup [opA (onlyF o), .d (.bool (zfY o))]) σ) : zC Try.prog zij [opA o] σ K := by
  refine acE1 e_op_only fun hl => ?_
  simp only [S_op_only, iN, bT, bF, eN, zl1, opA]
  (repeat' (first | (refine gq4 ?_; try with_reducible exact True.intro) | (refine zbG (fun h => ?_) (fun h => ?_) <;> (try rw [h])) | ((with_reducible refine And.intro ?_ ?_); focus (first | omega | rfl | decide))))

  all_goals refine zhF hl ?_
  all_goals simp only [beq_iff_eq, beq_eq_false_iff_ne, ne_eq] at *
  all_goals simp_all [zdY, dmT, dm, dm1, onlyF, noOp, opA, zfY, zbu]
  have e : (decide (0 ≤ o.kind) && decide (o.kind ≤ 4)) = false := by simp; omega
  rw [e] at hK
  exact hK
theorem gq5 {P Q : Prop} (h : Q) (e : P = Q := by simp -dsimp only [↓zhJ, ↓zbB, ↓zdh, ↓zhK, ↓zhC, ↓zhA, ↓zhD, ↓zhB, ↓zdm, ↓zdi, ↓zdn, ↓zdj, ↓zhE, ↓zdf, ↓zdo, ↓zdk, ↓zdp, ↓zdl, ↓zhy, ↓zhH, ↓zde, ↓zdq, ↓zhv, ↓zhu, ↓zhx, iN, bT, bF, eN, ↓zeB, ↓unC, ↓zas, ↓zZ, ↓zaa, ↓zaj, ↓zaK, ↓zbO, ↓zdM, ↓zaD, ↓zdL, ↓zaN, ↓zq, ↓zt, ↓zcV, ↓zl, ↓zak, ↓zY, ↓zbk, ↓zbe, ↓zd, ↓zG, ↓zp, ↓zL, ↓zaG, ↓zem, ↓zel, ↓zaH, ↓zbc, ↓zaS, ↓zbN, ↓zcb, ↓zD, ↓zaq, ↓zab, ↓zE, ↓zaE, zeh, zcC, zct, unA, zey, bnd, zfu, zaf, zaC, zfF, dm, dm1, zR, zbD, zge, zgd, zan, Q0, Q1, Q2, Q3, Q4, Q5, zaL, zV, zn, zaJ, zai, Q6, Q7, Q8, Q9, Q10, Q11, Q12, Q13, Q14, Nat.reduceAdd, Q15, Int.reduceToNat, Q16, Q17, Q18, Q19, Q20, reduceIte, Q21, Q22, ziU, zB]; rfl) : P := e.mpr h
theorem c_Same_1 {σ : List zb} {a b : List UInt8} {K : AV → List zb → Prop} (hK : K (.d (.bool (a == b))) σ) : zC Try.prog zek [.d (.slice (bcs a)), .d (.slice (bcs b))] σ K := by
  refine acE2 e_op_Same_1 fun hl => ?_
  (refine gq5 ?_; try with_reducible exact True.intro)
  refine zbJ ?_
  refine zhF hl ?_
  exact hK
theorem zf {A B : Prop} (a : A) (b : B) : A ∧ B := ⟨a, b⟩
theorem gq6 {P Q : Prop} (h : Q) (e : P = Q := by simp -dsimp only [↓zhJ, ↓zbB, ↓zdh, ↓zhK, ↓zhC, ↓zhA, ↓zhD, ↓zhB, ↓zdm, ↓zdi, ↓zdn, ↓zdj, ↓zhE, ↓zdf, ↓zdo, ↓zdk, ↓zdp, ↓zdl, ↓zhy, ↓zhH, ↓zde, ↓zdq, ↓zhv, ↓zhu, ↓zhx, iN, bT, bF, eN, ↓zeB, ↓unC, ↓zas, ↓zZ, ↓zaa, ↓zaj, ↓zaK, ↓zbO, ↓zdM, ↓zaD, ↓zdL, ↓zaN, ↓zq, ↓zt, ↓zcV, ↓zl, ↓zak, ↓zY, ↓zbk, ↓zbe, ↓zd, ↓zG, ↓zp, ↓zL, ↓zaG, ↓zem, ↓zel, ↓zaH, ↓zbc, ↓zaS, ↓zbN, ↓zcb, ↓zD, ↓zaq, ↓zab, ↓zE, ↓zaE, zeh, zcC, zct, unA, zey, bnd, zfu, zaf, zaC, zfF, dm, dm1, zR, zbD, zge, zgd, zan, Q0, Q1, Q2, Q3, Q4, Q5, zaL, zV, zn, zaJ, zai, Q6, Q7, Q8, Q9, Q10, Q11, Q12, Q13, Q14, Nat.reduceAdd, Q15, Int.reduceToNat, Q16, Q17, Q18, Q19, Q20, reduceIte, Q21, Q22, zF, zB]; rfl) : P := e.mpr h
theorem gq7 {A P Q : Prop} (a : A) (h : Q) (e : A → P = Q := by intro a; simp -dsimp only [↓zhJ, ↓zbB, ↓zdh, ↓zhK, ↓zhC, ↓zhA, ↓zhD, ↓zhB, ↓zdm, ↓zdi, ↓zdn, ↓zdj, ↓zhE, ↓zdf, ↓zdo, ↓zdk, ↓zdp, ↓zdl, ↓zhy, ↓zhH, ↓zde, ↓zdq, ↓zhv, ↓zhu, ↓zhx, iN, bT, bF, eN, ↓zeB, ↓unC, ↓zas, ↓zZ, ↓zaa, ↓zaj, ↓zaK, ↓zbO, ↓zdM, ↓zaD, ↓zdL, ↓zaN, ↓zq, ↓zt, ↓zcV, ↓zl, ↓zak, ↓zY, ↓zbk, ↓zbe, ↓zd, ↓zG, ↓zp, ↓zL, ↓zaG, ↓zem, ↓zel, ↓zaH, ↓zbc, ↓zaS, ↓zbN, ↓zcb, ↓zD, ↓zaq, ↓zab, ↓zE, ↓zaE, zeh, zcC, zct, unA, zey, bnd, zfu, zaf, zaC, zfF, dm, dm1, zR, zbD, zge, zgd, zan, Q0, Q1, Q2, Q3, Q4, Q5, zaL, zV, zn, zaJ, zai, Q6, Q7, Q8, Q9, Q10, Q11, Q12, Q13, Q14, Nat.reduceAdd, Q15, Int.reduceToNat, Q16, Q17, Q18, Q19, Q20, reduceIte, Q21, Q22, zB, a]; rfl) : P := (e a).mpr h
theorem gq8 {P Q : Prop} (h : Q) (e : P = Q := by simp -dsimp only [↓zhJ, ↓zbB, ↓zdh, ↓zhK, ↓zhC, ↓zhA, ↓zhD, ↓zhB, ↓zdm, ↓zdi, ↓zdn, ↓zdj, ↓zhE, ↓zdf, ↓zdo, ↓zdk, ↓zdp, ↓zdl, ↓zhy, ↓zhH, ↓zde, ↓zdq, ↓zhv, ↓zhu, ↓zhx, iN, bT, bF, eN, ↓zeB, ↓unC, ↓zas, ↓zZ, ↓zaa, ↓zaj, ↓zaK, ↓zbO, ↓zdM, ↓zaD, ↓zdL, ↓zaN, ↓zq, ↓zt, ↓zcV, ↓zl, ↓zak, ↓zY, ↓zbk, ↓zbe, ↓zd, ↓zG, ↓zp, ↓zL, ↓zaG, ↓zem, ↓zel, ↓zaH, ↓zbc, ↓zaS, ↓zbN, ↓zcb, ↓zD, ↓zaq, ↓zab, ↓zE, ↓zaE, zeh, zcC, zct, unA, zey, bnd, zfu, zaf, zaC, zfF, dm, dm1, zR, zbD, zge, zgd, zan, Q0, Q1, Q2, Q3, Q4, Q5, zaL, zV, zn, zaJ, zai, Q6, Q7, Q8, Q9, Q10, Q11, Q12, Q13, Q14, Nat.reduceAdd, Q15, Int.reduceToNat, Q16, Q17, Q18, Q19, Q20, reduceIte, Q21, Q22, zB]; rfl) : P := e.mpr h
theorem gq9 {A P Q : Prop} (a : A) (h : Q) (e : A → P = Q := by intro a; simp -dsimp only [↓zhJ, ↓zbB, ↓zdh, ↓zhK, ↓zhC, ↓zhA, ↓zhD, ↓zhB, ↓zdm, ↓zdi, ↓zdn, ↓zdj, ↓zhE, ↓zdf, ↓zdo, ↓zdk, ↓zdp, ↓zdl, ↓zhy, ↓zhH, ↓zde, ↓zdq, ↓zhv, ↓zhu, ↓zhx, iN, bT, bF, eN, ↓zeB, ↓unC, ↓zas, ↓zZ, ↓zaa, ↓zaj, ↓zaK, ↓zbO, ↓zdM, ↓zaD, ↓zdL, ↓zaN, ↓zq, ↓zt, ↓zcV, ↓zl, ↓zak, ↓zY, ↓zbk, ↓zbe, ↓zd, ↓zG, ↓zp, ↓zL, ↓zaG, ↓zem, ↓zel, ↓zaH, ↓zbc, ↓zaS, ↓zbN, ↓zcb, ↓zD, ↓zaq, ↓zab, ↓zE, ↓zaE, zeh, zcC, zct, unA, zey, bnd, zfu, zaf, zaC, zfF, dm, dm1, zR, zbD, zge, zgd, zan, Q0, Q1, Q2, Q3, Q4, Q5, zaL, zV, zn, zaJ, zai, Q6, Q7, Q8, Q9, Q10, Q11, Q12, Q13, Q14, Nat.reduceAdd, Q15, Int.reduceToNat, Q16, Q17, Q18, Q19, Q20, reduceIte, Q21, Q22, Int.toNat_natCast, zB, a]; rfl) : P := (e a).mpr h
theorem gq10 {P Q : Prop} (h : Q) (e : P = Q := by simp -dsimp only [↓zhJ, ↓zbB, ↓zdh, ↓zhK, ↓zhC, ↓zhA, ↓zhD, ↓zhB, ↓zdm, ↓zdi, ↓zdn, ↓zdj, ↓zhE, ↓zdf, ↓zdo, ↓zdk, ↓zdp, ↓zdl, ↓zhy, ↓zhH, ↓zde, ↓zdq, ↓zhv, ↓zhu, ↓zhx, iN, bT, bF, eN, ↓zeB, ↓unC, ↓zas, ↓zZ, ↓zaa, ↓zaj, ↓zaK, ↓zbO, ↓zdM, ↓zaD, ↓zdL, ↓zaN, ↓zq, ↓zt, ↓zcV, ↓zl, ↓zak, ↓zY, ↓zbk, ↓zbe, ↓zd, ↓zG, ↓zp, ↓zL, ↓zaG, ↓zem, ↓zel, ↓zaH, ↓zbc, ↓zaS, ↓zbN, ↓zcb, ↓zD, ↓zaq, ↓zab, ↓zE, ↓zaE, zeh, zcC, zct, unA, zey, bnd, zfu, zaf, zaC, zfF, dm, dm1, zR, zbD, zge, zgd, zan, Q0, Q1, Q2, Q3, Q4, Q5, zaL, zV, zn, zaJ, zai, Q6, Q7, Q8, Q9, Q10, Q11, Q12, Q13, Q14, Nat.reduceAdd, Q15, Int.reduceToNat, Q16, Q17, Q18, Q19, Q20, reduceIte, Q21, Q22, zaE, zB]; rfl) : P := e.mpr h
theorem zgl {σ : List zb} {a b : List (List UInt8)} (ha : a.length ≤ 1073741824) (hb : b.length ≤ 1073741824) {K : AV → List zb → Prop} (hK : K (.d (.bool (a == b))) σ) :
    zC Try.prog zm [.d (.slice (zbu a)), .d (.slice (zbu b)), .fn (.func zek) [] []] σ K := by
  refine acE3 zao fun hl => ?_
  (refine gq6 ?_; try with_reducible exact True.intro)
  refine zbG (fun h => ?_) (fun h => ?_)
  all_goals (try (refine gq7 h ?_; try with_reducible exact True.intro))
  · refine zhF hl ?_
    have : (a == b) = false := by
      rw [beq_eq_false_iff_ne]
      rintro rfl
      simp at h
    rw [this] at hK; exact hK
  have hl2 : a.length = b.length := by simp at h; omega
  refine zba a.length (fun k vs s => vs = [.d (.int .i64 k)] ∧ s = σ ∧ a.take k = b.take k) ⟨rfl, rfl, by simp⟩ ?_
  rintro k vs s hk ⟨rfl, rfl, htk⟩
  (refine gq8 ?_; try with_reducible exact True.intro)
  refine zbG (fun h => ?_) (fun h => ?_)
  all_goals (try (refine gq7 h ?_; try with_reducible exact True.intro))
  · have hka : k < a.length := by simp at h; omega
    have hx : a[k]? = some a[k] := by simp [hka]
    have hy : b[k]? = some (b[k]'(by omega)) := List.getElem?_eq_getElem _
    (refine gq9 (zf (zfU hx) (zfU hy)) ?_; try with_reducible exact True.intro)
    refine ⟨by omega, by omega, c_Same_1 ?_⟩
    (refine gq10 ?_; try with_reducible exact True.intro)
    refine zbG (fun h => ?_) (fun h => ?_)
    all_goals (try (refine gq7 h ?_; try with_reducible exact True.intro))
    · refine zeg.next hka ⟨?_, rfl, take_succ_eq hx hy htk (by simpa using h)⟩
      rw [zcT (by omega) (by omega)]; rfl
    · refine zhF hl ?_
      have : (a == b) = false := by
        rw [beq_eq_false_iff_ne]
        rintro rfl
        simp at h
      rw [this] at hK; exact hK
  · refine zhF hl ?_
    have : (a == b) = true := by
      rw [beq_iff_eq]
      exact take_eq_of hl2 (k := k) (by simp at h; omega) htk
    rw [this] at hK; exact hK
theorem c_Same {σ : List zb} {a b : TOp} (ha : a.recs.length ≤ 1073741824) (hb : b.recs.length ≤ 1073741824) {K : AV → List zb → Prop} (hK : K (.d (.bool (decide (a = b)))) σ) : zC Try.prog zik [opA a, opA b] σ K := by
  refine acE2 e_op_Same fun hl => ?_
  simp only [S_op_Same, iN, bT, bF, eN, opA]
  repeat' first
    | (refine gq4 ?_; try with_reducible exact True.intro)
    | (refine zbG (fun h => ?_) (fun h => ?_) <;> (try rw [h]))
    | refine zgl ha hb ?_
  all_goals refine zhF hl ?_
  all_goals simp only [beq_iff_eq, beq_eq_false_iff_ne, ne_eq] at *
  · have e : decide (a = b) = (a.recs == b.recs) := by
      rw [Bool.eq_iff_iff]
      cases a; cases b
      simp_all
    rw [e] at hK; exact hK
  all_goals
    have e : decide (a = b) = false := by
      cases a; cases b
      simp_all
    rw [e] at hK; exact hK

theorem c_Runes {σ : List zb} {s : List UInt8} (hs : s.length ≤ 1073741824) {K : AV → List zb → Prop} (hK : K (.d (.int .i64 (zfx s))) σ) : zC Try.prog zgC [.d (.str s)] σ K := by
  refine acE1 e_op_Runes fun hl => ?_
  simp only [zjH, iN, bT, bF, eN, zaq]
  refine zba s.length (fun pos vs s' => ∃ cnt : Nat, vs = [.d (.int .i64 cnt)] ∧ s' = σ ++ [.iter s pos] ∧ pos ≤ s.length ∧ cnt ≤ pos ∧ zco (s.length + 1) s = (zco (s.length + 1) (s.drop pos)).map (· + cnt)) ⟨0, rfl, rfl, by omega, by omega, by simp⟩ ?_
  rintro pos vs s' hp ⟨cnt, rfl, rfl, hps, hc, hr⟩
  simp only [zD, zgb, zn, List.getElem?_cons_zero]
  split
  · rename_i hlt
    have hd : s.drop pos ≠ [] := by intro e; have := congrArg List.length e; simp at this; omega
    have hw := goDec_width _ hd
    have hw2 := zfp (s.drop pos)
    simp only [decode_eq s pos hlt]
    have hcount : zco (s.length + 1) (s.drop pos) = if (zkl (s.drop pos)).2 = 0 ∨ badF (zkl (s.drop pos)).1 = true then none else (zco s.length ((s.drop pos).drop (zkl (s.drop pos)).2)).map (· + 1) := by
      rw [zco, if_neg hd]
    (repeat' (first | (refine gq4 ?_; try with_reducible exact True.intro) | (refine zbG (fun h => ?_) (fun h => ?_) <;> (try rw [h])) | ((with_reducible refine And.intro ?_ ?_); focus (first | omega | rfl | decide))))
    all_goals first
      | (refine zhF hl ?_
         have hb : badF (zgh (s.drop pos)).1 = true := by
           simp only [badF]
           (try simp only [decide_eq_true_eq, decide_eq_false_iff_not, beq_iff_eq, beq_eq_false_iff_ne, bne_iff_ne, ne_eq, Bool.not_eq_true', Bool.not_eq_false', bne_eq_false_iff_eq] at *)
           omega
         rw [goDec_bad] at hb
         have : zco (s.length + 1) (s.drop pos) = none := by rw [hcount, if_pos (by simpa using hb)]
         have h0 : zfx s = 0 := by simp [zfx, hr, this]
         rw [h0] at hK; exact hK)
      | skip
    all_goals
      have hb : badF (zgh (s.drop pos)).1 = false := by
        simp only [badF]
        (try simp only [decide_eq_true_eq, decide_eq_false_iff_not, beq_iff_eq, beq_eq_false_iff_ne, bne_iff_ne, ne_eq, Bool.not_eq_true', Bool.not_eq_false', bne_eq_false_iff_eq] at *)
        omega
      obtain ⟨g1, g2, g3⟩ := goDec_good hb
      rw [zcT (by omega) (by omega)]
      refine zeg.to (pos + (zgh (s.drop pos)).2) (by omega) (by simp at hw; omega) ⟨cnt + 1, rfl, rfl, by simp at hw; omega, by omega, ?_⟩
      rw [hr, hcount, if_neg (by simp [g2, g3]), g1, List.drop_drop, ziH s.length (s.length + 1) _ (by simp at *; omega) (by simp; omega)]
      cases zco (s.length + 1) (List.drop (pos + (zkl (s.drop pos)).2) s) <;> simp
      omega
  · rename_i hlt
    have e : s.drop pos = [] := List.drop_eq_nil_of_le (by omega)
    have hcnt : zco (s.length + 1) s = some cnt := by rw [hr, e]; simp [zco]
    (refine gq8 ?_; try with_reducible exact True.intro)
    refine zbG (fun h => ?_) (fun h => ?_)
    all_goals (try (refine gq7 h ?_; try with_reducible exact True.intro))
    · refine zhF hl ?_
      have h0 : zfx s = 0 := by simp [zfx, hcnt]; simp at h; omega
      rw [h0] at hK; exact hK
    · refine zhF hl ?_
      have h0 : zfx s = cnt := by simp [zfx, hcnt]; simp at h; omega
      rw [h0] at hK; exact hK
theorem gq11 {P Q : Prop} (h : Q) (e : P = Q := by simp -dsimp only [↓zhJ, ↓zbB, ↓zdh, ↓zhK, ↓zhC, ↓zhA, ↓zhD, ↓zhB, ↓zdm, ↓zdi, ↓zdn, ↓zdj, ↓zhE, ↓zdf, ↓zdo, ↓zdk, ↓zdp, ↓zdl, ↓zhy, ↓zhH, ↓zde, ↓zdq, ↓zhv, ↓zhu, ↓zhx, iN, bT, bF, eN, ↓zeB, ↓unC, ↓zas, ↓zZ, ↓zaa, ↓zaj, ↓zaK, ↓zbO, ↓zdM, ↓zaD, ↓zdL, ↓zaN, ↓zq, ↓zt, ↓zcV, ↓zl, ↓zak, ↓zY, ↓zbk, ↓zbe, ↓zd, ↓zG, ↓zp, ↓zL, ↓zaG, ↓zem, ↓zel, ↓zaH, ↓zbc, ↓zaS, ↓zbN, ↓zcb, ↓zD, ↓zaq, ↓zab, ↓zE, ↓zaE, zeh, zcC, zct, unA, zey, bnd, zfu, zaf, zaC, zfF, dm, dm1, zR, zbD, zge, zgd, zan, Q0, Q1, Q2, Q3, Q4, Q5, zaL, zV, zn, zaJ, zai, Q6, Q7, Q8, Q9, Q10, Q11, Q12, Q13, Q14, Nat.reduceAdd, Q15, Int.reduceToNat, Q16, Q17, Q18, Q19, Q20, reduceIte, Q21, Q22, S_op_Name, zB]; rfl) : P := e.mpr h
theorem c_Name {σ : List zb} {s : List UInt8} (hs : s.length ≤ 1073741824) {K : AV → List zb → Prop} (hK : K (.d (.bool (zdg s))) σ) : zC Try.prog zgc [.d (.str s)] σ K := by
  refine acE1 e_op_Name fun hl => ?_
  (refine gq11 ?_; try with_reducible exact True.intro)
  refine c_Runes hs ?_
  (refine gq8 ?_; try with_reducible exact True.intro)
  refine zhF hl ?_
  have : decide ((zfx s : Int) > 0) = zdg s := by simp [zdg]
  rw [this]; exact hK


theorem c_Check_1 {σ : List zb} {r : List UInt8} {K : AV → List zb → Prop} (hK : K (.d (.bool (decide (r.length > 64)))) σ) : zC Try.prog zdP [.d (.slice (bcs r))] σ K := by
  refine acE1 e_op_Check_1 fun hl => ?_
  simp only [zhj, iN, bT, bF, eN]
  (refine gq8 ?_; try with_reducible exact True.intro)
  refine zhF hl ?_
  have : decide (((bcs r).length : Int) > 64) = decide (r.length > 64) := by simp [bcs]; omega
  rw [this]; exact hK
theorem gq12 {P Q : Prop} (h : Q) (e : P = Q := by simp -dsimp only [↓zhJ, ↓zbB, ↓zdh, ↓zhK, ↓zhC, ↓zhA, ↓zhD, ↓zhB, ↓zdm, ↓zdi, ↓zdn, ↓zdj, ↓zhE, ↓zdf, ↓zdo, ↓zdk, ↓zdp, ↓zdl, ↓zhy, ↓zhH, ↓zde, ↓zdq, ↓zhv, ↓zhu, ↓zhx, iN, bT, bF, eN, ↓zeB, ↓unC, ↓zas, ↓zZ, ↓zaa, ↓zaj, ↓zaK, ↓zbO, ↓zdM, ↓zaD, ↓zdL, ↓zaN, ↓zq, ↓zt, ↓zcV, ↓zl, ↓zak, ↓zY, ↓zbk, ↓zbe, ↓zd, ↓zG, ↓zp, ↓zL, ↓zaG, ↓zem, ↓zel, ↓zaH, ↓zbc, ↓zaS, ↓zbN, ↓zcb, ↓zD, ↓zaq, ↓zab, ↓zE, ↓zaE, zeh, zcC, zct, unA, zey, bnd, zfu, zaf, zaC, zfF, dm, dm1, zR, zbD, zge, zgd, zan, Q0, Q1, Q2, Q3, Q4, Q5, zaL, zV, zn, zaJ, zai, Q6, Q7, Q8, Q9, Q10, Q11, Q12, Q13, Q14, Nat.reduceAdd, Q15, Int.reduceToNat, Q16, Q17, Q18, Q19, Q20, reduceIte, Q21, Q22, dmT, zdY, zB]; rfl) : P := e.mpr h
theorem zeV {σ : List zb} {a : List (List UInt8)} (ha : a.length ≤ 1073741824) {K : AV → List zb → Prop} (hK : K (.d (.bool (a.any fun r => decide (r.length > 64)))) σ) :
    zC Try.prog zI [.d (.slice (zbu a)), .fn (.func zdP) [] []] σ K := by
  refine acE2 zbp fun hl => ?_
  simp only [zal, iN, bT, bF, eN]
  (refine gq8 ?_; try with_reducible exact True.intro)
  refine acE2 zbC fun hl => ?_
  simp only [zaz, iN, bT, bF, eN]
  (refine gq8 ?_; try with_reducible exact True.intro)
  refine zba a.length (fun k vs s => vs = [.d (.int .i64 k)] ∧ s = σ ∧ ∀ r ∈ a.take k, ¬ r.length > 64) ⟨rfl, rfl, by simp⟩ ?_
  rintro k vs s hk ⟨rfl, rfl, htk⟩
  (refine gq8 ?_; try with_reducible exact True.intro)
  refine zbG (fun h => ?_) (fun h => ?_)
  · have hka : k < a.length := by (try simp only [decide_eq_true_eq, decide_eq_false_iff_not, beq_iff_eq, beq_eq_false_iff_ne, bne_iff_ne, ne_eq, Bool.not_eq_true', Bool.not_eq_false', bne_eq_false_iff_eq] at *); omega
    have hx : a[k]? = some a[k] := by simp [hka]
    (refine gq7 (zfU hx) ?_; try with_reducible exact True.intro)
    refine And.intro (by omega) (c_Check_1 ?_)
    (refine gq8 ?_; try with_reducible exact True.intro)
    refine zbG (fun h => ?_) (fun h => ?_)
    · refine zhF hl ?_
      (refine gq12 ?_; try with_reducible exact True.intro)
      refine zhF hl ?_
      have e1 : decide ((k : Int) ≥ 0) = true := by simp
      have e2 : (a.any fun r => decide (r.length > 64)) = true := by
        rw [List.any_eq_true]
        exact ⟨a[k], List.getElem_mem _, h⟩
      rw [e2] at hK
      simp only [zdY, dmT, dm, dm1]
      rw [e1]; exact hK
    · (refine gq8 ?_; try with_reducible exact True.intro)
      refine zeg.next hka ⟨?_, rfl, fun r hr => ?_⟩
      · rw [zcT (by omega) (by omega)]; rfl
      · rw [List.take_add_one, hx] at hr
        rcases List.mem_append.1 hr with hr | hr
        · exact htk r hr
        · have : r = a[k] := by simpa using hr
          subst this
          simpa using h
  · refine zhF hl ?_
    (refine gq12 ?_; try with_reducible exact True.intro)
    refine zhF hl ?_
    have e2 : (a.any fun r => decide (r.length > 64)) = false := by
      rw [List.any_eq_false]
      intro r hr
      have hk' : k = a.length := by (try simp only [decide_eq_true_eq, decide_eq_false_iff_not, beq_iff_eq, beq_eq_false_iff_ne, bne_iff_ne, ne_eq, Bool.not_eq_true', Bool.not_eq_false', bne_eq_false_iff_eq] at *); omega
      rw [hk', List.take_length] at htk
      simpa using htk r hr
    rw [e2] at hK
    exact hK
theorem gq13 {P Q : Prop} (h : Q) (e : P = Q := by simp -dsimp only [↓zhJ, ↓zbB, ↓zdh, ↓zhK, ↓zhC, ↓zhA, ↓zhD, ↓zhB, ↓zdm, ↓zdi, ↓zdn, ↓zdj, ↓zhE, ↓zdf, ↓zdo, ↓zdk, ↓zdp, ↓zdl, ↓zhy, ↓zhH, ↓zde, ↓zdq, ↓zhv, ↓zhu, ↓zhx, iN, bT, bF, eN, ↓zeB, ↓unC, ↓zas, ↓zZ, ↓zaa, ↓zaj, ↓zaK, ↓zbO, ↓zdM, ↓zaD, ↓zdL, ↓zaN, ↓zq, ↓zt, ↓zcV, ↓zl, ↓zak, ↓zY, ↓zbk, ↓zbe, ↓zd, ↓zG, ↓zp, ↓zL, ↓zaG, ↓zem, ↓zel, ↓zaH, ↓zbc, ↓zaS, ↓zbN, ↓zcb, ↓zD, ↓zaq, ↓zab, ↓zE, ↓zaE, zeh, zcC, zct, unA, zey, bnd, zfu, zaf, zaC, zfF, dm, dm1, zR, zbD, zge, zgd, zan, Q0, Q1, Q2, Q3, Q4, Q5, zaL, zV, zn, zaJ, zai, Q6, Q7, Q8, Q9, Q10, Q11, Q12, Q13, Q14, Nat.reduceAdd, Q15, Int.reduceToNat, Q16, Q17, Q18, Q19, Q20, reduceIte, Q21, Q22, zB, rep, zO, zgw, toD, zah, Q23, Q24, Q25, Q26, Q27, Q28, Nat.reduceLeDiff, Q29, Nat.reduceSub, Q30, Q31, Q32, sc, Q33, Q34, Q35, Bool.and_false, Bool.and_self, Bool.false_and, Bool.not_false, Bool.not_true, Bool.true_and, Int.toNat_natCast, Int.toNat_zero, List.drop_zero, List.length_map, List.length_nil, List.nil_append, List.take_length, Nat.sub_zero, Nat.zero_add, Option.isSome_none, Option.isSome_some, Option.map_none, Option.map_some, zgT, beq_self_eq_true, bne_self_eq_false, zbA, zay, opA]; rfl) : P := e.mpr h
theorem c_Check {σ : List zb} {o : TOp} (ht : o.topic.length ≤ 1073741824) (hg : o.group.length ≤ 1073741824) (hr : o.recs.length ≤ 1073741824) {K : AV → List zb → Prop} (hK : K (.d (.int .i64 (zat zdg o))) σ) : zC Try.prog zgD [opA o] σ K := by
  refine acE1 e_op_Check fun hl => ?_
  simp only [zjI, iN, bT, bF, eN, zl1, opA]
  (refine gq4 ?_; try with_reducible exact True.intro)
  refine c_only (o := o) ?_
  have honly : (onlyF o).recs.length ≤ 1073741824 := by unfold onlyF noOp; split <;> (try split) <;> (try split) <;> (try split) <;> simp <;> omega
  (refine gq13 ?_; try with_reducible exact True.intro)
  repeat' first
    | (refine gq4 ?_; try with_reducible exact True.intro)
    | refine c_Same (a := o) (b := onlyF o) hr honly ?_
    | refine c_Name ht ?_
    | refine c_Name hg ?_
    | refine zeV hr ?_
    | (refine zbG (fun h => ?_) (fun h => ?_) <;> (try rw [h]))
    | ((with_reducible refine And.intro ?_ ?_); focus (first | omega | rfl | decide))
  all_goals refine zhF hl ?_
  all_goals (try simp only [decide_eq_true_eq, decide_eq_false_iff_not, beq_iff_eq, beq_eq_false_iff_ne, bne_iff_ne, ne_eq, Bool.not_eq_true', Bool.not_eq_false', bne_eq_false_iff_eq] at *)
  all_goals
    simp only [zdY, dmT, dm, dm1]
    have e : ∀ z : Int, zat zdg o = z → K (.d (.int .i64 z)) σ := fun z hz => by rw [← hz]; exact hK
    clear hK
    apply e
    first
    | grind [zat]
    | skip


end Go.Proofs.Ytaocmalhjfakdaa
