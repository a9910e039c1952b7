/- Contracts of operations: which are the same. -/
import Derived.Test.YtaocmalhjfakdaaCodec1
import Derived.Test.YtaocmalhjfakdaaCl1
import Derived.Test.YtaocmalhjfakdaaSpUtf
set_option linter.all false
set_option maxRecDepth 100000
set_option linter.unusedSimpArgs false
namespace Go.Proofs.Ytaocmalhjfakdaa
open Go.AW

theorem gq7 {P Q : Prop} (h : Q) (e : P = Q := by simp -dsimp only [↓zhT, ↓zbn, ↓zcK, ↓zhV, ↓zhN, ↓zhL, ↓zhO, ↓zhM, ↓zcQ, ↓zcM, ↓zcR, ↓zcN, ↓zhP, ↓zcI, ↓zcS, ↓zcO, ↓zcT, ↓zcP, ↓zhJ, ↓zhS, ↓zcH, ↓zcV, ↓zhC, ↓zhB, ↓zhI, iN, bT, bF, eN, ↓zeJ, ↓unC, ↓zap, ↓zR, ↓zS, ↓zY, ↓zaF, ↓zaY, ↓zdC, ↓zax, ↓zcY, ↓zae, ↓zk, ↓zi, ↓zcc, ↓zg, ↓zaq, ↓zt, ↓zbc, ↓zbk, ↓zf, ↓zA, ↓zw, ↓zx, ↓zaL, ↓zeU, ↓zeT, ↓zaM, ↓zbd, ↓zbg, ↓zbF, ↓zcj, ↓zC, ↓zay, ↓zT, ↓zF, ↓zaE, zeP, zcu, zco, unA, zfn, bnd, zfF, zai, zag, zfW, dm, dm1, zj, zaD, zgu, zgt, keepO, Q0, Q1, Q2, Q3, Q4, Q5, zao, zE, zl, zar, zW, Q6, Q7, Q8, Q9, Q10, Q11, Q12, Q13, Q14, Nat.reduceAdd, Q15, Int.reduceToNat, Q16, Q17, Q18, Q19, Q20, reduceIte, Q21, Q22, zn, rep, zX, zhD, toD, zaz, Q23, Q24, Q25, Q26, Q27, Q28, Nat.reduceLeDiff, Q29, Nat.reduceSub, Q30, Q31, Q32, sc, Q33, Q34, Q35]; rfl) : P := e.mpr h
theorem c_only {σ : List zb} {o : TOp} {K : AV → List zb → Prop} (hK : K (.tup [opA (onlyF o), .d (.bool (zdp o))]) σ) : zu Try.prog zkt [opA o] σ K := by
  refine zlr e_op_only fun hl => ?_
  simp only [S_op_only, iN, bT, bF, eN, zl2, opA]
  (repeat' (first | (refine gq7 ?_; try with_reducible exact True.intro) | (refine zab (fun h => ?_) (fun h => ?_) <;> (try rw [h])) | ((with_reducible refine And.intro ?_ ?_); focus (first | omega | rfl | decide))))

  all_goals refine zde hl ?_
  all_goals simp only [beq_iff_eq, beq_eq_false_iff_ne, ne_eq] at *
  all_goals simp_all [zep, dmT, dm, dm1, onlyF, noOp, opA, zdp, zQ]
  have e : (decide (0 ≤ o.kind) && decide (o.kind ≤ 4)) = false := by simp; omega
  rw [e] at hK
  exact hK
theorem gq8 {P Q : Prop} (h : Q) (e : P = Q := by simp -dsimp only [↓zhT, ↓zbn, ↓zcK, ↓zhV, ↓zhN, ↓zhL, ↓zhO, ↓zhM, ↓zcQ, ↓zcM, ↓zcR, ↓zcN, ↓zhP, ↓zcI, ↓zcS, ↓zcO, ↓zcT, ↓zcP, ↓zhJ, ↓zhS, ↓zcH, ↓zcV, ↓zhC, ↓zhB, ↓zhI, iN, bT, bF, eN, ↓zeJ, ↓unC, ↓zap, ↓zR, ↓zS, ↓zY, ↓zaF, ↓zaY, ↓zdC, ↓zax, ↓zcY, ↓zae, ↓zk, ↓zi, ↓zcc, ↓zg, ↓zaq, ↓zt, ↓zbc, ↓zbk, ↓zf, ↓zA, ↓zw, ↓zx, ↓zaL, ↓zeU, ↓zeT, ↓zaM, ↓zbd, ↓zbg, ↓zbF, ↓zcj, ↓zC, ↓zay, ↓zT, ↓zF, ↓zaE, zeP, zcu, zco, unA, zfn, bnd, zfF, zai, zag, zfW, dm, dm1, zj, zaD, zgu, zgt, keepO, Q0, Q1, Q2, Q3, Q4, Q5, zao, zE, zl, zar, zW, Q6, Q7, Q8, Q9, Q10, Q11, Q12, Q13, Q14, Nat.reduceAdd, Q15, Int.reduceToNat, Q16, Q17, Q18, Q19, Q20, reduceIte, Q21, Q22, zle, zn]; rfl) : P := e.mpr h
theorem c_Same_1 {σ : List zb} {a b : List UInt8} {K : AV → List zb → Prop} (hK : K (.d (.bool (a == b))) σ) : zu Try.prog zfY [.d (.slice (bcs a)), .d (.slice (bcs b))] σ K := by
  refine acE2 e_op_Same_1 fun hl => ?_
  (refine gq8 ?_; try with_reducible exact True.intro)
  refine zeI ?_
  refine zde hl ?_
  exact hK
theorem zd {A B : Prop} (a : A) (b : B) : A ∧ B := ⟨a, b⟩
theorem gq9 {P Q : Prop} (h : Q) (e : P = Q := by simp -dsimp only [↓zhT, ↓zbn, ↓zcK, ↓zhV, ↓zhN, ↓zhL, ↓zhO, ↓zhM, ↓zcQ, ↓zcM, ↓zcR, ↓zcN, ↓zhP, ↓zcI, ↓zcS, ↓zcO, ↓zcT, ↓zcP, ↓zhJ, ↓zhS, ↓zcH, ↓zcV, ↓zhC, ↓zhB, ↓zhI, iN, bT, bF, eN, ↓zeJ, ↓unC, ↓zap, ↓zR, ↓zS, ↓zY, ↓zaF, ↓zaY, ↓zdC, ↓zax, ↓zcY, ↓zae, ↓zk, ↓zi, ↓zcc, ↓zg, ↓zaq, ↓zt, ↓zbc, ↓zbk, ↓zf, ↓zA, ↓zw, ↓zx, ↓zaL, ↓zeU, ↓zeT, ↓zaM, ↓zbd, ↓zbg, ↓zbF, ↓zcj, ↓zC, ↓zay, ↓zT, ↓zF, ↓zaE, zeP, zcu, zco, unA, zfn, bnd, zfF, zai, zag, zfW, dm, dm1, zj, zaD, zgu, zgt, keepO, Q0, Q1, Q2, Q3, Q4, Q5, zao, zE, zl, zar, zW, Q6, Q7, Q8, Q9, Q10, Q11, Q12, Q13, Q14, Nat.reduceAdd, Q15, Int.reduceToNat, Q16, Q17, Q18, Q19, Q20, reduceIte, Q21, Q22, zU, zn]; rfl) : P := e.mpr h
theorem gq10 {A P Q : Prop} (a : A) (h : Q) (e : A → P = Q := by intro a; simp -dsimp only [↓zhT, ↓zbn, ↓zcK, ↓zhV, ↓zhN, ↓zhL, ↓zhO, ↓zhM, ↓zcQ, ↓zcM, ↓zcR, ↓zcN, ↓zhP, ↓zcI, ↓zcS, ↓zcO, ↓zcT, ↓zcP, ↓zhJ, ↓zhS, ↓zcH, ↓zcV, ↓zhC, ↓zhB, ↓zhI, iN, bT, bF, eN, ↓zeJ, ↓unC, ↓zap, ↓zR, ↓zS, ↓zY, ↓zaF, ↓zaY, ↓zdC, ↓zax, ↓zcY, ↓zae, ↓zk, ↓zi, ↓zcc, ↓zg, ↓zaq, ↓zt, ↓zbc, ↓zbk, ↓zf, ↓zA, ↓zw, ↓zx, ↓zaL, ↓zeU, ↓zeT, ↓zaM, ↓zbd, ↓zbg, ↓zbF, ↓zcj, ↓zC, ↓zay, ↓zT, ↓zF, ↓zaE, zeP, zcu, zco, unA, zfn, bnd, zfF, zai, zag, zfW, dm, dm1, zj, zaD, zgu, zgt, keepO, Q0, Q1, Q2, Q3, Q4, Q5, zao, zE, zl, zar, zW, Q6, Q7, Q8, Q9, Q10, Q11, Q12, Q13, Q14, Nat.reduceAdd, Q15, Int.reduceToNat, Q16, Q17, Q18, Q19, Q20, reduceIte, Q21, Q22, zn, a]; rfl) : P := (e a).mpr h
theorem gq11 {P Q : Prop} (h : Q) (e : P = Q := by simp -dsimp only [↓zhT, ↓zbn, ↓zcK, ↓zhV, ↓zhN, ↓zhL, ↓zhO, ↓zhM, ↓zcQ, ↓zcM, ↓zcR, ↓zcN, ↓zhP, ↓zcI, ↓zcS, ↓zcO, ↓zcT, ↓zcP, ↓zhJ, ↓zhS, ↓zcH, ↓zcV, ↓zhC, ↓zhB, ↓zhI, iN, bT, bF, eN, ↓zeJ, ↓unC, ↓zap, ↓zR, ↓zS, ↓zY, ↓zaF, ↓zaY, ↓zdC, ↓zax, ↓zcY, ↓zae, ↓zk, ↓zi, ↓zcc, ↓zg, ↓zaq, ↓zt, ↓zbc, ↓zbk, ↓zf, ↓zA, ↓zw, ↓zx, ↓zaL, ↓zeU, ↓zeT, ↓zaM, ↓zbd, ↓zbg, ↓zbF, ↓zcj, ↓zC, ↓zay, ↓zT, ↓zF, ↓zaE, zeP, zcu, zco, unA, zfn, bnd, zfF, zai, zag, zfW, dm, dm1, zj, zaD, zgu, zgt, keepO, Q0, Q1, Q2, Q3, Q4, Q5, zao, zE, zl, zar, zW, Q6, Q7, Q8, Q9, Q10, Q11, Q12, Q13, Q14, Nat.reduceAdd, Q15, Int.reduceToNat, Q16, Q17, Q18, Q19, Q20, reduceIte, Q21, Q22, zn]; rfl) : P := e.mpr h
theorem gq12 {A P Q : Prop} (a : A) (h : Q) (e : A → P = Q := by intro a; simp -dsimp only [↓zhT, ↓zbn, ↓zcK, ↓zhV, ↓zhN, ↓zhL, ↓zhO, ↓zhM, ↓zcQ, ↓zcM, ↓zcR, ↓zcN, ↓zhP, ↓zcI, ↓zcS, ↓zcO, ↓zcT, ↓zcP, ↓zhJ, ↓zhS, ↓zcH, ↓zcV, ↓zhC, ↓zhB, ↓zhI, iN, bT, bF, eN, ↓zeJ, ↓unC, ↓zap, ↓zR, ↓zS, ↓zY, ↓zaF, ↓zaY, ↓zdC, ↓zax, ↓zcY, ↓zae, ↓zk, ↓zi, ↓zcc, ↓zg, ↓zaq, ↓zt, ↓zbc, ↓zbk, ↓zf, ↓zA, ↓zw, ↓zx, ↓zaL, ↓zeU, ↓zeT, ↓zaM, ↓zbd, ↓zbg, ↓zbF, ↓zcj, ↓zC, ↓zay, ↓zT, ↓zF, ↓zaE, zeP, zcu, zco, unA, zfn, bnd, zfF, zai, zag, zfW, dm, dm1, zj, zaD, zgu, zgt, keepO, Q0, Q1, Q2, Q3, Q4, Q5, zao, zE, zl, zar, zW, Q6, Q7, Q8, Q9, Q10, Q11, Q12, Q13, Q14, Nat.reduceAdd, Q15, Int.reduceToNat, Q16, Q17, Q18, Q19, Q20, reduceIte, Q21, Q22, Int.toNat_natCast, zn, a]; rfl) : P := (e a).mpr h
theorem gq13 {P Q : Prop} (h : Q) (e : P = Q := by simp -dsimp only [↓zhT, ↓zbn, ↓zcK, ↓zhV, ↓zhN, ↓zhL, ↓zhO, ↓zhM, ↓zcQ, ↓zcM, ↓zcR, ↓zcN, ↓zhP, ↓zcI, ↓zcS, ↓zcO, ↓zcT, ↓zcP, ↓zhJ, ↓zhS, ↓zcH, ↓zcV, ↓zhC, ↓zhB, ↓zhI, iN, bT, bF, eN, ↓zeJ, ↓unC, ↓zap, ↓zR, ↓zS, ↓zY, ↓zaF, ↓zaY, ↓zdC, ↓zax, ↓zcY, ↓zae, ↓zk, ↓zi, ↓zcc, ↓zg, ↓zaq, ↓zt, ↓zbc, ↓zbk, ↓zf, ↓zA, ↓zw, ↓zx, ↓zaL, ↓zeU, ↓zeT, ↓zaM, ↓zbd, ↓zbg, ↓zbF, ↓zcj, ↓zC, ↓zay, ↓zT, ↓zF, ↓zaE, zeP, zcu, zco, unA, zfn, bnd, zfF, zai, zag, zfW, dm, dm1, zj, zaD, zgu, zgt, keepO, Q0, Q1, Q2, Q3, Q4, Q5, zao, zE, zl, zar, zW, Q6, Q7, Q8, Q9, Q10, Q11, Q12, Q13, Q14, Nat.reduceAdd, Q15, Int.reduceToNat, Q16, Q17, Q18, Q19, Q20, reduceIte, Q21, Q22, zaE, zn]; rfl) : P := e.mpr h
theorem ziO {σ : List zb} {a b : List (List UInt8)} (ha : a.length ≤ 1073741824) (hb : b.length ≤ 1073741824) {K : AV → List zb → Prop} (hK : K (.d (.bool (a == b))) σ) :
    zu Try.prog zD [.d (.slice (zQ a)), .d (.slice (zQ b)), .fn (.func zfY) [] []] σ K := by
  refine acE3 zaS fun hl => ?_
  (refine gq9 ?_; try with_reducible exact True.intro)
  refine zab (fun h => ?_) (fun h => ?_)
  all_goals (try (refine gq10 h ?_; try with_reducible exact True.intro))
  · refine zde hl ?_
    have : (a == b) = false := by
      rw [beq_eq_false_iff_ne]
      rintro rfl
      simp at h
    rw [this] at hK; exact hK
  have hl2 : a.length = b.length := by simp at h; omega
  refine zI a.length (fun k vs s => vs = [.d (.int .i64 k)] ∧ s = σ ∧ a.take k = b.take k) ⟨rfl, rfl, by simp⟩ ?_
  rintro k vs s hk ⟨rfl, rfl, htk⟩
  (refine gq11 ?_; try with_reducible exact True.intro)
  refine zab (fun h => ?_) (fun h => ?_)
  all_goals (try (refine gq10 h ?_; try with_reducible exact True.intro))
  · have hka : k < a.length := by simp at h; omega
    have hx : a[k]? = some a[k] := by simp [hka]
    have hy : b[k]? = some (b[k]'(by omega)) := List.getElem?_eq_getElem _
    (refine gq12 (zd (zeR hx) (zeR hy)) ?_; try with_reducible exact True.intro)
    refine ⟨by omega, by omega, c_Same_1 ?_⟩
    (refine gq13 ?_; try with_reducible exact True.intro)
    refine zab (fun h => ?_) (fun h => ?_)
    all_goals (try (refine gq10 h ?_; try with_reducible exact True.intro))
    · refine zca.next hka ⟨?_, rfl, take_succ_eq hx hy htk (by simpa using h)⟩
      rw [zaO (by omega) (by omega)]; rfl
    · refine zde hl ?_
      have : (a == b) = false := by
        rw [beq_eq_false_iff_ne]
        rintro rfl
        simp at h
      rw [this] at hK; exact hK
  · refine zde hl ?_
    have : (a == b) = true := by
      rw [beq_iff_eq]
      exact take_eq_of hl2 (k := k) (by simp at h; omega) htk
    rw [this] at hK; exact hK
theorem c_Same {σ : List zb} {a b : TOp} (ha : a.recs.length ≤ 1073741824) (hb : b.recs.length ≤ 1073741824) {K : AV → List zb → Prop} (hK : K (.d (.bool (decide (a = b)))) σ) : zu Try.prog zku [opA a, opA b] σ K := by
  refine acE2 e_op_Same fun hl => ?_
  simp only [S_op_Same, iN, bT, bF, eN, opA]
  repeat' first
    | (refine gq7 ?_; try with_reducible exact True.intro)
    | (refine zab (fun h => ?_) (fun h => ?_) <;> (try rw [h]))
    | refine ziO ha hb ?_
  all_goals refine zde hl ?_
  all_goals simp only [beq_iff_eq, beq_eq_false_iff_ne, ne_eq] at *
  · have e : decide (a = b) = (a.recs == b.recs) := by
      rw [Bool.eq_iff_iff]
      cases a; cases b
      simp_all
    rw [e] at hK; exact hK
  all_goals
    have e : decide (a = b) = false := by
      cases a; cases b
      simp_all
    rw [e] at hK; exact hK

theorem c_Runes {σ : List zb} {s : List UInt8} (hs : s.length ≤ 1073741824) {K : AV → List zb → Prop} (hK : K (.d (.int .i64 (zdT s))) σ) : zu Try.prog zjd [.d (.str s)] σ K := by
  refine zlr e_op_Runes fun hl => ?_
  simp only [zlZ, iN, bT, bF, eN, zay]
  refine zI s.length (fun pos vs s' => ∃ cnt : Nat, vs = [.d (.int .i64 cnt)] ∧ s' = σ ++ [.iter s pos] ∧ pos ≤ s.length ∧ cnt ≤ pos ∧ zbL (s.length + 1) s = (zbL (s.length + 1) (s.drop pos)).map (· + cnt)) ⟨0, rfl, rfl, by omega, by omega, by simp⟩ ?_
  rintro pos vs s' hp ⟨cnt, rfl, rfl, hps, hc, hr⟩
  simp only [zC, ziA, zl, List.getElem?_cons_zero]
  split
  · rename_i hlt
    have hd : s.drop pos ≠ [] := by intro e; have := congrArg List.length e; simp at this; omega
    have hw := goDec_width _ hd
    have hw2 := zfN (s.drop pos)
    simp only [decode_eq s pos hlt]
    have hcount : zbL (s.length + 1) (s.drop pos) = if (zfz (s.drop pos)).2 = 0 ∨ badF (zfz (s.drop pos)).1 = true then none else (zbL s.length ((s.drop pos).drop (zfz (s.drop pos)).2)).map (· + 1) := by
      rw [zbL, if_neg hd]
    (repeat' (first | (refine gq7 ?_; try with_reducible exact True.intro) | (refine zab (fun h => ?_) (fun h => ?_) <;> (try rw [h])) | ((with_reducible refine And.intro ?_ ?_); focus (first | omega | rfl | decide))))
    all_goals first
      | (refine zde hl ?_
         have hb : badF (ziG (s.drop pos)).1 = true := by
           simp only [badF]
           (try simp only [decide_eq_true_eq, decide_eq_false_iff_not, beq_iff_eq, beq_eq_false_iff_ne, bne_iff_ne, ne_eq, Bool.not_eq_true', Bool.not_eq_false', bne_eq_false_iff_eq] at *)
           omega
         rw [goDec_bad] at hb
         have : zbL (s.length + 1) (s.drop pos) = none := by rw [hcount, if_pos (by simpa using hb)]
         have h0 : zdT s = 0 := by simp [zdT, hr, this]
         rw [h0] at hK; exact hK)
      | skip
    all_goals
      have hb : badF (ziG (s.drop pos)).1 = false := by
        simp only [badF]
        (try simp only [decide_eq_true_eq, decide_eq_false_iff_not, beq_iff_eq, beq_eq_false_iff_ne, bne_iff_ne, ne_eq, Bool.not_eq_true', Bool.not_eq_false', bne_eq_false_iff_eq] at *)
        omega
      obtain ⟨g1, g2, g3⟩ := goDec_good hb
      rw [zaO (by omega) (by omega)]
      refine zca.to (pos + (ziG (s.drop pos)).2) (by omega) (by simp at hw; omega) ⟨cnt + 1, rfl, rfl, by simp at hw; omega, by omega, ?_⟩
      rw [hr, hcount, if_neg (by simp [g2, g3]), g1, List.drop_drop, zii s.length (s.length + 1) _ (by simp at *; omega) (by simp; omega)]
      cases zbL (s.length + 1) (List.drop (pos + (zfz (s.drop pos)).2) s) <;> simp
      omega
  · rename_i hlt
    have e : s.drop pos = [] := List.drop_eq_nil_of_le (by omega)
    have hcnt : zbL (s.length + 1) s = some cnt := by rw [hr, e]; simp [zbL]
    (refine gq11 ?_; try with_reducible exact True.intro)
    refine zab (fun h => ?_) (fun h => ?_)
    all_goals (try (refine gq10 h ?_; try with_reducible exact True.intro))
    · refine zde hl ?_
      have h0 : zdT s = 0 := by simp [zdT, hcnt]; simp at h; omega
      rw [h0] at hK; exact hK
    · refine zde hl ?_
      have h0 : zdT s = cnt := by simp [zdT, hcnt]; simp at h; omega
      rw [h0] at hK; exact hK
theorem gq14 {P Q : Prop} (h : Q) (e : P = Q := by simp -dsimp only [↓zhT, ↓zbn, ↓zcK, ↓zhV, ↓zhN, ↓zhL, ↓zhO, ↓zhM, ↓zcQ, ↓zcM, ↓zcR, ↓zcN, ↓zhP, ↓zcI, ↓zcS, ↓zcO, ↓zcT, ↓zcP, ↓zhJ, ↓zhS, ↓zcH, ↓zcV, ↓zhC, ↓zhB, ↓zhI, iN, bT, bF, eN, ↓zeJ, ↓unC, ↓zap, ↓zR, ↓zS, ↓zY, ↓zaF, ↓zaY, ↓zdC, ↓zax, ↓zcY, ↓zae, ↓zk, ↓zi, ↓zcc, ↓zg, ↓zaq, ↓zt, ↓zbc, ↓zbk, ↓zf, ↓zA, ↓zw, ↓zx, ↓zaL, ↓zeU, ↓zeT, ↓zaM, ↓zbd, ↓zbg, ↓zbF, ↓zcj, ↓zC, ↓zay, ↓zT, ↓zF, ↓zaE, zeP, zcu, zco, unA, zfn, bnd, zfF, zai, zag, zfW, dm, dm1, zj, zaD, zgu, zgt, keepO, Q0, Q1, Q2, Q3, Q4, Q5, zao, zE, zl, zar, zW, Q6, Q7, Q8, Q9, Q10, Q11, Q12, Q13, Q14, Nat.reduceAdd, Q15, Int.reduceToNat, Q16, Q17, Q18, Q19, Q20, reduceIte, Q21, Q22, S_op_Name, zn]; rfl) : P := e.mpr h
theorem c_Name {σ : List zb} {s : List UInt8} (hs : s.length ≤ 1073741824) {K : AV → List zb → Prop} (hK : K (.d (.bool (zda s))) σ) : zu Try.prog ziB [.d (.str s)] σ K := by
  refine zlr e_op_Name fun hl => ?_
  (refine gq14 ?_; try with_reducible exact True.intro)
  refine c_Runes hs ?_
  (refine gq11 ?_; try with_reducible exact True.intro)
  refine zde hl ?_
  have : decide ((zdT s : Int) > 0) = zda s := by simp [zda]
  rw [this]; exact hK

theorem c_rsize {σ : List zb} {c : Nat} {K : AV → List zb → Prop} (hK : K (.d (.int .i64 (zgr c))) σ) : zu Try.prog zjc [.d (.int .u8 c)] σ K := by
  refine zlr e_r06_size fun hl => ?_
  simp only [zlX, iN, bT, bF, eN]
  (repeat' (first | (refine gq7 ?_; try with_reducible exact True.intro) | (refine zab (fun h => ?_) (fun h => ?_) <;> (try rw [h])) | ((with_reducible refine And.intro ?_ ?_); focus (first | omega | rfl | decide))))
  all_goals refine zde hl ?_
  all_goals (try simp only [decide_eq_true_eq, decide_eq_false_iff_not, beq_iff_eq, beq_eq_false_iff_ne, bne_iff_ne, ne_eq, Bool.not_eq_true', Bool.not_eq_false', bne_eq_false_iff_eq] at *)
  all_goals
    simp only [zep, dmT, dm, dm1]
    have e : ∀ z : Nat, zgr c = z → K (.d (.int .i64 z)) σ := fun z hz => by rw [← hz]; exact hK
    first
    | exact e 0 (by unfold zgr; rw [if_neg (by omega), if_neg (by omega), if_neg (by omega), if_neg (by omega)])
    | exact e 1 (by unfold zgr; rw [if_pos (by omega)])
    | exact e 2 (by unfold zgr; rw [if_neg (by omega), if_pos (by omega)])
    | exact e 3 (by unfold zgr; rw [if_neg (by omega), if_neg (by omega), if_pos (by omega)])
    | exact e 4 (by unfold zgr; rw [if_neg (by omega), if_neg (by omega), if_neg (by omega), if_pos (by omega)])

theorem mask_eq (z : Nat) (hz : z = 2 ∨ z = 3 ∨ z = 4) (b : Nat) (hb : b < 256) :
    IntKind.i64.wrap ↑(BitVec.ofInt IntKind.i64.bits (b : Int) &&& BitVec.ofInt IntKind.i64.bits (IntKind.i64.wrap (IntKind.i64.wrap (1 * 2 ^ (min (IntKind.i64.wrap (7 - (z : Int))).toNat IntKind.i64.bits)) - 1))).toNat = ((b % 2 ^ (7 - z) : Nat) : Int) := by
  have h0 : (BitVec.ofInt 64 (b : Int)).toNat = b := by simp; omega
  have key : ∀ m : Nat, (m = 3 ∨ m = 4 ∨ m = 5) → IntKind.i64.wrap ↑(BitVec.ofInt 64 (b : Int) &&& BitVec.ofInt 64 ((2 : Int) ^ m - 1)).toNat = ((b % 2 ^ m : Nat) : Int) := fun m hm => by
    have : (BitVec.ofInt 64 (b : Int) &&& BitVec.ofInt 64 ((2 : Int) ^ m - 1)).toNat = b % 2 ^ m := by
      rw [BitVec.toNat_and, h0]
      rcases hm with rfl | rfl | rfl
      · exact Nat.and_two_pow_sub_one_eq_mod b 3
      · exact Nat.and_two_pow_sub_one_eq_mod b 4
      · exact Nat.and_two_pow_sub_one_eq_mod b 5
    rw [this]
    have : b % 2 ^ m < 256 := Nat.lt_of_le_of_lt (Nat.mod_le _ _) hb
    exact zaO (by omega) (by omega)
  rcases hz with rfl | rfl | rfl
  · exact key 5 (by omega)
  · exact key 4 (by omega)
  · exact key 3 (by omega)

theorem partF_lt (s : List UInt8) (z : Nat) (hz : 2 ≤ z) : ∀ i, zdM s z i < 32 * 64 ^ i
  | 0 => by
    simp only [zdM]
    have : 2 ^ (7 - z) ≤ 2 ^ 5 := Nat.pow_le_pow_right (by omega) (by omega)
    have := Nat.mod_lt (at8 s 0) (y := 2 ^ (7 - z)) (Nat.pos_of_ne_zero (by simp))
    omega
  | i + 1 => by
    simp only [zdM, Nat.pow_succ]
    have := partF_lt s z hz i
    omega

theorem at8_some {s : List UInt8} {i : Nat} (h : i < s.length) : s[i]? = some s[i] ∧ (s[i].toNat : Int) = (at8 s i : Int) := by
  have : s[i]? = some s[i] := List.getElem?_eq_getElem h
  exact ⟨this, by simp [at8, this]⟩

theorem gq15 {A P Q : Prop} (a : A) (h : Q) (e : A → P = Q := by intro a; simp -dsimp only [↓zhT, ↓zbn, ↓zcK, ↓zhV, ↓zhN, ↓zhL, ↓zhO, ↓zhM, ↓zcQ, ↓zcM, ↓zcR, ↓zcN, ↓zhP, ↓zcI, ↓zcS, ↓zcO, ↓zcT, ↓zcP, ↓zhJ, ↓zhS, ↓zcH, ↓zcV, ↓zhC, ↓zhB, ↓zhI, iN, bT, bF, eN, ↓zeJ, ↓unC, ↓zap, ↓zR, ↓zS, ↓zY, ↓zaF, ↓zaY, ↓zdC, ↓zax, ↓zcY, ↓zae, ↓zk, ↓zi, ↓zcc, ↓zg, ↓zaq, ↓zt, ↓zbc, ↓zbk, ↓zf, ↓zA, ↓zw, ↓zx, ↓zaL, ↓zeU, ↓zeT, ↓zaM, ↓zbd, ↓zbg, ↓zbF, ↓zcj, ↓zC, ↓zay, ↓zT, ↓zF, ↓zaE, zeP, zcu, zco, unA, zfn, bnd, zfF, zai, zag, zfW, dm, dm1, zj, zaD, zgu, zgt, keepO, Q0, Q1, Q2, Q3, Q4, Q5, zao, zE, zl, zar, zW, Q6, Q7, Q8, Q9, Q10, Q11, Q12, Q13, Q14, Nat.reduceAdd, Q15, Int.reduceToNat, Q16, Q17, Q18, Q19, Q20, reduceIte, Q21, Q22, zlb, zn, a]; rfl) : P := (e a).mpr h
theorem gq16 {A P Q : Prop} (a : A) (h : Q) (e : A → P = Q := by intro a; simp -dsimp only [↓zhT, ↓zbn, ↓zcK, ↓zhV, ↓zhN, ↓zhL, ↓zhO, ↓zhM, ↓zcQ, ↓zcM, ↓zcR, ↓zcN, ↓zhP, ↓zcI, ↓zcS, ↓zcO, ↓zcT, ↓zcP, ↓zhJ, ↓zhS, ↓zcH, ↓zcV, ↓zhC, ↓zhB, ↓zhI, iN, bT, bF, eN, ↓zeJ, ↓unC, ↓zap, ↓zR, ↓zS, ↓zY, ↓zaF, ↓zaY, ↓zdC, ↓zax, ↓zcY, ↓zae, ↓zk, ↓zi, ↓zcc, ↓zg, ↓zaq, ↓zt, ↓zbc, ↓zbk, ↓zf, ↓zA, ↓zw, ↓zx, ↓zaL, ↓zeU, ↓zeT, ↓zaM, ↓zbd, ↓zbg, ↓zbF, ↓zcj, ↓zC, ↓zay, ↓zT, ↓zF, ↓zaE, zeP, zcu, zco, unA, zfn, bnd, zfF, zai, zag, zfW, dm, dm1, zj, zaD, zgu, zgt, keepO, Q0, Q1, Q2, Q3, Q4, Q5, zao, zE, zl, zar, zW, Q6, Q7, Q8, Q9, Q10, Q11, Q12, Q13, Q14, Nat.reduceAdd, Q15, Int.reduceToNat, Q16, Q17, Q18, Q19, Q20, reduceIte, Q21, Q22, zn, rep, zX, zhD, toD, zaz, Q23, Q24, Q25, Q26, Q27, Q28, Nat.reduceLeDiff, Q29, Nat.reduceSub, Q30, Q31, Q32, sc, Q33, Q34, Q35, a]; rfl) : P := (e a).mpr h
theorem c_rune1 {σ : List zb} {s : List UInt8} (hs : s.length ≤ 1073741824) (hne : s ≠ []) {K : AV → List zb → Prop} (hK : K (.tup [.d (.int .i64 (zfz s).1), .d (.int .i64 (zfz s).2)]) σ) : zu Try.prog zia [.d (.str s)] σ K := by
  refine zlr e_r06_rune1 fun hl => ?_
  have hpos : 0 < s.length := List.length_pos_iff.2 hne
  obtain ⟨g1, g2⟩ := at8_some hpos
  have hb0 := zkX s 0
  (refine gq15 (zd g1 g2) ?_; try with_reducible exact True.intro)
  refine ⟨by omega, c_rsize ?_⟩
  have hz4 : zgr (at8 s 0) = 0 ∨ zgr (at8 s 0) = 1 ∨ zgr (at8 s 0) = 2 ∨ zgr (at8 s 0) = 3 ∨ zgr (at8 s 0) = 4 := by
    unfold zgr; split <;> (try split) <;> (try split) <;> (try split) <;> omega
  obtain ⟨z, hz⟩ : ∃ z, z = zgr (at8 s 0) := ⟨_, rfl⟩
  rw [← hz] at hz4 ⊢
  have bad : z = 0 ∨ z > s.length → K (.tup [.d (.int .i64 0), .d (.int .i64 0)]) σ := fun h => by
    have : zfz s = (0, 0) := by simp only [zfz, ← hz]; rw [if_pos h]
    rw [this] at hK; exact hK
  (refine gq11 ?_; try with_reducible exact True.intro)
  refine zab (fun h => ?_) (fun h => ?_)
  all_goals (try (refine gq10 (zd h (zd g1 g2)) ?_; try with_reducible exact True.intro))
  · refine zde hl ?_
    exact bad (.inl (by (try simp only [decide_eq_true_eq, decide_eq_false_iff_not, beq_iff_eq, beq_eq_false_iff_ne, bne_iff_ne, ne_eq, Bool.not_eq_true', Bool.not_eq_false', bne_eq_false_iff_eq] at *); omega))
  have hz0 : z ≠ 0 := by (try simp only [decide_eq_true_eq, decide_eq_false_iff_not, beq_iff_eq, beq_eq_false_iff_ne, bne_iff_ne, ne_eq, Bool.not_eq_true', Bool.not_eq_false', bne_eq_false_iff_eq] at *); omega
  refine zab (fun h => ?_) (fun h => ?_)
  all_goals (try (refine gq10 (zd h (zd g1 g2)) ?_; try with_reducible exact True.intro))
  · refine zde hl ?_
    exact bad (.inr (by (try simp only [decide_eq_true_eq, decide_eq_false_iff_not, beq_iff_eq, beq_eq_false_iff_ne, bne_iff_ne, ne_eq, Bool.not_eq_true', Bool.not_eq_false', bne_eq_false_iff_eq] at *); omega))
  have hzl : z ≤ s.length := by (try simp only [decide_eq_true_eq, decide_eq_false_iff_not, beq_iff_eq, beq_eq_false_iff_ne, bne_iff_ne, ne_eq, Bool.not_eq_true', Bool.not_eq_false', bne_eq_false_iff_eq] at *); omega
  have hnb : ¬ (z = 0 ∨ z > s.length) := by omega
  refine zab (fun h => ?_) (fun h => ?_)
  all_goals (try (refine gq10 (zd h (zd g1 g2)) ?_; try with_reducible exact True.intro))
  · have h1 : z = 1 := by (try simp only [decide_eq_true_eq, decide_eq_false_iff_not, beq_iff_eq, beq_eq_false_iff_ne, bne_iff_ne, ne_eq, Bool.not_eq_true', Bool.not_eq_false', bne_eq_false_iff_eq] at *); omega
    refine ⟨by omega, ?_⟩
    refine zde hl ?_
    have : zfz s = (at8 s 0, 1) := by simp only [zfz, ← hz]; rw [if_neg hnb, if_pos h1]
    rw [this] at hK
    simp only [zep, dmT, dm, dm1, List.map_cons, List.map_nil]
    rw [zaO (by omega) (by omega)]
    exact hK
  have hz2 : z = 2 ∨ z = 3 ∨ z = 4 := by (try simp only [decide_eq_true_eq, decide_eq_false_iff_not, beq_iff_eq, beq_eq_false_iff_ne, bne_iff_ne, ne_eq, Bool.not_eq_true', Bool.not_eq_false', bne_eq_false_iff_eq] at *); omega
  have h1 : ¬ z = 1 := by omega
  refine ⟨by omega, ?_⟩
  have hw : IntKind.i64.wrap (at8 s 0 : Int) = (at8 s 0 : Int) := zaO (by omega) (by omega)
  have hsh : (0 : Int) ≤ IntKind.i64.wrap (7 - (z : Int)) := by rw [zaO (by omega) (by omega)]; omega
  refine ⟨hsh, ?_⟩
  rw [hw, mask_eq z hz2 _ hb0]
  refine zI z (fun k vs s' => s' = σ ∧ k + 1 ≤ z ∧ vs = [.d (.int .i64 (zdM s z k)), .d (.int .i64 (k + 1 : Nat))] ∧ ∀ i, i < k + 1 → 1 ≤ i → zjo s i = true) ⟨rfl, by omega, rfl, fun i h1 h2 => by omega⟩ ?_
  rintro k vs s' hk ⟨rfl, hk1, rfl, hcont⟩
  have hpl := partF_lt s z (by omega) k
  have hpow : 64 ^ k ≤ 64 ^ 3 := Nat.pow_le_pow_right (by omega) (by omega)
  (refine gq11 ?_; try with_reducible exact True.intro)
  have fail : (¬ ∀ i, i < z → 1 ≤ i → zjo s i = true) → K (.tup [.d (.int .i64 0), .d (.int .i64 0)]) s' := fun h => by
    have : zfz s = (0, 0) := by simp only [zfz, ← hz]; rw [if_neg hnb, if_neg h1, if_neg h]
    rw [this] at hK; exact hK
  refine zab (fun h => ?_) (fun h => ?_)
  · have hkz : k + 1 < z := by (try simp only [decide_eq_true_eq, decide_eq_false_iff_not, beq_iff_eq, beq_eq_false_iff_ne, bne_iff_ne, ne_eq, Bool.not_eq_true', Bool.not_eq_false', bne_eq_false_iff_eq] at *); omega
    obtain ⟨f1, f2⟩ := at8_some (s := s) (i := k + 1) (by omega)
    have hb := zkX s (k + 1)
    repeat' first
      | (refine gq16 (zd f1 f2) ?_; try with_reducible exact True.intro)
      | (refine zab (fun h => ?_) (fun h => ?_) <;> (try rw [h]))
      | ((with_reducible refine And.intro ?_ ?_); focus (first | omega | rfl | decide))
    · refine zde hl ?_
      exact fail fun h' => by
        have := h' (k + 1) hkz (by omega)
        simp only [zjo] at this
        (try simp only [decide_eq_true_eq, decide_eq_false_iff_not, beq_iff_eq, beq_eq_false_iff_ne, bne_iff_ne, ne_eq, Bool.not_eq_true', Bool.not_eq_false', bne_eq_false_iff_eq] at *); omega
    · refine zde hl ?_
      exact fail fun h' => by
        have := h' (k + 1) hkz (by omega)
        simp only [zjo] at this
        (try simp only [decide_eq_true_eq, decide_eq_false_iff_not, beq_iff_eq, beq_eq_false_iff_ne, bne_iff_ne, ne_eq, Bool.not_eq_true', Bool.not_eq_false', bne_eq_false_iff_eq] at *); omega
    have hv : IntKind.i64.wrap (IntKind.i64.wrap (↑(zdM s z k) * 64) + (IntKind.i64.wrap ↑(at8 s (k + 1))).tmod 64) = ((zdM s z (k + 1) : Nat) : Int) := by
      have hp2 : zdM s z k < 32 * 64 ^ 3 := by omega
      have e1 : IntKind.i64.wrap ((zdM s z k : Int) * 64) = (zdM s z k : Int) * 64 := zaO (by omega) (by omega)
      have e2 : IntKind.i64.wrap (at8 s (k + 1) : Int) = (at8 s (k + 1) : Int) := zaO (by omega) (by omega)
      have e3 : ((at8 s (k + 1) : Int)).tmod 64 = ((at8 s (k + 1) % 64 : Nat) : Int) := by rw [Int.tmod_eq_emod_of_nonneg (by omega)]; rfl
      rw [e1, e2, e3, zaO (by omega) (by omega)]
      simp only [zdM]
      omega
    have hw2 : IntKind.i64.wrap (((k + 1 : Nat) : Int) + 1) = ((k + 1 + 1 : Nat) : Int) := by rw [zaO (by omega) (by omega)]; rfl
    rw [hv, hw2]
    refine zca.next (by omega) ⟨rfl, by omega, rfl, fun i hi1 hi2 => ?_⟩
    by_cases hi : i < k + 1
    · exact hcont i hi hi2
    · obtain rfl : i = k + 1 := by omega
      simp only [zjo]
      (try simp only [decide_eq_true_eq, decide_eq_false_iff_not, beq_iff_eq, beq_eq_false_iff_ne, bne_iff_ne, ne_eq, Bool.not_eq_true', Bool.not_eq_false', bne_eq_false_iff_eq] at *); omega
  · have hkz : k + 1 = z := by (try simp only [decide_eq_true_eq, decide_eq_false_iff_not, beq_iff_eq, beq_eq_false_iff_ne, bne_iff_ne, ne_eq, Bool.not_eq_true', Bool.not_eq_false', bne_eq_false_iff_eq] at *); omega
    have hall : ∀ i, i < z → 1 ≤ i → zjo s i = true := by rw [← hkz]; exact hcont
    have hdec : zfz s = if zdM s z k < zdi z ∨ zdM s z k > 1114111 ∨ (55296 ≤ zdM s z k ∧ zdM s z k < 57344) then (0, 0) else (zdM s z k, z) := by
      have e : z - 1 = k := by omega
      simp only [zfz, ← hz]
      rw [if_neg hnb, if_neg h1, if_pos hall, e]
    have hget : ∃ l : Nat, l = zdi z ∧ ([[D.int .i64 0], [D.int .i64 0], [D.int .i64 128], [D.int .i64 2048], [D.int .i64 65536]] : List (List D))[z]? = some [D.int .i64 l] := by
      rcases hz2 with rfl | rfl | rfl <;> exact ⟨_, rfl, rfl⟩
    obtain ⟨l, hl1, hl2⟩ := hget
    rw [← hl1] at hdec
    repeat' first
      | (refine gq16 hl2 ?_; try with_reducible exact True.intro)
      | (refine zab (fun h => ?_) (fun h => ?_) <;> (try rw [h]))
      | ((with_reducible refine And.intro ?_ ?_); focus (first | omega | rfl | decide))
    all_goals refine zde hl ?_
    all_goals (try simp only [decide_eq_true_eq, decide_eq_false_iff_not, beq_iff_eq, beq_eq_false_iff_ne, bne_iff_ne, ne_eq, Bool.not_eq_true', Bool.not_eq_false', bne_eq_false_iff_eq] at *)
    all_goals simp only [zep, dmT, dm, dm1, List.map_cons, List.map_nil]
    all_goals first
      | (rw [if_pos (by omega)] at hdec; rw [hdec] at hK; exact hK)
      | (rw [if_neg (by omega)] at hdec; rw [hdec] at hK; exact hK)

theorem badF_ref (v : Nat) : badF v = decide (v < 33 ∨ 127 ≤ v ∧ v < 160 ∨ v = 47 ∨ v = 65533) := by
  simp only [badF]; congr 1; apply propext; omega
theorem c_rRunes {σ : List zb} {s : List UInt8} (hs : s.length ≤ 1073741824) {K : AV → List zb → Prop} (hK : K (.d (.int .i64 (zdT s))) σ) : zu Try.prog zib [.d (.str s)] σ K := by
  refine zlr e_r06_Runes fun hl => ?_
  simp only [zlc, iN, bT, bF, eN]
  refine zI s.length (fun pos vs s' => ∃ (cnt : Nat) (t : List UInt8), t.length + pos = s.length ∧ vs = [.d (.str t), .d (.int .i64 cnt)] ∧ s' = σ ∧ cnt ≤ pos ∧ cnt ≤ 16 ∧ zbL (s.length + 1) s = (zbL (s.length + 1) t).map (· + cnt)) ⟨0, s, rfl, rfl, rfl, by omega, by omega, by simp⟩ ?_
  rintro pos vs s' hp ⟨cnt, t, hlen, rfl, rfl, hc, hc16, hr⟩
  (refine gq11 ?_; try with_reducible exact True.intro)
  refine zab (fun h => ?_) (fun h => ?_)
  · have ht : t ≠ [] := by rintro rfl; simp at h
    have htl : 0 < t.length := List.length_pos_iff.2 ht
    have hw2 := zfN t
    have hcount : zbL (s.length + 1) t = if (zfz t).2 = 0 ∨ badF (zfz t).1 = true then none else (zbL s.length (t.drop (zfz t).2)).map (· + 1) := by
      rw [zbL, if_neg ht]
    refine c_rune1 (by omega) ht ?_
    have stop : (zfz t).2 = 0 ∨ badF (zfz t).1 = true ∨ cnt = 16 → K (.d (.int .i64 0)) s' := fun hb => by
      have h0 : zdT s = 0 := by
        by_cases hq : (zfz t).2 = 0 ∨ badF (zfz t).1 = true
        · simp [zdT, hr, hcount, if_pos hq]
        · have hcn : cnt = 16 := by
            rcases hb with hb | hb | hb
            · exact absurd (.inl hb) hq
            · exact absurd (.inr hb) hq
            · exact hb
          simp only [zdT, hr, hcount, if_neg hq]
          cases zbL s.length (t.drop (zfz t).2) with
          | none => simp
          | some m => simp; omega
      rw [h0] at hK; exact hK
    (repeat' (first | (refine gq7 ?_; try with_reducible exact True.intro) | (refine zab (fun h => ?_) (fun h => ?_) <;> (try rw [h])) | ((with_reducible refine And.intro ?_ ?_); focus (first | omega | rfl | decide))))
    all_goals first
      | (refine zde hl ?_
         refine stop ?_
         rw [badF_ref, decide_eq_true_eq]
         (try simp only [decide_eq_true_eq, decide_eq_false_iff_not, beq_iff_eq, beq_eq_false_iff_ne, bne_iff_ne, ne_eq, Bool.not_eq_true', Bool.not_eq_false', bne_eq_false_iff_eq] at *)
         omega)
      | skip
    all_goals
      have hb : badF (zfz t).1 = false := by
        rw [badF_ref, decide_eq_false_iff_not]
        (try simp only [decide_eq_true_eq, decide_eq_false_iff_not, beq_iff_eq, beq_eq_false_iff_ne, bne_iff_ne, ne_eq, Bool.not_eq_true', Bool.not_eq_false', bne_eq_false_iff_eq] at *)
        omega
      have h2 : (zfz t).2 ≠ 0 := by (try simp only [decide_eq_true_eq, decide_eq_false_iff_not, beq_iff_eq, beq_eq_false_iff_ne, bne_iff_ne, ne_eq, Bool.not_eq_true', Bool.not_eq_false', bne_eq_false_iff_eq] at *); omega
      have hcl : cnt < 16 := by (try simp only [decide_eq_true_eq, decide_eq_false_iff_not, beq_iff_eq, beq_eq_false_iff_ne, bne_iff_ne, ne_eq, Bool.not_eq_true', Bool.not_eq_false', bne_eq_false_iff_eq] at *); omega
      rw [zaO (by omega) (by omega)]
      refine zca.to (pos + (zfz t).2) (by omega) (by omega) ⟨cnt + 1, t.drop (zfz t).2, by simp; omega, ?_, rfl, by omega, by omega, ?_⟩
      · simp
      · rw [hr, hcount, if_neg (by simp [h2, hb]), zii s.length (s.length + 1) _ (by simp; omega) (by simp; omega)]
        cases zbL (s.length + 1) (t.drop (zfz t).2) <;> simp
        omega
  · refine zde hl ?_
    have ht : t = [] := by
      have : ¬ 0 < t.length := by (try simp only [decide_eq_true_eq, decide_eq_false_iff_not, beq_iff_eq, beq_eq_false_iff_ne, bne_iff_ne, ne_eq, Bool.not_eq_true', Bool.not_eq_false', bne_eq_false_iff_eq] at *); omega
      exact List.length_eq_zero_iff.1 (by omega)
    have h0 : zdT s = cnt := by
      simp only [zdT, hr, ht]
      simp [zbL]
      omega
    rw [h0] at hK; exact hK
theorem c_rName {σ : List zb} {s : List UInt8} (hs : s.length ≤ 1073741824) {K : AV → List zb → Prop} (hK : K (.d (.bool (zda s))) σ) : zu Try.prog zhk [.d (.str s)] σ K := by
  refine zlr e_r06_Name fun hl => ?_
  simp only [zlY, iN, bT, bF, eN]
  (refine gq11 ?_; try with_reducible exact True.intro)
  refine c_rRunes hs ?_
  (refine gq11 ?_; try with_reducible exact True.intro)
  refine zde hl ?_
  have : decide ((zdT s : Int) > 0) = zda s := by simp [zda]
  rw [this]; exact hK

theorem c_Check_1 {σ : List zb} {r : List UInt8} {K : AV → List zb → Prop} (hK : K (.d (.bool (decide (r.length > 64)))) σ) : zu Try.prog zfr [.d (.slice (bcs r))] σ K := by
  refine zlr e_op_Check_1 fun hl => ?_
  simp only [zjN, iN, bT, bF, eN]
  (refine gq11 ?_; try with_reducible exact True.intro)
  refine zde hl ?_
  have : decide (((bcs r).length : Int) > 64) = decide (r.length > 64) := by simp [bcs]; omega
  rw [this]; exact hK
theorem gq17 {P Q : Prop} (h : Q) (e : P = Q := by simp -dsimp only [↓zhT, ↓zbn, ↓zcK, ↓zhV, ↓zhN, ↓zhL, ↓zhO, ↓zhM, ↓zcQ, ↓zcM, ↓zcR, ↓zcN, ↓zhP, ↓zcI, ↓zcS, ↓zcO, ↓zcT, ↓zcP, ↓zhJ, ↓zhS, ↓zcH, ↓zcV, ↓zhC, ↓zhB, ↓zhI, iN, bT, bF, eN, ↓zeJ, ↓unC, ↓zap, ↓zR, ↓zS, ↓zY, ↓zaF, ↓zaY, ↓zdC, ↓zax, ↓zcY, ↓zae, ↓zk, ↓zi, ↓zcc, ↓zg, ↓zaq, ↓zt, ↓zbc, ↓zbk, ↓zf, ↓zA, ↓zw, ↓zx, ↓zaL, ↓zeU, ↓zeT, ↓zaM, ↓zbd, ↓zbg, ↓zbF, ↓zcj, ↓zC, ↓zay, ↓zT, ↓zF, ↓zaE, zeP, zcu, zco, unA, zfn, bnd, zfF, zai, zag, zfW, dm, dm1, zj, zaD, zgu, zgt, keepO, Q0, Q1, Q2, Q3, Q4, Q5, zao, zE, zl, zar, zW, Q6, Q7, Q8, Q9, Q10, Q11, Q12, Q13, Q14, Nat.reduceAdd, Q15, Int.reduceToNat, Q16, Q17, Q18, Q19, Q20, reduceIte, Q21, Q22, dmT, zep, zn]; rfl) : P := e.mpr h
theorem zgT {σ : List zb} {a : List (List UInt8)} (ha : a.length ≤ 1073741824) {K : AV → List zb → Prop} (hK : K (.d (.bool (a.any fun r => decide (r.length > 64)))) σ) :
    zu Try.prog zad [.d (.slice (zQ a)), .fn (.func zfr) [] []] σ K := by
  refine acE2 zbS fun hl => ?_
  simp only [zaQ, iN, bT, bF, eN]
  (refine gq11 ?_; try with_reducible exact True.intro)
  refine acE2 zcm fun hl => ?_
  simp only [zba, iN, bT, bF, eN]
  (refine gq11 ?_; try with_reducible exact True.intro)
  refine zI a.length (fun k vs s => vs = [.d (.int .i64 k)] ∧ s = σ ∧ ∀ r ∈ a.take k, ¬ r.length > 64) ⟨rfl, rfl, by simp⟩ ?_
  rintro k vs s hk ⟨rfl, rfl, htk⟩
  (refine gq11 ?_; try with_reducible exact True.intro)
  refine zab (fun h => ?_) (fun h => ?_)
  · have hka : k < a.length := by (try simp only [decide_eq_true_eq, decide_eq_false_iff_not, beq_iff_eq, beq_eq_false_iff_ne, bne_iff_ne, ne_eq, Bool.not_eq_true', Bool.not_eq_false', bne_eq_false_iff_eq] at *); omega
    have hx : a[k]? = some a[k] := by simp [hka]
    (refine gq10 (zeR hx) ?_; try with_reducible exact True.intro)
    refine And.intro (by omega) (c_Check_1 ?_)
    (refine gq11 ?_; try with_reducible exact True.intro)
    refine zab (fun h => ?_) (fun h => ?_)
    · refine zde hl ?_
      (refine gq17 ?_; try with_reducible exact True.intro)
      refine zde hl ?_
      have e1 : decide ((k : Int) ≥ 0) = true := by simp
      have e2 : (a.any fun r => decide (r.length > 64)) = true := by
        rw [List.any_eq_true]
        exact ⟨a[k], List.getElem_mem _, h⟩
      rw [e2] at hK
      simp only [zep, dmT, dm, dm1]
      rw [e1]; exact hK
    · (refine gq11 ?_; try with_reducible exact True.intro)
      refine zca.next hka ⟨?_, rfl, fun r hr => ?_⟩
      · rw [zaO (by omega) (by omega)]; rfl
      · rw [List.take_add_one, hx] at hr
        rcases List.mem_append.1 hr with hr | hr
        · exact htk r hr
        · have : r = a[k] := by simpa using hr
          subst this
          simpa using h
  · refine zde hl ?_
    (refine gq17 ?_; try with_reducible exact True.intro)
    refine zde hl ?_
    have e2 : (a.any fun r => decide (r.length > 64)) = false := by
      rw [List.any_eq_false]
      intro r hr
      have hk' : k = a.length := by (try simp only [decide_eq_true_eq, decide_eq_false_iff_not, beq_iff_eq, beq_eq_false_iff_ne, bne_iff_ne, ne_eq, Bool.not_eq_true', Bool.not_eq_false', bne_eq_false_iff_eq] at *); omega
      rw [hk', List.take_length] at htk
      simpa using htk r hr
    rw [e2] at hK
    exact hK
theorem gq18 {P Q : Prop} (h : Q) (e : P = Q := by simp -dsimp only [↓zhT, ↓zbn, ↓zcK, ↓zhV, ↓zhN, ↓zhL, ↓zhO, ↓zhM, ↓zcQ, ↓zcM, ↓zcR, ↓zcN, ↓zhP, ↓zcI, ↓zcS, ↓zcO, ↓zcT, ↓zcP, ↓zhJ, ↓zhS, ↓zcH, ↓zcV, ↓zhC, ↓zhB, ↓zhI, iN, bT, bF, eN, ↓zeJ, ↓unC, ↓zap, ↓zR, ↓zS, ↓zY, ↓zaF, ↓zaY, ↓zdC, ↓zax, ↓zcY, ↓zae, ↓zk, ↓zi, ↓zcc, ↓zg, ↓zaq, ↓zt, ↓zbc, ↓zbk, ↓zf, ↓zA, ↓zw, ↓zx, ↓zaL, ↓zeU, ↓zeT, ↓zaM, ↓zbd, ↓zbg, ↓zbF, ↓zcj, ↓zC, ↓zay, ↓zT, ↓zF, ↓zaE, zeP, zcu, zco, unA, zfn, bnd, zfF, zai, zag, zfW, dm, dm1, zj, zaD, zgu, zgt, keepO, Q0, Q1, Q2, Q3, Q4, Q5, zao, zE, zl, zar, zW, Q6, Q7, Q8, Q9, Q10, Q11, Q12, Q13, Q14, Nat.reduceAdd, Q15, Int.reduceToNat, Q16, Q17, Q18, Q19, Q20, reduceIte, Q21, Q22, zn, rep, zX, zhD, toD, zaz, Q23, Q24, Q25, Q26, Q27, Q28, Nat.reduceLeDiff, Q29, Nat.reduceSub, Q30, Q31, Q32, sc, Q33, Q34, Q35, Bool.and_false, Bool.and_self, Bool.false_and, Bool.not_false, Bool.not_true, Bool.true_and, Int.toNat_natCast, Int.toNat_zero, List.drop_zero, List.length_map, List.length_nil, List.nil_append, List.take_length, Nat.sub_zero, Nat.zero_add, Option.isSome_none, Option.isSome_some, Option.map_none, Option.map_some, zfO, beq_self_eq_true, bne_self_eq_false, zck, zbK, opA]; rfl) : P := e.mpr h
theorem c_Check {σ : List zb} {o : TOp} (ht : o.topic.length ≤ 1073741824) (hg : o.group.length ≤ 1073741824) (hr : o.recs.length ≤ 1073741824) {K : AV → List zb → Prop} (hK : K (.d (.int .i64 (zan zda o))) σ) : zu Try.prog zje [opA o] σ K := by
  refine zlr e_op_Check fun hl => ?_
  simp only [zma, iN, bT, bF, eN, zl2, opA]
  (refine gq7 ?_; try with_reducible exact True.intro)
  refine c_only (o := o) ?_
  have honly : (onlyF o).recs.length ≤ 1073741824 := by unfold onlyF noOp; split <;> (try split) <;> (try split) <;> (try split) <;> simp <;> omega
  (refine gq18 ?_; try with_reducible exact True.intro)
  repeat' first
    | (refine gq7 ?_; try with_reducible exact True.intro)
    | refine c_Same (a := o) (b := onlyF o) hr honly ?_
    | refine c_Name ht ?_
    | refine c_Name hg ?_
    | refine zgT hr ?_
    | (refine zab (fun h => ?_) (fun h => ?_) <;> (try rw [h]))
    | ((with_reducible refine And.intro ?_ ?_); focus (first | omega | rfl | decide))
  all_goals refine zde hl ?_
  all_goals (try simp only [decide_eq_true_eq, decide_eq_false_iff_not, beq_iff_eq, beq_eq_false_iff_ne, bne_iff_ne, ne_eq, Bool.not_eq_true', Bool.not_eq_false', bne_eq_false_iff_eq] at *)
  all_goals
    simp only [zep, dmT, dm, dm1]
    have e : ∀ z : Int, zan zda o = z → K (.d (.int .i64 z)) σ := fun z hz => by rw [← hz]; exact hK
    clear hK
    apply e
    first
    | grind [zan]
    | skip

def ziK (k : Int) : Bool := decide (1 ≤ k ∧ k ≤ 4)
def zkL (k : Int) : Bool := decide (k = 3)
def fOff (k : Int) : Bool := decide (k = 3 ∨ k = 4)
def fRecs (k : Int) : Bool := decide (k = 2)
theorem c_fields {σ : List zb} {k : Int} {K : AV → List zb → Prop} (hK : K (.tup [.d (.bool (ziK k)), .d (.bool (zkL k)), .d (.bool (fOff k)), .d (.bool (fRecs k))]) σ) : zu Try.prog zgK [.d (.int .i64 k)] σ K := by
  refine zlr e_r06_fields fun hl => ?_
  simp only [zjL, iN, bT, bF, eN]
  (repeat' (first | (refine gq7 ?_; try with_reducible exact True.intro) | (refine zab (fun h => ?_) (fun h => ?_) <;> (try rw [h])) | ((with_reducible refine And.intro ?_ ?_); focus (first | omega | rfl | decide))))
  all_goals refine zde hl ?_
  all_goals (try simp only [decide_eq_true_eq, decide_eq_false_iff_not, beq_iff_eq, beq_eq_false_iff_ne, bne_iff_ne, ne_eq, Bool.not_eq_true', Bool.not_eq_false', bne_eq_false_iff_eq] at *)
  all_goals
    simp only [zep, dmT, dm, dm1, List.map_cons, List.map_nil]
    have e : ∀ a b c d : Bool, ziK k = a → zkL k = b → fOff k = c → fRecs k = d → K (.tup [.d (.bool a), .d (.bool b), .d (.bool c), .d (.bool d)]) σ := fun a b c d h1 h2 h3 h4 => by rw [← h1, ← h2, ← h3, ← h4]; exact hK
    clear hK
    apply e <;> simp [ziK, zkL, fOff, fRecs] <;> omega
theorem onlyF_iff (o : TOp) : o = onlyF o ↔ (ziK o.kind = false → o.topic = []) ∧ (zkL o.kind = false → o.group = []) ∧ (fOff o.kind = false → o.offset = 0) ∧ (fRecs o.kind = false → o.recs = []) := by
  obtain ⟨k, t, g, f, r⟩ := o
  simp only [onlyF, noOp, ziK, zkL, fOff, fRecs, decide_eq_false_iff_not]
  by_cases h1 : k = 1
  · subst h1; simp
  by_cases h2 : k = 2
  · subst h2; simp
  by_cases h3 : k = 3
  · subst h3; simp
  by_cases h4 : k = 4
  · subst h4; simp
  · have : ¬ (1 ≤ k ∧ k ≤ 4) := by omega
    simp [h1, h2, h3, h4, this]
set_option maxHeartbeats 2000000 in
theorem c_rCheck {σ : List zb} {o : TOp} (ht : o.topic.length ≤ 1073741824) (hg : o.group.length ≤ 1073741824) (hr : o.recs.length ≤ 1073741824) {K : AV → List zb → Prop} (hK : K (.d (.int .i64 (zan zda o))) σ) : zu Try.prog zic [opA o] σ K := by
  refine zlr e_r06_Check fun hl => ?_
  simp only [zld, iN, bT, bF, eN, opA]
  (refine gq7 ?_; try with_reducible exact True.intro)
  refine c_fields ?_
  have fin : ∀ z : Int, zan zda o = z → K (.d (.int .i64 z)) σ := fun z hz => by rw [← hz]; exact hK
  have honly := onlyF_iff o
  have hkind : ziK o.kind = true → zdp o = true := by simp [ziK, zdp]; omega
  have hk1 : ziK o.kind = true ↔ (zdp o = true ∧ o.kind ≠ 0) := by simp [ziK, zdp]; omega
  have hk2 : zkL o.kind = true ↔ o.kind = 3 := by simp [zkL]
  have hk3 : fRecs o.kind = true ↔ o.kind = 2 := by simp [fRecs]
  have hk4 : zdp o = true ↔ (0 ≤ o.kind ∧ o.kind ≤ 4) := by simp [zdp]
  have hnil : o.recs = [] ↔ o.recs.length = 0 := List.length_eq_zero_iff.symm
  clear hK
  repeat' first
    | (refine gq7 ?_; try with_reducible exact True.intro)
    | refine c_rName ht ?_
    | refine c_rName hg ?_
    | (refine zab (fun h => ?_) (fun h => ?_) <;> (try rw [h]))
    | ((with_reducible refine And.intro ?_ ?_); focus (first | omega | rfl | decide))
  all_goals first
    | (refine zde hl ?_
       (try simp only [decide_eq_true_eq, decide_eq_false_iff_not, beq_iff_eq, beq_eq_false_iff_ne, bne_iff_ne, ne_eq, Bool.not_eq_true', Bool.not_eq_false', bne_eq_false_iff_eq] at *)
       simp only [zep, dmT, dm, dm1]
       apply fin
       grind [zan])
    | skip
  all_goals
    refine zI o.recs.length (fun k vs s => vs = [.d (.int .i64 k)] ∧ s = σ ++ [.box [.d (.int .i64 o.kind), .d (.str o.topic), .d (.str o.group), .d (.int .i64 o.offset), .d (.slice (zQ o.recs))]] ∧ ∀ r ∈ o.recs.take k, ¬ r.length > 64) ⟨rfl, rfl, by simp⟩ ?_
    rintro k vs s hk ⟨rfl, rfl, htk⟩
    (refine gq11 ?_; try with_reducible exact True.intro)
    refine zab (fun h => ?_) (fun h => ?_)
    · have hka : k < o.recs.length := by (try simp only [decide_eq_true_eq, decide_eq_false_iff_not, beq_iff_eq, beq_eq_false_iff_ne, bne_iff_ne, ne_eq, Bool.not_eq_true', Bool.not_eq_false', bne_eq_false_iff_eq] at *); omega
      have hx : o.recs[k]? = some o.recs[k] := by simp [hka]
      have hmem : o.recs[k] ∈ o.recs := List.getElem_mem _
      have hbl : (bcs o.recs[k]).length = o.recs[k].length := by simp [bcs]
      (refine gq10 (zeR hx) ?_; try with_reducible exact True.intro)
      refine And.intro (by omega) ?_
      refine zab (fun h => ?_) (fun h => ?_)
      · have hany : (o.recs.any fun r => decide (r.length > 64)) = true := by
          rw [List.any_eq_true]
          exact ⟨_, hmem, by (try simp only [decide_eq_true_eq, decide_eq_false_iff_not, beq_iff_eq, beq_eq_false_iff_ne, bne_iff_ne, ne_eq, Bool.not_eq_true', Bool.not_eq_false', bne_eq_false_iff_eq] at *); omega⟩
        refine zde hl ?_
        (try simp only [decide_eq_true_eq, decide_eq_false_iff_not, beq_iff_eq, beq_eq_false_iff_ne, bne_iff_ne, ne_eq, Bool.not_eq_true', Bool.not_eq_false', bne_eq_false_iff_eq] at *)
        simp only [zep, dmT, dm, dm1]
        apply fin
        grind [zan]
      · (refine gq11 ?_; try with_reducible exact True.intro)
        refine zca.next hka ⟨?_, rfl, fun r hr => ?_⟩
        · rw [zaO (by omega) (by omega)]; rfl
        · rw [List.take_add_one, hx] at hr
          rcases List.mem_append.1 hr with hr | hr
          · exact htk r hr
          · have : r = o.recs[k] := by simpa using hr
            subst this
            (try simp only [decide_eq_true_eq, decide_eq_false_iff_not, beq_iff_eq, beq_eq_false_iff_ne, bne_iff_ne, ne_eq, Bool.not_eq_true', Bool.not_eq_false', bne_eq_false_iff_eq] at *)
            omega
    · have hany : (o.recs.any fun r => decide (r.length > 64)) = false := by
        rw [List.any_eq_false]
        intro r hr
        have hk' : k = o.recs.length := by (try simp only [decide_eq_true_eq, decide_eq_false_iff_not, beq_iff_eq, beq_eq_false_iff_ne, bne_iff_ne, ne_eq, Bool.not_eq_true', Bool.not_eq_false', bne_eq_false_iff_eq] at *); omega
        rw [hk', List.take_length] at htk
        simpa using htk r hr
      clear htk
      (repeat' (first | (refine gq7 ?_; try with_reducible exact True.intro) | (refine zab (fun h => ?_) (fun h => ?_) <;> (try rw [h])) | ((with_reducible refine And.intro ?_ ?_); focus (first | omega | rfl | decide))))
      all_goals
        refine zde hl ?_
        (try simp only [decide_eq_true_eq, decide_eq_false_iff_not, beq_iff_eq, beq_eq_false_iff_ne, bne_iff_ne, ne_eq, Bool.not_eq_true', Bool.not_eq_false', bne_eq_false_iff_eq] at *)
        simp only [zep, dmT, dm, dm1]
        apply fin
        grind [zan]

end Go.Proofs.Ytaocmalhjfakdaa
