/- Contracts of operations: which are the same. -/
import Derived.Test.YtaocmalhjfakdaaGreatCodec1
import Derived.Test.YtaocmalhjfakdaaGreatSpNum
set_option linter.all false
set_option maxRecDepth 100000
set_option linter.unusedSimpArgs false
namespace Go.Proofs.YtaocmalhjfakdaaGreat
open Go.AW

theorem gq7 {P Q : Prop} (h : Q) (e : P = Q := by simp -dsimp only [↓zhB, ↓zbf, ↓zcv, ↓zhC, ↓zhx, ↓zhv, ↓zhy, ↓zhw, ↓zcA, ↓zcw, ↓zcB, ↓zcx, ↓zhz, ↓zcu, ↓zcC, ↓zcy, ↓zcD, ↓zcz, ↓zhu, ↓zhA, ↓zct, ↓zcE, ↓zhs, ↓zhr, ↓zht, iN, bT, bF, eN, ↓zea, ↓unC, ↓zad, ↓zN, ↓zO, ↓zU, ↓zaw, ↓zbe, ↓zdk, ↓zaa, ↓zcX, ↓zai, ↓zk, ↓zi, ↓zbE, ↓zh, ↓zar, ↓zC, ↓zbb, ↓zbp, ↓ze, ↓zy, ↓zq, ↓zr, ↓zaA, ↓zeC, ↓zeS, ↓zaI, ↓zaT, ↓zbd, ↓zbF, ↓zbU, ↓zx, ↓zav, ↓zL, ↓zA, ↓zau, zeH, zcn, zcf, unA, zeV, bnd, zfP, zah, zX, zft, dm, dm1, zp, zaG, zgx, zgw, zS, Q0, Q1, Q2, Q3, Q4, Q5, zap, zE, zj, zat, zP, Q6, Q7, Q8, Q9, Q10, Q11, Q12, Q13, Q14, Nat.reduceAdd, Q15, Int.reduceToNat, Q16, Q17, Q18, Q19, Q20, reduceIte, Q21, Q22, zo, rep, zab, zgT, toD, zao, Q23, Q24, Q25, Q26, Q27, Q28, Nat.reduceLeDiff, Q29, Nat.reduceSub, Q30, Q31, Q32, sc, Q33, Q34, Q35]; rfl) : P := e.mpr h
theorem c_only {σ : List zc} {o : TOp} {K : KT} (hK : K (.tup [opA (onlyF o), .d (.bool (zeh o))]) σ) : zn Tryz.prog zmZ [opA o] σ K := by
  refine zmx e_op_only fun hl => ?_
  simp only [S_op_only, iN, bT, bF, eN, zl0, opA]
  (repeat' (first | (refine gq7 ?_; try with_reducible exact True.intro) | (refine zM (fun h => ?_) (fun h => ?_) <;> (try rw [h])) | ((with_reducible refine And.intro ?_ ?_); focus (first | omega | rfl | decide))))

  all_goals refine zdv hl ?_
  all_goals simp only [beq_iff_eq, beq_eq_false_iff_ne, ne_eq] at *
  all_goals simp_all [zcJ, dmT, dm, dm1, onlyF, noOp, opA, zeh, zK]
  have e : (decide (0 ≤ o.kind) && decide (o.kind ≤ 4)) = false := by simp; omega
  rw [e] at hK
  exact hK
theorem gq8 {P Q : Prop} (h : Q) (e : P = Q := by simp -dsimp only [↓zhB, ↓zbf, ↓zcv, ↓zhC, ↓zhx, ↓zhv, ↓zhy, ↓zhw, ↓zcA, ↓zcw, ↓zcB, ↓zcx, ↓zhz, ↓zcu, ↓zcC, ↓zcy, ↓zcD, ↓zcz, ↓zhu, ↓zhA, ↓zct, ↓zcE, ↓zhs, ↓zhr, ↓zht, iN, bT, bF, eN, ↓zea, ↓unC, ↓zad, ↓zN, ↓zO, ↓zU, ↓zaw, ↓zbe, ↓zdk, ↓zaa, ↓zcX, ↓zai, ↓zk, ↓zi, ↓zbE, ↓zh, ↓zar, ↓zC, ↓zbb, ↓zbp, ↓ze, ↓zy, ↓zq, ↓zr, ↓zaA, ↓zeC, ↓zeS, ↓zaI, ↓zaT, ↓zbd, ↓zbF, ↓zbU, ↓zx, ↓zav, ↓zL, ↓zA, ↓zau, zeH, zcn, zcf, unA, zeV, bnd, zfP, zah, zX, zft, dm, dm1, zp, zaG, zgx, zgw, zS, Q0, Q1, Q2, Q3, Q4, Q5, zap, zE, zj, zat, zP, Q6, Q7, Q8, Q9, Q10, Q11, Q12, Q13, Q14, Nat.reduceAdd, Q15, Int.reduceToNat, Q16, Q17, Q18, Q19, Q20, reduceIte, Q21, Q22, znK, zo]; rfl) : P := e.mpr h
theorem c_Same_1 {σ : List zc} {a b : List UInt8} {K : KT} (hK : K (.d (.bool (a == b))) σ) : zn Tryz.prog zhG [.d (.slice (bcs a)), .d (.slice (bcs b))] σ K := by
  refine znT e_op_Same_1 fun hl => ?_
  (refine gq8 ?_; try with_reducible exact True.intro)
  refine zew ?_
  refine zdv hl ?_
  exact hK
theorem zb {A B : Prop} (a : A) (b : B) : A ∧ B := ⟨a, b⟩
theorem gq9 {P Q : Prop} (h : Q) (e : P = Q := by simp -dsimp only [↓zhB, ↓zbf, ↓zcv, ↓zhC, ↓zhx, ↓zhv, ↓zhy, ↓zhw, ↓zcA, ↓zcw, ↓zcB, ↓zcx, ↓zhz, ↓zcu, ↓zcC, ↓zcy, ↓zcD, ↓zcz, ↓zhu, ↓zhA, ↓zct, ↓zcE, ↓zhs, ↓zhr, ↓zht, iN, bT, bF, eN, ↓zea, ↓unC, ↓zad, ↓zN, ↓zO, ↓zU, ↓zaw, ↓zbe, ↓zdk, ↓zaa, ↓zcX, ↓zai, ↓zk, ↓zi, ↓zbE, ↓zh, ↓zar, ↓zC, ↓zbb, ↓zbp, ↓ze, ↓zy, ↓zq, ↓zr, ↓zaA, ↓zeC, ↓zeS, ↓zaI, ↓zaT, ↓zbd, ↓zbF, ↓zbU, ↓zx, ↓zav, ↓zL, ↓zA, ↓zau, zeH, zcn, zcf, unA, zeV, bnd, zfP, zah, zX, zft, dm, dm1, zp, zaG, zgx, zgw, zS, Q0, Q1, Q2, Q3, Q4, Q5, zap, zE, zj, zat, zP, Q6, Q7, Q8, Q9, Q10, Q11, Q12, Q13, Q14, Nat.reduceAdd, Q15, Int.reduceToNat, Q16, Q17, Q18, Q19, Q20, reduceIte, Q21, Q22, zal, zo]; rfl) : P := e.mpr h
theorem gq10 {A P Q : Prop} (a : A) (h : Q) (e : A → P = Q := by intro a; simp -dsimp only [↓zhB, ↓zbf, ↓zcv, ↓zhC, ↓zhx, ↓zhv, ↓zhy, ↓zhw, ↓zcA, ↓zcw, ↓zcB, ↓zcx, ↓zhz, ↓zcu, ↓zcC, ↓zcy, ↓zcD, ↓zcz, ↓zhu, ↓zhA, ↓zct, ↓zcE, ↓zhs, ↓zhr, ↓zht, iN, bT, bF, eN, ↓zea, ↓unC, ↓zad, ↓zN, ↓zO, ↓zU, ↓zaw, ↓zbe, ↓zdk, ↓zaa, ↓zcX, ↓zai, ↓zk, ↓zi, ↓zbE, ↓zh, ↓zar, ↓zC, ↓zbb, ↓zbp, ↓ze, ↓zy, ↓zq, ↓zr, ↓zaA, ↓zeC, ↓zeS, ↓zaI, ↓zaT, ↓zbd, ↓zbF, ↓zbU, ↓zx, ↓zav, ↓zL, ↓zA, ↓zau, zeH, zcn, zcf, unA, zeV, bnd, zfP, zah, zX, zft, dm, dm1, zp, zaG, zgx, zgw, zS, Q0, Q1, Q2, Q3, Q4, Q5, zap, zE, zj, zat, zP, Q6, Q7, Q8, Q9, Q10, Q11, Q12, Q13, Q14, Nat.reduceAdd, Q15, Int.reduceToNat, Q16, Q17, Q18, Q19, Q20, reduceIte, Q21, Q22, zo, a]; rfl) : P := (e a).mpr h
theorem gq11 {P Q : Prop} (h : Q) (e : P = Q := by simp -dsimp only [↓zhB, ↓zbf, ↓zcv, ↓zhC, ↓zhx, ↓zhv, ↓zhy, ↓zhw, ↓zcA, ↓zcw, ↓zcB, ↓zcx, ↓zhz, ↓zcu, ↓zcC, ↓zcy, ↓zcD, ↓zcz, ↓zhu, ↓zhA, ↓zct, ↓zcE, ↓zhs, ↓zhr, ↓zht, iN, bT, bF, eN, ↓zea, ↓unC, ↓zad, ↓zN, ↓zO, ↓zU, ↓zaw, ↓zbe, ↓zdk, ↓zaa, ↓zcX, ↓zai, ↓zk, ↓zi, ↓zbE, ↓zh, ↓zar, ↓zC, ↓zbb, ↓zbp, ↓ze, ↓zy, ↓zq, ↓zr, ↓zaA, ↓zeC, ↓zeS, ↓zaI, ↓zaT, ↓zbd, ↓zbF, ↓zbU, ↓zx, ↓zav, ↓zL, ↓zA, ↓zau, zeH, zcn, zcf, unA, zeV, bnd, zfP, zah, zX, zft, dm, dm1, zp, zaG, zgx, zgw, zS, Q0, Q1, Q2, Q3, Q4, Q5, zap, zE, zj, zat, zP, Q6, Q7, Q8, Q9, Q10, Q11, Q12, Q13, Q14, Nat.reduceAdd, Q15, Int.reduceToNat, Q16, Q17, Q18, Q19, Q20, reduceIte, Q21, Q22, zo]; rfl) : P := e.mpr h
theorem gq12 {A P Q : Prop} (a : A) (h : Q) (e : A → P = Q := by intro a; simp -dsimp only [↓zhB, ↓zbf, ↓zcv, ↓zhC, ↓zhx, ↓zhv, ↓zhy, ↓zhw, ↓zcA, ↓zcw, ↓zcB, ↓zcx, ↓zhz, ↓zcu, ↓zcC, ↓zcy, ↓zcD, ↓zcz, ↓zhu, ↓zhA, ↓zct, ↓zcE, ↓zhs, ↓zhr, ↓zht, iN, bT, bF, eN, ↓zea, ↓unC, ↓zad, ↓zN, ↓zO, ↓zU, ↓zaw, ↓zbe, ↓zdk, ↓zaa, ↓zcX, ↓zai, ↓zk, ↓zi, ↓zbE, ↓zh, ↓zar, ↓zC, ↓zbb, ↓zbp, ↓ze, ↓zy, ↓zq, ↓zr, ↓zaA, ↓zeC, ↓zeS, ↓zaI, ↓zaT, ↓zbd, ↓zbF, ↓zbU, ↓zx, ↓zav, ↓zL, ↓zA, ↓zau, zeH, zcn, zcf, unA, zeV, bnd, zfP, zah, zX, zft, dm, dm1, zp, zaG, zgx, zgw, zS, Q0, Q1, Q2, Q3, Q4, Q5, zap, zE, zj, zat, zP, Q6, Q7, Q8, Q9, Q10, Q11, Q12, Q13, Q14, Nat.reduceAdd, Q15, Int.reduceToNat, Q16, Q17, Q18, Q19, Q20, reduceIte, Q21, Q22, Int.toNat_natCast, zo, a]; rfl) : P := (e a).mpr h
theorem gq13 {P Q : Prop} (h : Q) (e : P = Q := by simp -dsimp only [↓zhB, ↓zbf, ↓zcv, ↓zhC, ↓zhx, ↓zhv, ↓zhy, ↓zhw, ↓zcA, ↓zcw, ↓zcB, ↓zcx, ↓zhz, ↓zcu, ↓zcC, ↓zcy, ↓zcD, ↓zcz, ↓zhu, ↓zhA, ↓zct, ↓zcE, ↓zhs, ↓zhr, ↓zht, iN, bT, bF, eN, ↓zea, ↓unC, ↓zad, ↓zN, ↓zO, ↓zU, ↓zaw, ↓zbe, ↓zdk, ↓zaa, ↓zcX, ↓zai, ↓zk, ↓zi, ↓zbE, ↓zh, ↓zar, ↓zC, ↓zbb, ↓zbp, ↓ze, ↓zy, ↓zq, ↓zr, ↓zaA, ↓zeC, ↓zeS, ↓zaI, ↓zaT, ↓zbd, ↓zbF, ↓zbU, ↓zx, ↓zav, ↓zL, ↓zA, ↓zau, zeH, zcn, zcf, unA, zeV, bnd, zfP, zah, zX, zft, dm, dm1, zp, zaG, zgx, zgw, zS, Q0, Q1, Q2, Q3, Q4, Q5, zap, zE, zj, zat, zP, Q6, Q7, Q8, Q9, Q10, Q11, Q12, Q13, Q14, Nat.reduceAdd, Q15, Int.reduceToNat, Q16, Q17, Q18, Q19, Q20, reduceIte, Q21, Q22, zau, zo]; rfl) : P := e.mpr h
theorem zkX {σ : List zc} {a b : List (List UInt8)} (ha : a.length ≤ 1073741824) (hb : b.length ≤ 1073741824) {K : KT} (hK : K (.d (.bool (a == b))) σ) :
    zn Tryz.prog zI [.d (.slice (zK a)), .d (.slice (zK b)), .fn (.func zhG) [] []] σ K := by
  refine acE3 zbl fun hl => ?_
  (refine gq9 ?_; try with_reducible exact True.intro)
  refine zM (fun h => ?_) (fun h => ?_)
  all_goals (try (refine gq10 h ?_; try with_reducible exact True.intro))
  · refine zdv hl ?_
    have : (a == b) = false := by
      rw [beq_eq_false_iff_ne]
      rintro rfl
      simp at h
    rw [this] at hK; exact hK
  have hl2 : a.length = b.length := by simp at h; omega
  refine zF a.length (fun k vs s => vs = [.d (.int .i64 k)] ∧ s = σ ∧ a.take k = b.take k) ⟨rfl, rfl, by simp⟩ ?_
  rintro k vs s hk ⟨rfl, rfl, htk⟩
  (refine gq11 ?_; try with_reducible exact True.intro)
  refine zM (fun h => ?_) (fun h => ?_)
  all_goals (try (refine gq10 h ?_; try with_reducible exact True.intro))
  · have hka : k < a.length := by simp at h; omega
    have hx : a[k]? = some a[k] := by simp [hka]
    have hy : b[k]? = some (b[k]'(by omega)) := List.getElem?_eq_getElem _
    (refine gq12 (zb (zgd hx) (zgd hy)) ?_; try with_reducible exact True.intro)
    refine ⟨by omega, by omega, c_Same_1 ?_⟩
    (refine gq13 ?_; try with_reducible exact True.intro)
    refine zM (fun h => ?_) (fun h => ?_)
    all_goals (try (refine gq10 h ?_; try with_reducible exact True.intro))
    · refine zbC.next hka ⟨?_, rfl, take_succ_eq hx hy htk (by simpa using h)⟩
      rw [zam (by omega) (by omega)]; rfl
    · refine zdv hl ?_
      have : (a == b) = false := by
        rw [beq_eq_false_iff_ne]
        rintro rfl
        simp at h
      rw [this] at hK; exact hK
  · refine zdv hl ?_
    have : (a == b) = true := by
      rw [beq_iff_eq]
      exact take_eq_of hl2 (k := k) (by simp at h; omega) htk
    rw [this] at hK; exact hK
theorem c_Same {σ : List zc} {a b : TOp} (ha : a.recs.length ≤ 1073741824) (hb : b.recs.length ≤ 1073741824) {K : KT} (hK : K (.d (.bool (decide (a = b)))) σ) : zn Tryz.prog zna [opA a, opA b] σ K := by
  refine znT e_op_Same fun hl => ?_
  simp only [S_op_Same, iN, bT, bF, eN, opA]
  repeat' first
    | (refine gq7 ?_; try with_reducible exact True.intro)
    | (refine zM (fun h => ?_) (fun h => ?_) <;> (try rw [h]))
    | refine zkX ha hb ?_
  all_goals refine zdv hl ?_
  all_goals simp only [beq_iff_eq, beq_eq_false_iff_ne, ne_eq] at *
  · have e : decide (a = b) = (a.recs == b.recs) := by
      rw [Bool.eq_iff_iff]
      cases a; cases b
      simp_all
    rw [e] at hK; exact hK
  all_goals
    have e : decide (a = b) = false := by
      cases a; cases b
      simp_all
    rw [e] at hK; exact hK

theorem c_Runes {σ : List zc} {s : List UInt8} (hs : s.length ≤ 1073741824) {K : KT} (hK : K (.d (.int .i64 (zfb s))) σ) : zn Tryz.prog zlq [.d (.str s)] σ K := by
  refine zmx e_op_Runes fun hl => ?_
  simp only [zoG, iN, bT, bF, eN, zav]
  refine zF s.length (fun pos vs s' => ∃ cnt : Nat, vs = [.d (.int .i64 cnt)] ∧ s' = σ ++ [.iter s pos] ∧ pos ≤ s.length ∧ cnt ≤ pos ∧ zcF (s.length + 1) s = (zcF (s.length + 1) (s.drop pos)).map (· + cnt)) ⟨0, rfl, rfl, by omega, by omega, by simp⟩ ?_
  rintro pos vs s' hp ⟨cnt, rfl, rfl, hps, hc, hr⟩
  simp only [zx, zkE, zj, List.getElem?_cons_zero]
  split
  · rename_i hlt
    have hd : s.drop pos ≠ [] := by intro e; have := congrArg List.length e; simp at this; omega
    have hw := goDec_width _ hd
    have hw2 := zhh (s.drop pos)
    simp only [decode_eq s pos hlt]
    have hcount : zcF (s.length + 1) (s.drop pos) = if (zgU (s.drop pos)).2 = 0 ∨ badF (zgU (s.drop pos)).1 = true then none else (zcF s.length ((s.drop pos).drop (zgU (s.drop pos)).2)).map (· + 1) := by
      rw [zcF, if_neg hd]
    (repeat' (first | (refine gq7 ?_; try with_reducible exact True.intro) | (refine zM (fun h => ?_) (fun h => ?_) <;> (try rw [h])) | ((with_reducible refine And.intro ?_ ?_); focus (first | omega | rfl | decide))))
    all_goals first
      | (refine zdv hl ?_
         have hb : badF (zkI (s.drop pos)).1 = true := by
           simp only [badF]
           (try simp only [decide_eq_true_eq, decide_eq_false_iff_not, beq_iff_eq, beq_eq_false_iff_ne, bne_iff_ne, ne_eq, Bool.not_eq_true', Bool.not_eq_false', bne_eq_false_iff_eq] at *)
           omega
         rw [goDec_bad] at hb
         have : zcF (s.length + 1) (s.drop pos) = none := by rw [hcount, if_pos (by simpa using hb)]
         have h0 : zfb s = 0 := by simp [zfb, hr, this]
         rw [h0] at hK; exact hK)
      | skip
    all_goals
      have hb : badF (zkI (s.drop pos)).1 = false := by
        simp only [badF]
        (try simp only [decide_eq_true_eq, decide_eq_false_iff_not, beq_iff_eq, beq_eq_false_iff_ne, bne_iff_ne, ne_eq, Bool.not_eq_true', Bool.not_eq_false', bne_eq_false_iff_eq] at *)
        omega
      obtain ⟨g1, g2, g3⟩ := goDec_good hb
      rw [zam (by omega) (by omega)]
      refine zbC.to (pos + (zkI (s.drop pos)).2) (by omega) (by simp at hw; omega) ⟨cnt + 1, rfl, rfl, by simp at hw; omega, by omega, ?_⟩
      rw [hr, hcount, if_neg (by simp [g2, g3]), g1, List.drop_drop, zkd s.length (s.length + 1) _ (by simp at *; omega) (by simp; omega)]
      cases zcF (s.length + 1) (List.drop (pos + (zgU (s.drop pos)).2) s) <;> simp
      omega
  · rename_i hlt
    have e : s.drop pos = [] := List.drop_eq_nil_of_le (by omega)
    have hcnt : zcF (s.length + 1) s = some cnt := by rw [hr, e]; simp [zcF]
    (refine gq11 ?_; try with_reducible exact True.intro)
    refine zM (fun h => ?_) (fun h => ?_)
    all_goals (try (refine gq10 h ?_; try with_reducible exact True.intro))
    · refine zdv hl ?_
      have h0 : zfb s = 0 := by simp [zfb, hcnt]; simp at h; omega
      rw [h0] at hK; exact hK
    · refine zdv hl ?_
      have h0 : zfb s = cnt := by simp [zfb, hcnt]; simp at h; omega
      rw [h0] at hK; exact hK
theorem gq14 {P Q : Prop} (h : Q) (e : P = Q := by simp -dsimp only [↓zhB, ↓zbf, ↓zcv, ↓zhC, ↓zhx, ↓zhv, ↓zhy, ↓zhw, ↓zcA, ↓zcw, ↓zcB, ↓zcx, ↓zhz, ↓zcu, ↓zcC, ↓zcy, ↓zcD, ↓zcz, ↓zhu, ↓zhA, ↓zct, ↓zcE, ↓zhs, ↓zhr, ↓zht, iN, bT, bF, eN, ↓zea, ↓unC, ↓zad, ↓zN, ↓zO, ↓zU, ↓zaw, ↓zbe, ↓zdk, ↓zaa, ↓zcX, ↓zai, ↓zk, ↓zi, ↓zbE, ↓zh, ↓zar, ↓zC, ↓zbb, ↓zbp, ↓ze, ↓zy, ↓zq, ↓zr, ↓zaA, ↓zeC, ↓zeS, ↓zaI, ↓zaT, ↓zbd, ↓zbF, ↓zbU, ↓zx, ↓zav, ↓zL, ↓zA, ↓zau, zeH, zcn, zcf, unA, zeV, bnd, zfP, zah, zX, zft, dm, dm1, zp, zaG, zgx, zgw, zS, Q0, Q1, Q2, Q3, Q4, Q5, zap, zE, zj, zat, zP, Q6, Q7, Q8, Q9, Q10, Q11, Q12, Q13, Q14, Nat.reduceAdd, Q15, Int.reduceToNat, Q16, Q17, Q18, Q19, Q20, reduceIte, Q21, Q22, S_op_Name, zo]; rfl) : P := e.mpr h
theorem c_Name {σ : List zc} {s : List UInt8} (hs : s.length ≤ 1073741824) {K : KT} (hK : K (.d (.bool (zaZ s))) σ) : zn Tryz.prog zit [.d (.str s)] σ K := by
  refine zmx e_op_Name fun hl => ?_
  (refine gq14 ?_; try with_reducible exact True.intro)
  refine c_Runes hs ?_
  (refine gq11 ?_; try with_reducible exact True.intro)
  refine zdv hl ?_
  have : decide ((zfb s : Int) > 0) = zaZ s := by simp [zaZ]
  rw [this]; exact hK

theorem c_rsize {σ : List zc} {c : Nat} {K : KT} (hK : K (.d (.int .i64 (zid c))) σ) : zn Tryz.prog zlo [.d (.int .u8 c)] σ K := by
  refine zmx e_r06_size fun hl => ?_
  simp only [zoD, iN, bT, bF, eN]
  (repeat' (first | (refine gq7 ?_; try with_reducible exact True.intro) | (refine zM (fun h => ?_) (fun h => ?_) <;> (try rw [h])) | ((with_reducible refine And.intro ?_ ?_); focus (first | omega | rfl | decide))))
  all_goals refine zdv hl ?_
  all_goals (try simp only [decide_eq_true_eq, decide_eq_false_iff_not, beq_iff_eq, beq_eq_false_iff_ne, bne_iff_ne, ne_eq, Bool.not_eq_true', Bool.not_eq_false', bne_eq_false_iff_eq] at *)
  all_goals
    simp only [zcJ, dmT, dm, dm1]
    have e : ∀ z : Nat, zid c = z → K (.d (.int .i64 z)) σ := fun z hz => by rw [← hz]; exact hK
    first
    | exact e 0 (by unfold zid; rw [if_neg (by omega), if_neg (by omega), if_neg (by omega), if_neg (by omega)])
    | exact e 1 (by unfold zid; rw [if_pos (by omega)])
    | exact e 2 (by unfold zid; rw [if_neg (by omega), if_pos (by omega)])
    | exact e 3 (by unfold zid; rw [if_neg (by omega), if_neg (by omega), if_pos (by omega)])
    | exact e 4 (by unfold zid; rw [if_neg (by omega), if_neg (by omega), if_neg (by omega), if_pos (by omega)])

theorem mask_eq (z : Nat) (hz : z = 2 ∨ z = 3 ∨ z = 4) (b : Nat) (hb : b < 256) :
    IntKind.i64.wrap ↑(BitVec.ofInt IntKind.i64.bits (b : Int) &&& BitVec.ofInt IntKind.i64.bits (IntKind.i64.wrap (IntKind.i64.wrap (1 * 2 ^ (min (IntKind.i64.wrap (7 - (z : Int))).toNat IntKind.i64.bits)) - 1))).toNat = ((b % 2 ^ (7 - z) : Nat) : Int) := by
  have h0 : (BitVec.ofInt 64 (b : Int)).toNat = b := by simp; omega
  have key : ∀ m : Nat, (m = 3 ∨ m = 4 ∨ m = 5) → IntKind.i64.wrap ↑(BitVec.ofInt 64 (b : Int) &&& BitVec.ofInt 64 ((2 : Int) ^ m - 1)).toNat = ((b % 2 ^ m : Nat) : Int) := fun m hm => by
    have : (BitVec.ofInt 64 (b : Int) &&& BitVec.ofInt 64 ((2 : Int) ^ m - 1)).toNat = b % 2 ^ m := by
      rw [BitVec.toNat_and, h0]
      rcases hm with rfl | rfl | rfl
      · exact Nat.and_two_pow_sub_one_eq_mod b 3
      · exact Nat.and_two_pow_sub_one_eq_mod b 4
      · exact Nat.and_two_pow_sub_one_eq_mod b 5
    rw [this]
    have : b % 2 ^ m < 256 := Nat.lt_of_le_of_lt (Nat.mod_le _ _) hb
    exact zam (by omega) (by omega)
  rcases hz with rfl | rfl | rfl
  · exact key 5 (by omega)
  · exact key 4 (by omega)
  · exact key 3 (by omega)

theorem partF_lt (s : List UInt8) (z : Nat) (hz : 2 ≤ z) : ∀ i, zeO s z i < 32 * 64 ^ i
  | 0 => by
    simp only [zeO]
    have : 2 ^ (7 - z) ≤ 2 ^ 5 := Nat.pow_le_pow_right (by omega) (by omega)
    have := Nat.mod_lt (at8 s 0) (y := 2 ^ (7 - z)) (Nat.pos_of_ne_zero (by simp))
    omega
  | i + 1 => by
    simp only [zeO, Nat.pow_succ]
    have := partF_lt s z hz i
    omega

theorem at8_some {s : List UInt8} {i : Nat} (h : i < s.length) : s[i]? = some s[i] ∧ (s[i].toNat : Int) = (at8 s i : Int) := by
  have : s[i]? = some s[i] := List.getElem?_eq_getElem h
  exact ⟨this, by simp [at8, this]⟩

theorem gq15 {A P Q : Prop} (a : A) (h : Q) (e : A → P = Q := by intro a; simp -dsimp only [↓zhB, ↓zbf, ↓zcv, ↓zhC, ↓zhx, ↓zhv, ↓zhy, ↓zhw, ↓zcA, ↓zcw, ↓zcB, ↓zcx, ↓zhz, ↓zcu, ↓zcC, ↓zcy, ↓zcD, ↓zcz, ↓zhu, ↓zhA, ↓zct, ↓zcE, ↓zhs, ↓zhr, ↓zht, iN, bT, bF, eN, ↓zea, ↓unC, ↓zad, ↓zN, ↓zO, ↓zU, ↓zaw, ↓zbe, ↓zdk, ↓zaa, ↓zcX, ↓zai, ↓zk, ↓zi, ↓zbE, ↓zh, ↓zar, ↓zC, ↓zbb, ↓zbp, ↓ze, ↓zy, ↓zq, ↓zr, ↓zaA, ↓zeC, ↓zeS, ↓zaI, ↓zaT, ↓zbd, ↓zbF, ↓zbU, ↓zx, ↓zav, ↓zL, ↓zA, ↓zau, zeH, zcn, zcf, unA, zeV, bnd, zfP, zah, zX, zft, dm, dm1, zp, zaG, zgx, zgw, zS, Q0, Q1, Q2, Q3, Q4, Q5, zap, zE, zj, zat, zP, Q6, Q7, Q8, Q9, Q10, Q11, Q12, Q13, Q14, Nat.reduceAdd, Q15, Int.reduceToNat, Q16, Q17, Q18, Q19, Q20, reduceIte, Q21, Q22, znH, zo, a]; rfl) : P := (e a).mpr h
theorem gq16 {A P Q : Prop} (a : A) (h : Q) (e : A → P = Q := by intro a; simp -dsimp only [↓zhB, ↓zbf, ↓zcv, ↓zhC, ↓zhx, ↓zhv, ↓zhy, ↓zhw, ↓zcA, ↓zcw, ↓zcB, ↓zcx, ↓zhz, ↓zcu, ↓zcC, ↓zcy, ↓zcD, ↓zcz, ↓zhu, ↓zhA, ↓zct, ↓zcE, ↓zhs, ↓zhr, ↓zht, iN, bT, bF, eN, ↓zea, ↓unC, ↓zad, ↓zN, ↓zO, ↓zU, ↓zaw, ↓zbe, ↓zdk, ↓zaa, ↓zcX, ↓zai, ↓zk, ↓zi, ↓zbE, ↓zh, ↓zar, ↓zC, ↓zbb, ↓zbp, ↓ze, ↓zy, ↓zq, ↓zr, ↓zaA, ↓zeC, ↓zeS, ↓zaI, ↓zaT, ↓zbd, ↓zbF, ↓zbU, ↓zx, ↓zav, ↓zL, ↓zA, ↓zau, zeH, zcn, zcf, unA, zeV, bnd, zfP, zah, zX, zft, dm, dm1, zp, zaG, zgx, zgw, zS, Q0, Q1, Q2, Q3, Q4, Q5, zap, zE, zj, zat, zP, Q6, Q7, Q8, Q9, Q10, Q11, Q12, Q13, Q14, Nat.reduceAdd, Q15, Int.reduceToNat, Q16, Q17, Q18, Q19, Q20, reduceIte, Q21, Q22, zo, rep, zab, zgT, toD, zao, Q23, Q24, Q25, Q26, Q27, Q28, Nat.reduceLeDiff, Q29, Nat.reduceSub, Q30, Q31, Q32, sc, Q33, Q34, Q35, a]; rfl) : P := (e a).mpr h
theorem c_rune1 {σ : List zc} {s : List UInt8} (hs : s.length ≤ 1073741824) (hne : s ≠ []) {K : KT} (hK : K (.tup [.d (.int .i64 (zgU s).1), .d (.int .i64 (zgU s).2)]) σ) : zn Tryz.prog zjM [.d (.str s)] σ K := by
  refine zmx e_r06_rune1 fun hl => ?_
  have hpos : 0 < s.length := List.length_pos_iff.2 hne
  obtain ⟨g1, g2⟩ := at8_some hpos
  have hb0 := znC s 0
  (refine gq15 (zb g1 g2) ?_; try with_reducible exact True.intro)
  refine ⟨by omega, c_rsize ?_⟩
  have hz4 : zid (at8 s 0) = 0 ∨ zid (at8 s 0) = 1 ∨ zid (at8 s 0) = 2 ∨ zid (at8 s 0) = 3 ∨ zid (at8 s 0) = 4 := by
    unfold zid; split <;> (try split) <;> (try split) <;> (try split) <;> omega
  obtain ⟨z, hz⟩ : ∃ z, z = zid (at8 s 0) := ⟨_, rfl⟩
  rw [← hz] at hz4 ⊢
  have bad : z = 0 ∨ z > s.length → K (.tup [.d (.int .i64 0), .d (.int .i64 0)]) σ := fun h => by
    have : zgU s = (0, 0) := by simp only [zgU, ← hz]; rw [if_pos h]
    rw [this] at hK; exact hK
  (refine gq11 ?_; try with_reducible exact True.intro)
  refine zM (fun h => ?_) (fun h => ?_)
  all_goals (try (refine gq10 (zb h (zb g1 g2)) ?_; try with_reducible exact True.intro))
  · refine zdv hl ?_
    exact bad (.inl (by (try simp only [decide_eq_true_eq, decide_eq_false_iff_not, beq_iff_eq, beq_eq_false_iff_ne, bne_iff_ne, ne_eq, Bool.not_eq_true', Bool.not_eq_false', bne_eq_false_iff_eq] at *); omega))
  have hz0 : z ≠ 0 := by (try simp only [decide_eq_true_eq, decide_eq_false_iff_not, beq_iff_eq, beq_eq_false_iff_ne, bne_iff_ne, ne_eq, Bool.not_eq_true', Bool.not_eq_false', bne_eq_false_iff_eq] at *); omega
  refine zM (fun h => ?_) (fun h => ?_)
  all_goals (try (refine gq10 (zb h (zb g1 g2)) ?_; try with_reducible exact True.intro))
  · refine zdv hl ?_
    exact bad (.inr (by (try simp only [decide_eq_true_eq, decide_eq_false_iff_not, beq_iff_eq, beq_eq_false_iff_ne, bne_iff_ne, ne_eq, Bool.not_eq_true', Bool.not_eq_false', bne_eq_false_iff_eq] at *); omega))
  have hzl : z ≤ s.length := by (try simp only [decide_eq_true_eq, decide_eq_false_iff_not, beq_iff_eq, beq_eq_false_iff_ne, bne_iff_ne, ne_eq, Bool.not_eq_true', Bool.not_eq_false', bne_eq_false_iff_eq] at *); omega
  have hnb : ¬ (z = 0 ∨ z > s.length) := by omega
  refine zM (fun h => ?_) (fun h => ?_)
  all_goals (try (refine gq10 (zb h (zb g1 g2)) ?_; try with_reducible exact True.intro))
  · have h1 : z = 1 := by (try simp only [decide_eq_true_eq, decide_eq_false_iff_not, beq_iff_eq, beq_eq_false_iff_ne, bne_iff_ne, ne_eq, Bool.not_eq_true', Bool.not_eq_false', bne_eq_false_iff_eq] at *); omega
    refine ⟨by omega, ?_⟩
    refine zdv hl ?_
    have : zgU s = (at8 s 0, 1) := by simp only [zgU, ← hz]; rw [if_neg hnb, if_pos h1]
    rw [this] at hK
    simp only [zcJ, dmT, dm, dm1, List.map_cons, List.map_nil]
    rw [zam (by omega) (by omega)]
    exact hK
  have hz2 : z = 2 ∨ z = 3 ∨ z = 4 := by (try simp only [decide_eq_true_eq, decide_eq_false_iff_not, beq_iff_eq, beq_eq_false_iff_ne, bne_iff_ne, ne_eq, Bool.not_eq_true', Bool.not_eq_false', bne_eq_false_iff_eq] at *); omega
  have h1 : ¬ z = 1 := by omega
  refine ⟨by omega, ?_⟩
  have hw : IntKind.i64.wrap (at8 s 0 : Int) = (at8 s 0 : Int) := zam (by omega) (by omega)
  have hsh : (0 : Int) ≤ IntKind.i64.wrap (7 - (z : Int)) := by rw [zam (by omega) (by omega)]; omega
  refine ⟨hsh, ?_⟩
  rw [hw, mask_eq z hz2 _ hb0]
  refine zF z (fun k vs s' => s' = σ ∧ k + 1 ≤ z ∧ vs = [.d (.int .i64 (zeO s z k)), .d (.int .i64 (k + 1 : Nat))] ∧ ∀ i, i < k + 1 → 1 ≤ i → zlI s i = true) ⟨rfl, by omega, rfl, fun i h1 h2 => by omega⟩ ?_
  rintro k vs s' hk ⟨rfl, hk1, rfl, hcont⟩
  have hpl := partF_lt s z (by omega) k
  have hpow : 64 ^ k ≤ 64 ^ 3 := Nat.pow_le_pow_right (by omega) (by omega)
  (refine gq11 ?_; try with_reducible exact True.intro)
  have fail : (¬ ∀ i, i < z → 1 ≤ i → zlI s i = true) → K (.tup [.d (.int .i64 0), .d (.int .i64 0)]) s' := fun h => by
    have : zgU s = (0, 0) := by simp only [zgU, ← hz]; rw [if_neg hnb, if_neg h1, if_neg h]
    rw [this] at hK; exact hK
  refine zM (fun h => ?_) (fun h => ?_)
  · have hkz : k + 1 < z := by (try simp only [decide_eq_true_eq, decide_eq_false_iff_not, beq_iff_eq, beq_eq_false_iff_ne, bne_iff_ne, ne_eq, Bool.not_eq_true', Bool.not_eq_false', bne_eq_false_iff_eq] at *); omega
    obtain ⟨f1, f2⟩ := at8_some (s := s) (i := k + 1) (by omega)
    have hb := znC s (k + 1)
    repeat' first
      | (refine gq16 (zb f1 f2) ?_; try with_reducible exact True.intro)
      | (refine zM (fun h => ?_) (fun h => ?_) <;> (try rw [h]))
      | ((with_reducible refine And.intro ?_ ?_); focus (first | omega | rfl | decide))
    · refine zdv hl ?_
      exact fail fun h' => by
        have := h' (k + 1) hkz (by omega)
        simp only [zlI] at this
        (try simp only [decide_eq_true_eq, decide_eq_false_iff_not, beq_iff_eq, beq_eq_false_iff_ne, bne_iff_ne, ne_eq, Bool.not_eq_true', Bool.not_eq_false', bne_eq_false_iff_eq] at *); omega
    · refine zdv hl ?_
      exact fail fun h' => by
        have := h' (k + 1) hkz (by omega)
        simp only [zlI] at this
        (try simp only [decide_eq_true_eq, decide_eq_false_iff_not, beq_iff_eq, beq_eq_false_iff_ne, bne_iff_ne, ne_eq, Bool.not_eq_true', Bool.not_eq_false', bne_eq_false_iff_eq] at *); omega
    have hv : IntKind.i64.wrap (IntKind.i64.wrap (↑(zeO s z k) * 64) + (IntKind.i64.wrap ↑(at8 s (k + 1))).tmod 64) = ((zeO s z (k + 1) : Nat) : Int) := by
      have hp2 : zeO s z k < 32 * 64 ^ 3 := by omega
      have e1 : IntKind.i64.wrap ((zeO s z k : Int) * 64) = (zeO s z k : Int) * 64 := zam (by omega) (by omega)
      have e2 : IntKind.i64.wrap (at8 s (k + 1) : Int) = (at8 s (k + 1) : Int) := zam (by omega) (by omega)
      have e3 : ((at8 s (k + 1) : Int)).tmod 64 = ((at8 s (k + 1) % 64 : Nat) : Int) := by rw [Int.tmod_eq_emod_of_nonneg (by omega)]; rfl
      rw [e1, e2, e3, zam (by omega) (by omega)]
      simp only [zeO]
      omega
    have hw2 : IntKind.i64.wrap (((k + 1 : Nat) : Int) + 1) = ((k + 1 + 1 : Nat) : Int) := by rw [zam (by omega) (by omega)]; rfl
    rw [hv, hw2]
    refine zbC.next (by omega) ⟨rfl, by omega, rfl, fun i hi1 hi2 => ?_⟩
    by_cases hi : i < k + 1
    · exact hcont i hi hi2
    · obtain rfl : i = k + 1 := by omega
      simp only [zlI]
      (try simp only [decide_eq_true_eq, decide_eq_false_iff_not, beq_iff_eq, beq_eq_false_iff_ne, bne_iff_ne, ne_eq, Bool.not_eq_true', Bool.not_eq_false', bne_eq_false_iff_eq] at *); omega
  · have hkz : k + 1 = z := by (try simp only [decide_eq_true_eq, decide_eq_false_iff_not, beq_iff_eq, beq_eq_false_iff_ne, bne_iff_ne, ne_eq, Bool.not_eq_true', Bool.not_eq_false', bne_eq_false_iff_eq] at *); omega
    have hall : ∀ i, i < z → 1 ≤ i → zlI s i = true := by rw [← hkz]; exact hcont
    have hdec : zgU s = if zeO s z k < zdW z ∨ zeO s z k > 1114111 ∨ (55296 ≤ zeO s z k ∧ zeO s z k < 57344) then (0, 0) else (zeO s z k, z) := by
      have e : z - 1 = k := by omega
      simp only [zgU, ← hz]
      rw [if_neg hnb, if_neg h1, if_pos hall, e]
    have hget : ∃ l : Nat, l = zdW z ∧ ([[D.int .i64 0], [D.int .i64 0], [D.int .i64 128], [D.int .i64 2048], [D.int .i64 65536]] : List (List D))[z]? = some [D.int .i64 l] := by
      rcases hz2 with rfl | rfl | rfl <;> exact ⟨_, rfl, rfl⟩
    obtain ⟨l, hl1, hl2⟩ := hget
    rw [← hl1] at hdec
    repeat' first
      | (refine gq16 hl2 ?_; try with_reducible exact True.intro)
      | (refine zM (fun h => ?_) (fun h => ?_) <;> (try rw [h]))
      | ((with_reducible refine And.intro ?_ ?_); focus (first | omega | rfl | decide))
    all_goals refine zdv hl ?_
    all_goals (try simp only [decide_eq_true_eq, decide_eq_false_iff_not, beq_iff_eq, beq_eq_false_iff_ne, bne_iff_ne, ne_eq, Bool.not_eq_true', Bool.not_eq_false', bne_eq_false_iff_eq] at *)
    all_goals simp only [zcJ, dmT, dm, dm1, List.map_cons, List.map_nil]
    all_goals first
      | (rw [if_pos (by omega)] at hdec; rw [hdec] at hK; exact hK)
      | (rw [if_neg (by omega)] at hdec; rw [hdec] at hK; exact hK)

theorem badF_ref (v : Nat) : badF v = decide (v < 33 ∨ 127 ≤ v ∧ v < 160 ∨ v = 47 ∨ v = 65533) := by
  simp only [badF]; congr 1; apply propext; omega
theorem c_rRunes {σ : List zc} {s : List UInt8} (hs : s.length ≤ 1073741824) {K : KT} (hK : K (.d (.int .i64 (zfb s))) σ) : zn Tryz.prog zjN [.d (.str s)] σ K := by
  refine zmx e_r06_Runes fun hl => ?_
  simp only [znI, iN, bT, bF, eN]
  refine zF s.length (fun pos vs s' => ∃ (cnt : Nat) (t : List UInt8), t.length + pos = s.length ∧ vs = [.d (.str t), .d (.int .i64 cnt)] ∧ s' = σ ∧ cnt ≤ pos ∧ cnt ≤ 16 ∧ zcF (s.length + 1) s = (zcF (s.length + 1) t).map (· + cnt)) ⟨0, s, rfl, rfl, rfl, by omega, by omega, by simp⟩ ?_
  rintro pos vs s' hp ⟨cnt, t, hlen, rfl, rfl, hc, hc16, hr⟩
  (refine gq11 ?_; try with_reducible exact True.intro)
  refine zM (fun h => ?_) (fun h => ?_)
  · have ht : t ≠ [] := by rintro rfl; simp at h
    have htl : 0 < t.length := List.length_pos_iff.2 ht
    have hw2 := zhh t
    have hcount : zcF (s.length + 1) t = if (zgU t).2 = 0 ∨ badF (zgU t).1 = true then none else (zcF s.length (t.drop (zgU t).2)).map (· + 1) := by
      rw [zcF, if_neg ht]
    refine c_rune1 (by omega) ht ?_
    have stop : (zgU t).2 = 0 ∨ badF (zgU t).1 = true ∨ cnt = 16 → K (.d (.int .i64 0)) s' := fun hb => by
      have h0 : zfb s = 0 := by
        by_cases hq : (zgU t).2 = 0 ∨ badF (zgU t).1 = true
        · simp [zfb, hr, hcount, if_pos hq]
        · have hcn : cnt = 16 := by
            rcases hb with hb | hb | hb
            · exact absurd (.inl hb) hq
            · exact absurd (.inr hb) hq
            · exact hb
          simp only [zfb, hr, hcount, if_neg hq]
          cases zcF s.length (t.drop (zgU t).2) with
          | none => simp
          | some m => simp; omega
      rw [h0] at hK; exact hK
    (repeat' (first | (refine gq7 ?_; try with_reducible exact True.intro) | (refine zM (fun h => ?_) (fun h => ?_) <;> (try rw [h])) | ((with_reducible refine And.intro ?_ ?_); focus (first | omega | rfl | decide))))
    all_goals first
      | (refine zdv hl ?_
         refine stop ?_
         rw [badF_ref, decide_eq_true_eq]
         (try simp only [decide_eq_true_eq, decide_eq_false_iff_not, beq_iff_eq, beq_eq_false_iff_ne, bne_iff_ne, ne_eq, Bool.not_eq_true', Bool.not_eq_false', bne_eq_false_iff_eq] at *)
         omega)
      | skip
    all_goals
      have hb : badF (zgU t).1 = false := by
        rw [badF_ref, decide_eq_false_iff_not]
        (try simp only [decide_eq_true_eq, decide_eq_false_iff_not, beq_iff_eq, beq_eq_false_iff_ne, bne_iff_ne, ne_eq, Bool.not_eq_true', Bool.not_eq_false', bne_eq_false_iff_eq] at *)
        omega
      have h2 : (zgU t).2 ≠ 0 := by (try simp only [decide_eq_true_eq, decide_eq_false_iff_not, beq_iff_eq, beq_eq_false_iff_ne, bne_iff_ne, ne_eq, Bool.not_eq_true', Bool.not_eq_false', bne_eq_false_iff_eq] at *); omega
      have hcl : cnt < 16 := by (try simp only [decide_eq_true_eq, decide_eq_false_iff_not, beq_iff_eq, beq_eq_false_iff_ne, bne_iff_ne, ne_eq, Bool.not_eq_true', Bool.not_eq_false', bne_eq_false_iff_eq] at *); omega
      rw [zam (by omega) (by omega)]
      refine zbC.to (pos + (zgU t).2) (by omega) (by omega) ⟨cnt + 1, t.drop (zgU t).2, by simp; omega, ?_, rfl, by omega, by omega, ?_⟩
      · simp
      · rw [hr, hcount, if_neg (by simp [h2, hb]), zkd s.length (s.length + 1) _ (by simp; omega) (by simp; omega)]
        cases zcF (s.length + 1) (t.drop (zgU t).2) <;> simp
        omega
  · refine zdv hl ?_
    have ht : t = [] := by
      have : ¬ 0 < t.length := by (try simp only [decide_eq_true_eq, decide_eq_false_iff_not, beq_iff_eq, beq_eq_false_iff_ne, bne_iff_ne, ne_eq, Bool.not_eq_true', Bool.not_eq_false', bne_eq_false_iff_eq] at *); omega
      exact List.length_eq_zero_iff.1 (by omega)
    have h0 : zfb s = cnt := by
      simp only [zfb, hr, ht]
      simp [zcF]
      omega
    rw [h0] at hK; exact hK
theorem znA {σ : List zc} {s : List UInt8} (hs : s.length ≤ 1073741824) {K : KT} (hK : K (.d (.bool (zaZ s))) σ) : zn Tryz.prog zeR [.d (.str s)] σ K := by
  refine zmx e_r06_Name fun hl => ?_
  simp only [zoE, iN, bT, bF, eN]
  (refine gq11 ?_; try with_reducible exact True.intro)
  refine c_rRunes hs ?_
  (refine gq11 ?_; try with_reducible exact True.intro)
  refine zdv hl ?_
  have : decide ((zfb s : Int) > 0) = zaZ s := by simp [zaZ]
  rw [this]; exact hK

theorem c_Check_1 {σ : List zc} {r : List UInt8} {K : KT} (hK : K (.d (.bool (decide (r.length > 64)))) σ) : zn Tryz.prog zgD [.d (.slice (bcs r))] σ K := by
  refine zmx e_op_Check_1 fun hl => ?_
  simp only [zmm, iN, bT, bF, eN]
  (refine gq11 ?_; try with_reducible exact True.intro)
  refine zdv hl ?_
  have : decide (((bcs r).length : Int) > 64) = decide (r.length > 64) := by simp [bcs]; omega
  rw [this]; exact hK
theorem gq17 {P Q : Prop} (h : Q) (e : P = Q := by simp -dsimp only [↓zhB, ↓zbf, ↓zcv, ↓zhC, ↓zhx, ↓zhv, ↓zhy, ↓zhw, ↓zcA, ↓zcw, ↓zcB, ↓zcx, ↓zhz, ↓zcu, ↓zcC, ↓zcy, ↓zcD, ↓zcz, ↓zhu, ↓zhA, ↓zct, ↓zcE, ↓zhs, ↓zhr, ↓zht, iN, bT, bF, eN, ↓zea, ↓unC, ↓zad, ↓zN, ↓zO, ↓zU, ↓zaw, ↓zbe, ↓zdk, ↓zaa, ↓zcX, ↓zai, ↓zk, ↓zi, ↓zbE, ↓zh, ↓zar, ↓zC, ↓zbb, ↓zbp, ↓ze, ↓zy, ↓zq, ↓zr, ↓zaA, ↓zeC, ↓zeS, ↓zaI, ↓zaT, ↓zbd, ↓zbF, ↓zbU, ↓zx, ↓zav, ↓zL, ↓zA, ↓zau, zeH, zcn, zcf, unA, zeV, bnd, zfP, zah, zX, zft, dm, dm1, zp, zaG, zgx, zgw, zS, Q0, Q1, Q2, Q3, Q4, Q5, zap, zE, zj, zat, zP, Q6, Q7, Q8, Q9, Q10, Q11, Q12, Q13, Q14, Nat.reduceAdd, Q15, Int.reduceToNat, Q16, Q17, Q18, Q19, Q20, reduceIte, Q21, Q22, dmT, zcJ, zo]; rfl) : P := e.mpr h
theorem ziI {σ : List zc} {a : List (List UInt8)} (ha : a.length ≤ 1073741824) {K : KT} (hK : K (.d (.bool (a.any fun r => decide (r.length > 64)))) σ) :
    zn Tryz.prog zay [.d (.slice (zK a)), .fn (.func zgD) [] []] σ K := by
  refine znT zcQ fun hl => ?_
  simp only [zbi, iN, bT, bF, eN]
  (refine gq11 ?_; try with_reducible exact True.intro)
  refine znT zdj fun hl => ?_
  simp only [zbw, iN, bT, bF, eN]
  (refine gq11 ?_; try with_reducible exact True.intro)
  refine zF a.length (fun k vs s => vs = [.d (.int .i64 k)] ∧ s = σ ∧ ∀ r ∈ a.take k, ¬ r.length > 64) ⟨rfl, rfl, by simp⟩ ?_
  rintro k vs s hk ⟨rfl, rfl, htk⟩
  (refine gq11 ?_; try with_reducible exact True.intro)
  refine zM (fun h => ?_) (fun h => ?_)
  · have hka : k < a.length := by (try simp only [decide_eq_true_eq, decide_eq_false_iff_not, beq_iff_eq, beq_eq_false_iff_ne, bne_iff_ne, ne_eq, Bool.not_eq_true', Bool.not_eq_false', bne_eq_false_iff_eq] at *); omega
    have hx : a[k]? = some a[k] := by simp [hka]
    (refine gq10 (zgd hx) ?_; try with_reducible exact True.intro)
    refine And.intro (by omega) (c_Check_1 ?_)
    (refine gq11 ?_; try with_reducible exact True.intro)
    refine zM (fun h => ?_) (fun h => ?_)
    · refine zdv hl ?_
      (refine gq17 ?_; try with_reducible exact True.intro)
      refine zdv hl ?_
      have e1 : decide ((k : Int) ≥ 0) = true := by simp
      have e2 : (a.any fun r => decide (r.length > 64)) = true := by
        rw [List.any_eq_true]
        exact ⟨a[k], List.getElem_mem _, h⟩
      rw [e2] at hK
      simp only [zcJ, dmT, dm, dm1]
      rw [e1]; exact hK
    · (refine gq11 ?_; try with_reducible exact True.intro)
      refine zbC.next hka ⟨?_, rfl, fun r hr => ?_⟩
      · rw [zam (by omega) (by omega)]; rfl
      · rw [List.take_add_one, hx] at hr
        rcases List.mem_append.1 hr with hr | hr
        · exact htk r hr
        · have : r = a[k] := by simpa using hr
          subst this
          simpa using h
  · refine zdv hl ?_
    (refine gq17 ?_; try with_reducible exact True.intro)
    refine zdv hl ?_
    have e2 : (a.any fun r => decide (r.length > 64)) = false := by
      rw [List.any_eq_false]
      intro r hr
      have hk' : k = a.length := by (try simp only [decide_eq_true_eq, decide_eq_false_iff_not, beq_iff_eq, beq_eq_false_iff_ne, bne_iff_ne, ne_eq, Bool.not_eq_true', Bool.not_eq_false', bne_eq_false_iff_eq] at *); omega
      rw [hk', List.take_length] at htk
      simpa using htk r hr
    rw [e2] at hK
    exact hK
theorem gq18 {P Q : Prop} (h : Q) (e : P = Q := by simp -dsimp only [↓zhB, ↓zbf, ↓zcv, ↓zhC, ↓zhx, ↓zhv, ↓zhy, ↓zhw, ↓zcA, ↓zcw, ↓zcB, ↓zcx, ↓zhz, ↓zcu, ↓zcC, ↓zcy, ↓zcD, ↓zcz, ↓zhu, ↓zhA, ↓zct, ↓zcE, ↓zhs, ↓zhr, ↓zht, iN, bT, bF, eN, ↓zea, ↓unC, ↓zad, ↓zN, ↓zO, ↓zU, ↓zaw, ↓zbe, ↓zdk, ↓zaa, ↓zcX, ↓zai, ↓zk, ↓zi, ↓zbE, ↓zh, ↓zar, ↓zC, ↓zbb, ↓zbp, ↓ze, ↓zy, ↓zq, ↓zr, ↓zaA, ↓zeC, ↓zeS, ↓zaI, ↓zaT, ↓zbd, ↓zbF, ↓zbU, ↓zx, ↓zav, ↓zL, ↓zA, ↓zau, zeH, zcn, zcf, unA, zeV, bnd, zfP, zah, zX, zft, dm, dm1, zp, zaG, zgx, zgw, zS, Q0, Q1, Q2, Q3, Q4, Q5, zap, zE, zj, zat, zP, Q6, Q7, Q8, Q9, Q10, Q11, Q12, Q13, Q14, Nat.reduceAdd, Q15, Int.reduceToNat, Q16, Q17, Q18, Q19, Q20, reduceIte, Q21, Q22, zo, rep, zab, zgT, toD, zao, Q23, Q24, Q25, Q26, Q27, Q28, Nat.reduceLeDiff, Q29, Nat.reduceSub, Q30, Q31, Q32, sc, Q33, Q34, Q35, Bool.and_false, Bool.and_self, Bool.false_and, Bool.not_false, Bool.not_true, Bool.true_and, Int.toNat_natCast, Int.toNat_zero, List.drop_zero, List.length_map, List.length_nil, List.nil_append, List.take_length, Nat.sub_zero, Nat.zero_add, Option.isSome_none, Option.isSome_some, Option.map_none, Option.map_some, zbM, beq_self_eq_true, bne_self_eq_false, zdg, zcl, opA]; rfl) : P := e.mpr h
theorem c_Check {σ : List zc} {o : TOp} (ht : o.topic.length ≤ 1073741824) (hg : o.group.length ≤ 1073741824) (hr : o.recs.length ≤ 1073741824) {K : KT} (hK : K (.d (.int .i64 (zaD zaZ o))) σ) : zn Tryz.prog zlr [opA o] σ K := by
  refine zmx e_op_Check fun hl => ?_
  simp only [zoH, iN, bT, bF, eN, zl0, opA]
  (refine gq7 ?_; try with_reducible exact True.intro)
  refine c_only (o := o) ?_
  have honly : (onlyF o).recs.length ≤ 1073741824 := by unfold onlyF noOp; split <;> (try split) <;> (try split) <;> (try split) <;> simp <;> omega
  (refine gq18 ?_; try with_reducible exact True.intro)
  repeat' first
    | (refine gq7 ?_; try with_reducible exact True.intro)
    | refine c_Same (a := o) (b := onlyF o) hr honly ?_
    | refine c_Name ht ?_
    | refine c_Name hg ?_
    | refine ziI hr ?_
    | (refine zM (fun h => ?_) (fun h => ?_) <;> (try rw [h]))
    | ((with_reducible refine And.intro ?_ ?_); focus (first | omega | rfl | decide))
  all_goals refine zdv hl ?_
  all_goals (try simp only [decide_eq_true_eq, decide_eq_false_iff_not, beq_iff_eq, beq_eq_false_iff_ne, bne_iff_ne, ne_eq, Bool.not_eq_true', Bool.not_eq_false', bne_eq_false_iff_eq] at *)
  all_goals
    simp only [zcJ, dmT, dm, dm1]
    have e : ∀ z : Int, zaD zaZ o = z → K (.d (.int .i64 z)) σ := fun z hz => by rw [← hz]; exact hK
    clear hK
    apply e
    first
    | grind [zaD]
    | skip

def zkN (k : Int) : Bool := decide (1 ≤ k ∧ k ≤ 4)
def zno (k : Int) : Bool := decide (k = 3)
def fOff (k : Int) : Bool := decide (k = 3 ∨ k = 4)
def fRecs (k : Int) : Bool := decide (k = 2)
theorem c_fields {σ : List zc} {k : Int} {K : KT} (hK : K (.tup [.d (.bool (zkN k)), .d (.bool (zno k)), .d (.bool (fOff k)), .d (.bool (fRecs k))]) σ) : zn Tryz.prog zis [.d (.int .i64 k)] σ K := by
  refine zmx e_r06_fields fun hl => ?_
  simp only [zmk, iN, bT, bF, eN]
  (repeat' (first | (refine gq7 ?_; try with_reducible exact True.intro) | (refine zM (fun h => ?_) (fun h => ?_) <;> (try rw [h])) | ((with_reducible refine And.intro ?_ ?_); focus (first | omega | rfl | decide))))
  all_goals refine zdv hl ?_
  all_goals (try simp only [decide_eq_true_eq, decide_eq_false_iff_not, beq_iff_eq, beq_eq_false_iff_ne, bne_iff_ne, ne_eq, Bool.not_eq_true', Bool.not_eq_false', bne_eq_false_iff_eq] at *)
  all_goals
    simp only [zcJ, dmT, dm, dm1, List.map_cons, List.map_nil]
    have e : ∀ a b c d : Bool, zkN k = a → zno k = b → fOff k = c → fRecs k = d → K (.tup [.d (.bool a), .d (.bool b), .d (.bool c), .d (.bool d)]) σ := fun a b c d h1 h2 h3 h4 => by rw [← h1, ← h2, ← h3, ← h4]; exact hK
    clear hK
    apply e <;> simp [zkN, zno, fOff, fRecs] <;> omega
theorem onlyF_iff (o : TOp) : o = onlyF o ↔ (zkN o.kind = false → o.topic = []) ∧ (zno o.kind = false → o.group = []) ∧ (fOff o.kind = false → o.offset = 0) ∧ (fRecs o.kind = false → o.recs = []) := by
  obtain ⟨k, t, g, f, r⟩ := o
  simp only [onlyF, noOp, zkN, zno, fOff, fRecs, decide_eq_false_iff_not]
  by_cases h1 : k = 1
  · subst h1; simp
  by_cases h2 : k = 2
  · subst h2; simp
  by_cases h3 : k = 3
  · subst h3; simp
  by_cases h4 : k = 4
  · subst h4; simp
  · have : ¬ (1 ≤ k ∧ k ≤ 4) := by omega
    simp [h1, h2, h3, h4, this]
set_option maxHeartbeats 2000000 in
theorem c_rCheck {σ : List zc} {o : TOp} (ht : o.topic.length ≤ 1073741824) (hg : o.group.length ≤ 1073741824) (hr : o.recs.length ≤ 1073741824) {K : KT} (hK : K (.d (.int .i64 (zaD zaZ o))) σ) : zn Tryz.prog zjO [opA o] σ K := by
  refine zmx e_r06_Check fun hl => ?_
  simp only [znJ, iN, bT, bF, eN, opA]
  (refine gq7 ?_; try with_reducible exact True.intro)
  refine c_fields ?_
  have fin : ∀ z : Int, zaD zaZ o = z → K (.d (.int .i64 z)) σ := fun z hz => by rw [← hz]; exact hK
  have honly := onlyF_iff o
  have hkind : zkN o.kind = true → zeh o = true := by simp [zkN, zeh]; omega
  have hk1 : zkN o.kind = true ↔ (zeh o = true ∧ o.kind ≠ 0) := by simp [zkN, zeh]; omega
  have hk2 : zno o.kind = true ↔ o.kind = 3 := by simp [zno]
  have hk3 : fRecs o.kind = true ↔ o.kind = 2 := by simp [fRecs]
  have hk4 : zeh o = true ↔ (0 ≤ o.kind ∧ o.kind ≤ 4) := by simp [zeh]
  have hnil : o.recs = [] ↔ o.recs.length = 0 := List.length_eq_zero_iff.symm
  clear hK
  repeat' first
    | (refine gq7 ?_; try with_reducible exact True.intro)
    | refine znA ht ?_
    | refine znA hg ?_
    | (refine zM (fun h => ?_) (fun h => ?_) <;> (try rw [h]))
    | ((with_reducible refine And.intro ?_ ?_); focus (first | omega | rfl | decide))
  all_goals first
    | (refine zdv hl ?_
       (try simp only [decide_eq_true_eq, decide_eq_false_iff_not, beq_iff_eq, beq_eq_false_iff_ne, bne_iff_ne, ne_eq, Bool.not_eq_true', Bool.not_eq_false', bne_eq_false_iff_eq] at *)
       simp only [zcJ, dmT, dm, dm1]
       apply fin
       grind [zaD])
    | skip
  all_goals
    refine zF o.recs.length (fun k vs s => vs = [.d (.int .i64 k)] ∧ s = σ ++ [.box [.d (.int .i64 o.kind), .d (.str o.topic), .d (.str o.group), .d (.int .i64 o.offset), .d (.slice (zK o.recs))]] ∧ ∀ r ∈ o.recs.take k, ¬ r.length > 64) ⟨rfl, rfl, by simp⟩ ?_
    rintro k vs s hk ⟨rfl, rfl, htk⟩
    (refine gq11 ?_; try with_reducible exact True.intro)
    refine zM (fun h => ?_) (fun h => ?_)
    · have hka : k < o.recs.length := by (try simp only [decide_eq_true_eq, decide_eq_false_iff_not, beq_iff_eq, beq_eq_false_iff_ne, bne_iff_ne, ne_eq, Bool.not_eq_true', Bool.not_eq_false', bne_eq_false_iff_eq] at *); omega
      have hx : o.recs[k]? = some o.recs[k] := by simp [hka]
      have hmem : o.recs[k] ∈ o.recs := List.getElem_mem _
      have hbl : (bcs o.recs[k]).length = o.recs[k].length := by simp [bcs]
      (refine gq10 (zgd hx) ?_; try with_reducible exact True.intro)
      refine And.intro (by omega) ?_
      refine zM (fun h => ?_) (fun h => ?_)
      · have hany : (o.recs.any fun r => decide (r.length > 64)) = true := by
          rw [List.any_eq_true]
          exact ⟨_, hmem, by (try simp only [decide_eq_true_eq, decide_eq_false_iff_not, beq_iff_eq, beq_eq_false_iff_ne, bne_iff_ne, ne_eq, Bool.not_eq_true', Bool.not_eq_false', bne_eq_false_iff_eq] at *); omega⟩
        refine zdv hl ?_
        (try simp only [decide_eq_true_eq, decide_eq_false_iff_not, beq_iff_eq, beq_eq_false_iff_ne, bne_iff_ne, ne_eq, Bool.not_eq_true', Bool.not_eq_false', bne_eq_false_iff_eq] at *)
        simp only [zcJ, dmT, dm, dm1]
        apply fin
        grind [zaD]
      · (refine gq11 ?_; try with_reducible exact True.intro)
        refine zbC.next hka ⟨?_, rfl, fun r hr => ?_⟩
        · rw [zam (by omega) (by omega)]; rfl
        · rw [List.take_add_one, hx] at hr
          rcases List.mem_append.1 hr with hr | hr
          · exact htk r hr
          · have : r = o.recs[k] := by simpa using hr
            subst this
            (try simp only [decide_eq_true_eq, decide_eq_false_iff_not, beq_iff_eq, beq_eq_false_iff_ne, bne_iff_ne, ne_eq, Bool.not_eq_true', Bool.not_eq_false', bne_eq_false_iff_eq] at *)
            omega
    · have hany : (o.recs.any fun r => decide (r.length > 64)) = false := by
        rw [List.any_eq_false]
        intro r hr
        have hk' : k = o.recs.length := by (try simp only [decide_eq_true_eq, decide_eq_false_iff_not, beq_iff_eq, beq_eq_false_iff_ne, bne_iff_ne, ne_eq, Bool.not_eq_true', Bool.not_eq_false', bne_eq_false_iff_eq] at *); omega
        rw [hk', List.take_length] at htk
        simpa using htk r hr
      clear htk
      (repeat' (first | (refine gq7 ?_; try with_reducible exact True.intro) | (refine zM (fun h => ?_) (fun h => ?_) <;> (try rw [h])) | ((with_reducible refine And.intro ?_ ?_); focus (first | omega | rfl | decide))))
      all_goals
        refine zdv hl ?_
        (try simp only [decide_eq_true_eq, decide_eq_false_iff_not, beq_iff_eq, beq_eq_false_iff_ne, bne_iff_ne, ne_eq, Bool.not_eq_true', Bool.not_eq_false', bne_eq_false_iff_eq] at *)
        simp only [zcJ, dmT, dm, dm1]
        apply fin
        grind [zaD]

end Go.Proofs.YtaocmalhjfakdaaGreat
