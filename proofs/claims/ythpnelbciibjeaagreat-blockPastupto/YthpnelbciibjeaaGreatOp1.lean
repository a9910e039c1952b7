/- Contracts of operations: which are the same. -/
import Derived.Test.YthpnelbciibjeaaGreatCodec1
import Derived.Test.YthpnelbciibjeaaGreatCl1
import Derived.Test.YthpnelbciibjeaaGreatSpUtf
set_option linter.all false
set_option maxRecDepth 100000
set_option linter.unusedSimpArgs false
namespace Go.Proofs.YthpnelbciibjeaaGreat
open Go.AW

theorem gq9 {P Q : Prop} (h : Q) (e : P = Q := by simp -dsimp only [↓zhH, ↓zbh, ↓zcI, ↓zhI, ↓zhD, ↓zhB, ↓zhE, ↓zhC, ↓zcN, ↓zcJ, ↓zcO, ↓zcK, ↓zhF, ↓zcH, ↓zcP, ↓zcL, ↓zcQ, ↓zcM, ↓zhA, ↓zhG, ↓zcG, ↓zcS, ↓zhy, ↓zhx, ↓zhz, iN, bT, bF, eN, ↓zei, ↓unC, ↓zal, ↓zZ, ↓zaa, ↓zah, ↓zaE, ↓zaO, ↓zdI, ↓zak, ↓zcu, ↓zaF, ↓zr, ↓zA, ↓zde, ↓zj, ↓zau, ↓zT, ↓zaW, ↓zbl, ↓zd, ↓zU, ↓zq, ↓zJ, ↓zaI, ↓zez, ↓zeX, ↓zaq, ↓zaS, ↓zaV, ↓zbA, ↓zbV, ↓zG, ↓zay, ↓zX, ↓zH, ↓zaC, zeY, zcw, zcg, unA, zfb, bnd, zfU, zan, zaG, zfT, dm, dm1, zC, zaT, zgx, zgw, zao, Q0, Q1, Q2, Q3, Q4, Q5, zaB, zP, zp, zas, zac, Q6, Q7, Q8, Q9, Q10, Q11, Q12, Q13, Q14, Nat.reduceAdd, Q15, Int.reduceToNat, Q16, Q17, Q18, Q19, Q20, reduceIte, Q21, Q22, zE, rep, zag, zgP, toD, zap, Q23, Q24, Q25, Q26, Q27, Q28, Nat.reduceLeDiff, Q29, Nat.reduceSub, Q30, Q31, Q32, sc, Q33, Q34, Q35]; rfl) : P := e.mpr h
theorem c_only {σ : List zc} {o : TOp} {K : AV → List zc → Prop} (hK : K (.tup [opA (znQ o), .d (.bool (zdv o))]) σ) : zt Tryz.prog zmO [opA o] σ K := by
  refine zhl e_op_only fun hl => ?_
  simp only [S_op_only, iN, bT, bF, eN, zl1, opA]
  (repeat' (first | (refine gq9 ?_; try with_reducible exact True.intro) | (refine zO (fun h => ?_) (fun h => ?_) <;> (try rw [h])) | ((with_reducible refine And.intro ?_ ?_); focus (first | omega | rfl | decide))))

  all_goals refine zbj hl ?_
  all_goals simp only [beq_iff_eq, beq_eq_false_iff_ne, ne_eq] at *
  all_goals simp_all [zcE, dmT, dm, dm1, znQ, noOp, opA, zdv, zby]
  have e : (decide (0 ≤ o.kind) && decide (o.kind ≤ 4)) = false := by simp; omega
  rw [e] at hK
  exact hK
theorem gq10 {P Q : Prop} (h : Q) (e : P = Q := by simp -dsimp only [↓zhH, ↓zbh, ↓zcI, ↓zhI, ↓zhD, ↓zhB, ↓zhE, ↓zhC, ↓zcN, ↓zcJ, ↓zcO, ↓zcK, ↓zhF, ↓zcH, ↓zcP, ↓zcL, ↓zcQ, ↓zcM, ↓zhA, ↓zhG, ↓zcG, ↓zcS, ↓zhy, ↓zhx, ↓zhz, iN, bT, bF, eN, ↓zei, ↓unC, ↓zal, ↓zZ, ↓zaa, ↓zah, ↓zaE, ↓zaO, ↓zdI, ↓zak, ↓zcu, ↓zaF, ↓zr, ↓zA, ↓zde, ↓zj, ↓zau, ↓zT, ↓zaW, ↓zbl, ↓zd, ↓zU, ↓zq, ↓zJ, ↓zaI, ↓zez, ↓zeX, ↓zaq, ↓zaS, ↓zaV, ↓zbA, ↓zbV, ↓zG, ↓zay, ↓zX, ↓zH, ↓zaC, zeY, zcw, zcg, unA, zfb, bnd, zfU, zan, zaG, zfT, dm, dm1, zC, zaT, zgx, zgw, zao, Q0, Q1, Q2, Q3, Q4, Q5, zaB, zP, zp, zas, zac, Q6, Q7, Q8, Q9, Q10, Q11, Q12, Q13, Q14, Nat.reduceAdd, Q15, Int.reduceToNat, Q16, Q17, Q18, Q19, Q20, reduceIte, Q21, Q22, znJ, zE]; rfl) : P := e.mpr h
theorem c_Same_1 {σ : List zc} {a b : List UInt8} {K : AV → List zc → Prop} (hK : K (.d (.bool (a == b))) σ) : zt Tryz.prog zgT [.d (.slice (bcs a)), .d (.slice (bcs b))] σ K := by
  refine zlO e_op_Same_1 fun hl => ?_
  (refine gq10 ?_; try with_reducible exact True.intro)
  refine zpS ?_
  refine zbj hl ?_
  exact hK
theorem zds {A B : Prop} (a : A) (b : B) : A ∧ B := ⟨a, b⟩
theorem gq11 {P Q : Prop} (h : Q) (e : P = Q := by simp -dsimp only [↓zhH, ↓zbh, ↓zcI, ↓zhI, ↓zhD, ↓zhB, ↓zhE, ↓zhC, ↓zcN, ↓zcJ, ↓zcO, ↓zcK, ↓zhF, ↓zcH, ↓zcP, ↓zcL, ↓zcQ, ↓zcM, ↓zhA, ↓zhG, ↓zcG, ↓zcS, ↓zhy, ↓zhx, ↓zhz, iN, bT, bF, eN, ↓zei, ↓unC, ↓zal, ↓zZ, ↓zaa, ↓zah, ↓zaE, ↓zaO, ↓zdI, ↓zak, ↓zcu, ↓zaF, ↓zr, ↓zA, ↓zde, ↓zj, ↓zau, ↓zT, ↓zaW, ↓zbl, ↓zd, ↓zU, ↓zq, ↓zJ, ↓zaI, ↓zez, ↓zeX, ↓zaq, ↓zaS, ↓zaV, ↓zbA, ↓zbV, ↓zG, ↓zay, ↓zX, ↓zH, ↓zaC, zeY, zcw, zcg, unA, zfb, bnd, zfU, zan, zaG, zfT, dm, dm1, zC, zaT, zgx, zgw, zao, Q0, Q1, Q2, Q3, Q4, Q5, zaB, zP, zp, zas, zac, Q6, Q7, Q8, Q9, Q10, Q11, Q12, Q13, Q14, Nat.reduceAdd, Q15, Int.reduceToNat, Q16, Q17, Q18, Q19, Q20, reduceIte, Q21, Q22, zaj, zE]; rfl) : P := e.mpr h
theorem gq12 {A P Q : Prop} (a : A) (h : Q) (e : A → P = Q := by intro a; simp -dsimp only [↓zhH, ↓zbh, ↓zcI, ↓zhI, ↓zhD, ↓zhB, ↓zhE, ↓zhC, ↓zcN, ↓zcJ, ↓zcO, ↓zcK, ↓zhF, ↓zcH, ↓zcP, ↓zcL, ↓zcQ, ↓zcM, ↓zhA, ↓zhG, ↓zcG, ↓zcS, ↓zhy, ↓zhx, ↓zhz, iN, bT, bF, eN, ↓zei, ↓unC, ↓zal, ↓zZ, ↓zaa, ↓zah, ↓zaE, ↓zaO, ↓zdI, ↓zak, ↓zcu, ↓zaF, ↓zr, ↓zA, ↓zde, ↓zj, ↓zau, ↓zT, ↓zaW, ↓zbl, ↓zd, ↓zU, ↓zq, ↓zJ, ↓zaI, ↓zez, ↓zeX, ↓zaq, ↓zaS, ↓zaV, ↓zbA, ↓zbV, ↓zG, ↓zay, ↓zX, ↓zH, ↓zaC, zeY, zcw, zcg, unA, zfb, bnd, zfU, zan, zaG, zfT, dm, dm1, zC, zaT, zgx, zgw, zao, Q0, Q1, Q2, Q3, Q4, Q5, zaB, zP, zp, zas, zac, Q6, Q7, Q8, Q9, Q10, Q11, Q12, Q13, Q14, Nat.reduceAdd, Q15, Int.reduceToNat, Q16, Q17, Q18, Q19, Q20, reduceIte, Q21, Q22, zE, a]; rfl) : P := (e a).mpr h
theorem gq13 {P Q : Prop} (h : Q) (e : P = Q := by simp -dsimp only [↓zhH, ↓zbh, ↓zcI, ↓zhI, ↓zhD, ↓zhB, ↓zhE, ↓zhC, ↓zcN, ↓zcJ, ↓zcO, ↓zcK, ↓zhF, ↓zcH, ↓zcP, ↓zcL, ↓zcQ, ↓zcM, ↓zhA, ↓zhG, ↓zcG, ↓zcS, ↓zhy, ↓zhx, ↓zhz, iN, bT, bF, eN, ↓zei, ↓unC, ↓zal, ↓zZ, ↓zaa, ↓zah, ↓zaE, ↓zaO, ↓zdI, ↓zak, ↓zcu, ↓zaF, ↓zr, ↓zA, ↓zde, ↓zj, ↓zau, ↓zT, ↓zaW, ↓zbl, ↓zd, ↓zU, ↓zq, ↓zJ, ↓zaI, ↓zez, ↓zeX, ↓zaq, ↓zaS, ↓zaV, ↓zbA, ↓zbV, ↓zG, ↓zay, ↓zX, ↓zH, ↓zaC, zeY, zcw, zcg, unA, zfb, bnd, zfU, zan, zaG, zfT, dm, dm1, zC, zaT, zgx, zgw, zao, Q0, Q1, Q2, Q3, Q4, Q5, zaB, zP, zp, zas, zac, Q6, Q7, Q8, Q9, Q10, Q11, Q12, Q13, Q14, Nat.reduceAdd, Q15, Int.reduceToNat, Q16, Q17, Q18, Q19, Q20, reduceIte, Q21, Q22, zE]; rfl) : P := e.mpr h
theorem gq14 {A P Q : Prop} (a : A) (h : Q) (e : A → P = Q := by intro a; simp -dsimp only [↓zhH, ↓zbh, ↓zcI, ↓zhI, ↓zhD, ↓zhB, ↓zhE, ↓zhC, ↓zcN, ↓zcJ, ↓zcO, ↓zcK, ↓zhF, ↓zcH, ↓zcP, ↓zcL, ↓zcQ, ↓zcM, ↓zhA, ↓zhG, ↓zcG, ↓zcS, ↓zhy, ↓zhx, ↓zhz, iN, bT, bF, eN, ↓zei, ↓unC, ↓zal, ↓zZ, ↓zaa, ↓zah, ↓zaE, ↓zaO, ↓zdI, ↓zak, ↓zcu, ↓zaF, ↓zr, ↓zA, ↓zde, ↓zj, ↓zau, ↓zT, ↓zaW, ↓zbl, ↓zd, ↓zU, ↓zq, ↓zJ, ↓zaI, ↓zez, ↓zeX, ↓zaq, ↓zaS, ↓zaV, ↓zbA, ↓zbV, ↓zG, ↓zay, ↓zX, ↓zH, ↓zaC, zeY, zcw, zcg, unA, zfb, bnd, zfU, zan, zaG, zfT, dm, dm1, zC, zaT, zgx, zgw, zao, Q0, Q1, Q2, Q3, Q4, Q5, zaB, zP, zp, zas, zac, Q6, Q7, Q8, Q9, Q10, Q11, Q12, Q13, Q14, Nat.reduceAdd, Q15, Int.reduceToNat, Q16, Q17, Q18, Q19, Q20, reduceIte, Q21, Q22, Int.toNat_natCast, zE, a]; rfl) : P := (e a).mpr h
theorem gq15 {P Q : Prop} (h : Q) (e : P = Q := by simp -dsimp only [↓zhH, ↓zbh, ↓zcI, ↓zhI, ↓zhD, ↓zhB, ↓zhE, ↓zhC, ↓zcN, ↓zcJ, ↓zcO, ↓zcK, ↓zhF, ↓zcH, ↓zcP, ↓zcL, ↓zcQ, ↓zcM, ↓zhA, ↓zhG, ↓zcG, ↓zcS, ↓zhy, ↓zhx, ↓zhz, iN, bT, bF, eN, ↓zei, ↓unC, ↓zal, ↓zZ, ↓zaa, ↓zah, ↓zaE, ↓zaO, ↓zdI, ↓zak, ↓zcu, ↓zaF, ↓zr, ↓zA, ↓zde, ↓zj, ↓zau, ↓zT, ↓zaW, ↓zbl, ↓zd, ↓zU, ↓zq, ↓zJ, ↓zaI, ↓zez, ↓zeX, ↓zaq, ↓zaS, ↓zaV, ↓zbA, ↓zbV, ↓zG, ↓zay, ↓zX, ↓zH, ↓zaC, zeY, zcw, zcg, unA, zfb, bnd, zfU, zan, zaG, zfT, dm, dm1, zC, zaT, zgx, zgw, zao, Q0, Q1, Q2, Q3, Q4, Q5, zaB, zP, zp, zas, zac, Q6, Q7, Q8, Q9, Q10, Q11, Q12, Q13, Q14, Nat.reduceAdd, Q15, Int.reduceToNat, Q16, Q17, Q18, Q19, Q20, reduceIte, Q21, Q22, zaC, zE]; rfl) : P := e.mpr h
theorem zkq {σ : List zc} {a b : List (List UInt8)} (ha : a.length ≤ 1073741824) (hb : b.length ≤ 1073741824) {K : AV → List zc → Prop} (hK : K (.d (.bool (a == b))) σ) :
    zt Tryz.prog zM [.d (.slice (zby a)), .d (.slice (zby b)), .fn (.func zgT) [] []] σ K := by
  refine acE3 zaX fun hl => ?_
  (refine gq11 ?_; try with_reducible exact True.intro)
  refine zO (fun h => ?_) (fun h => ?_)
  all_goals (try (refine gq12 h ?_; try with_reducible exact True.intro))
  · refine zbj hl ?_
    have : (a == b) = false := by
      rw [beq_eq_false_iff_ne]
      rintro rfl
      simp at h
    rw [this] at hK; exact hK
  have hl2 : a.length = b.length := by simp at h; omega
  refine zN a.length (fun k vs s => vs = [.d (.int .i64 k)] ∧ s = σ ∧ a.take k = b.take k) ⟨rfl, rfl, by simp⟩ ?_
  rintro k vs s hk ⟨rfl, rfl, htk⟩
  (refine gq13 ?_; try with_reducible exact True.intro)
  refine zO (fun h => ?_) (fun h => ?_)
  all_goals (try (refine gq12 h ?_; try with_reducible exact True.intro))
  · have hka : k < a.length := by simp at h; omega
    have hx : a[k]? = some a[k] := by simp [hka]
    have hy : b[k]? = some (b[k]'(by omega)) := List.getElem?_eq_getElem _
    (refine gq14 (zds (zeE hx) (zeE hy)) ?_; try with_reducible exact True.intro)
    refine ⟨by omega, by omega, c_Same_1 ?_⟩
    (refine gq15 ?_; try with_reducible exact True.intro)
    refine zO (fun h => ?_) (fun h => ?_)
    all_goals (try (refine gq12 h ?_; try with_reducible exact True.intro))
    · refine zbJ.next hka ⟨?_, rfl, zfW hx hy htk (by simpa using h)⟩
      rw [zaD (by omega) (by omega)]; rfl
    · refine zbj hl ?_
      have : (a == b) = false := by
        rw [beq_eq_false_iff_ne]
        rintro rfl
        simp at h
      rw [this] at hK; exact hK
  · refine zbj hl ?_
    have : (a == b) = true := by
      rw [beq_iff_eq]
      exact zkP hl2 (k := k) (by simp at h; omega) htk
    rw [this] at hK; exact hK
theorem c_Same {σ : List zc} {a b : TOp} (ha : a.recs.length ≤ 1073741824) (hb : b.recs.length ≤ 1073741824) {K : AV → List zc → Prop} (hK : K (.d (.bool (decide (a = b)))) σ) : zt Tryz.prog zmP [opA a, opA b] σ K := by
  refine zlO e_op_Same fun hl => ?_
  simp only [S_op_Same, iN, bT, bF, eN, opA]
  repeat' first
    | (refine gq9 ?_; try with_reducible exact True.intro)
    | (refine zO (fun h => ?_) (fun h => ?_) <;> (try rw [h]))
    | refine zkq ha hb ?_
  all_goals refine zbj hl ?_
  all_goals simp only [beq_iff_eq, beq_eq_false_iff_ne, ne_eq] at *
  · have e : decide (a = b) = (a.recs == b.recs) := by
      rw [Bool.eq_iff_iff]
      cases a; cases b
      simp_all
    rw [e] at hK; exact hK
  all_goals
    have e : decide (a = b) = false := by
      cases a; cases b
      simp_all
    rw [e] at hK; exact hK

theorem c_Runes {σ : List zc} {s : List UInt8} (hs : s.length ≤ 1073741824) {K : AV → List zc → Prop} (hK : K (.d (.int .i64 (zeC s))) σ) : zt Tryz.prog zkY [.d (.str s)] σ K := by
  refine zhl e_op_Runes fun hl => ?_
  simp only [zoU, iN, bT, bF, eN, zay]
  refine zN s.length (fun pos vs s' => ∃ cnt : Nat, vs = [.d (.int .i64 cnt)] ∧ s' = σ ++ [.iter s pos] ∧ pos ≤ s.length ∧ cnt ≤ pos ∧ zcd (s.length + 1) s = (zcd (s.length + 1) (s.drop pos)).map (· + cnt)) ⟨0, rfl, rfl, by omega, by omega, by simp⟩ ?_
  rintro pos vs s' hp ⟨cnt, rfl, rfl, hps, hc, hr⟩
  simp only [zG, zka, zp, List.getElem?_cons_zero]
  split
  · rename_i hlt
    have hd : s.drop pos ≠ [] := by intro e; have := congrArg List.length e; simp at this; omega
    have hw := goDec_width _ hd
    have hw2 := zgD (s.drop pos)
    simp only [decode_eq s pos hlt]
    have hcount : zcd (s.length + 1) (s.drop pos) = if (zgp (s.drop pos)).2 = 0 ∨ badF (zgp (s.drop pos)).1 = true then none else (zcd s.length ((s.drop pos).drop (zgp (s.drop pos)).2)).map (· + 1) := by
      rw [zcd, if_neg hd]
    (repeat' (first | (refine gq9 ?_; try with_reducible exact True.intro) | (refine zO (fun h => ?_) (fun h => ?_) <;> (try rw [h])) | ((with_reducible refine And.intro ?_ ?_); focus (first | omega | rfl | decide))))
    all_goals first
      | (refine zbj hl ?_
         have hb : badF (zke (s.drop pos)).1 = true := by
           simp only [badF]
           (try simp only [decide_eq_true_eq, decide_eq_false_iff_not, beq_iff_eq, beq_eq_false_iff_ne, bne_iff_ne, ne_eq, Bool.not_eq_true', Bool.not_eq_false', bne_eq_false_iff_eq] at *)
           omega
         rw [goDec_bad] at hb
         have : zcd (s.length + 1) (s.drop pos) = none := by rw [hcount, if_pos (by simpa using hb)]
         have h0 : zeC s = 0 := by simp [zeC, hr, this]
         rw [h0] at hK; exact hK)
      | skip
    all_goals
      have hb : badF (zke (s.drop pos)).1 = false := by
        simp only [badF]
        (try simp only [decide_eq_true_eq, decide_eq_false_iff_not, beq_iff_eq, beq_eq_false_iff_ne, bne_iff_ne, ne_eq, Bool.not_eq_true', Bool.not_eq_false', bne_eq_false_iff_eq] at *)
        omega
      obtain ⟨g1, g2, g3⟩ := goDec_good hb
      rw [zaD (by omega) (by omega)]
      refine zbJ.to (pos + (zke (s.drop pos)).2) (by omega) (by simp at hw; omega) ⟨cnt + 1, rfl, rfl, by simp at hw; omega, by omega, ?_⟩
      rw [hr, hcount, if_neg (by simp [g2, g3]), g1, List.drop_drop, zjF s.length (s.length + 1) _ (by simp at *; omega) (by simp; omega)]
      cases zcd (s.length + 1) (List.drop (pos + (zgp (s.drop pos)).2) s) <;> simp
      omega
  · rename_i hlt
    have e : s.drop pos = [] := List.drop_eq_nil_of_le (by omega)
    have hcnt : zcd (s.length + 1) s = some cnt := by rw [hr, e]; simp [zcd]
    (refine gq13 ?_; try with_reducible exact True.intro)
    refine zO (fun h => ?_) (fun h => ?_)
    all_goals (try (refine gq12 h ?_; try with_reducible exact True.intro))
    · refine zbj hl ?_
      have h0 : zeC s = 0 := by simp [zeC, hcnt]; simp at h; omega
      rw [h0] at hK; exact hK
    · refine zbj hl ?_
      have h0 : zeC s = cnt := by simp [zeC, hcnt]; simp at h; omega
      rw [h0] at hK; exact hK
theorem gq16 {P Q : Prop} (h : Q) (e : P = Q := by simp -dsimp only [↓zhH, ↓zbh, ↓zcI, ↓zhI, ↓zhD, ↓zhB, ↓zhE, ↓zhC, ↓zcN, ↓zcJ, ↓zcO, ↓zcK, ↓zhF, ↓zcH, ↓zcP, ↓zcL, ↓zcQ, ↓zcM, ↓zhA, ↓zhG, ↓zcG, ↓zcS, ↓zhy, ↓zhx, ↓zhz, iN, bT, bF, eN, ↓zei, ↓unC, ↓zal, ↓zZ, ↓zaa, ↓zah, ↓zaE, ↓zaO, ↓zdI, ↓zak, ↓zcu, ↓zaF, ↓zr, ↓zA, ↓zde, ↓zj, ↓zau, ↓zT, ↓zaW, ↓zbl, ↓zd, ↓zU, ↓zq, ↓zJ, ↓zaI, ↓zez, ↓zeX, ↓zaq, ↓zaS, ↓zaV, ↓zbA, ↓zbV, ↓zG, ↓zay, ↓zX, ↓zH, ↓zaC, zeY, zcw, zcg, unA, zfb, bnd, zfU, zan, zaG, zfT, dm, dm1, zC, zaT, zgx, zgw, zao, Q0, Q1, Q2, Q3, Q4, Q5, zaB, zP, zp, zas, zac, Q6, Q7, Q8, Q9, Q10, Q11, Q12, Q13, Q14, Nat.reduceAdd, Q15, Int.reduceToNat, Q16, Q17, Q18, Q19, Q20, reduceIte, Q21, Q22, S_op_Name, zE]; rfl) : P := e.mpr h
theorem c_Name {σ : List zc} {s : List UInt8} (hs : s.length ≤ 1073741824) {K : AV → List zc → Prop} (hK : K (.d (.bool (zbH s))) σ) : zt Tryz.prog zkb [.d (.str s)] σ K := by
  refine zhl e_op_Name fun hl => ?_
  (refine gq16 ?_; try with_reducible exact True.intro)
  refine c_Runes hs ?_
  (refine gq13 ?_; try with_reducible exact True.intro)
  refine zbj hl ?_
  have : decide ((zeC s : Int) > 0) = zbH s := by simp [zbH]
  rw [this]; exact hK

theorem c_rsize {σ : List zc} {c : Nat} {K : AV → List zc → Prop} (hK : K (.d (.int .i64 (zhr c))) σ) : zt Tryz.prog zkW [.d (.int .u8 c)] σ K := by
  refine zhl e_r06_size fun hl => ?_
  simp only [zoR, iN, bT, bF, eN]
  (repeat' (first | (refine gq9 ?_; try with_reducible exact True.intro) | (refine zO (fun h => ?_) (fun h => ?_) <;> (try rw [h])) | ((with_reducible refine And.intro ?_ ?_); focus (first | omega | rfl | decide))))
  all_goals refine zbj hl ?_
  all_goals (try simp only [decide_eq_true_eq, decide_eq_false_iff_not, beq_iff_eq, beq_eq_false_iff_ne, bne_iff_ne, ne_eq, Bool.not_eq_true', Bool.not_eq_false', bne_eq_false_iff_eq] at *)
  all_goals
    simp only [zcE, dmT, dm, dm1]
    have e : ∀ z : Nat, zhr c = z → K (.d (.int .i64 z)) σ := fun z hz => by rw [← hz]; exact hK
    first
    | exact e 0 (by unfold zhr; rw [if_neg (by omega), if_neg (by omega), if_neg (by omega), if_neg (by omega)])
    | exact e 1 (by unfold zhr; rw [if_pos (by omega)])
    | exact e 2 (by unfold zhr; rw [if_neg (by omega), if_pos (by omega)])
    | exact e 3 (by unfold zhr; rw [if_neg (by omega), if_neg (by omega), if_pos (by omega)])
    | exact e 4 (by unfold zhr; rw [if_neg (by omega), if_neg (by omega), if_neg (by omega), if_pos (by omega)])

theorem mask_eq (z : Nat) (hz : z = 2 ∨ z = 3 ∨ z = 4) (b : Nat) (hb : b < 256) :
    IntKind.i64.wrap ↑(BitVec.ofInt IntKind.i64.bits (b : Int) &&& BitVec.ofInt IntKind.i64.bits (IntKind.i64.wrap (IntKind.i64.wrap (1 * 2 ^ (min (IntKind.i64.wrap (7 - (z : Int))).toNat IntKind.i64.bits)) - 1))).toNat = ((b % 2 ^ (7 - z) : Nat) : Int) := by
  have h0 : (BitVec.ofInt 64 (b : Int)).toNat = b := by simp; omega
  have key : ∀ m : Nat, (m = 3 ∨ m = 4 ∨ m = 5) → IntKind.i64.wrap ↑(BitVec.ofInt 64 (b : Int) &&& BitVec.ofInt 64 ((2 : Int) ^ m - 1)).toNat = ((b % 2 ^ m : Nat) : Int) := fun m hm => by
    have : (BitVec.ofInt 64 (b : Int) &&& BitVec.ofInt 64 ((2 : Int) ^ m - 1)).toNat = b % 2 ^ m := by
      rw [BitVec.toNat_and, h0]
      rcases hm with rfl | rfl | rfl
      · exact Nat.and_two_pow_sub_one_eq_mod b 3
      · exact Nat.and_two_pow_sub_one_eq_mod b 4
      · exact Nat.and_two_pow_sub_one_eq_mod b 5
    rw [this]
    have : b % 2 ^ m < 256 := Nat.lt_of_le_of_lt (Nat.mod_le _ _) hb
    exact zaD (by omega) (by omega)
  rcases hz with rfl | rfl | rfl
  · exact key 5 (by omega)
  · exact key 4 (by omega)
  · exact key 3 (by omega)

theorem partF_lt (s : List UInt8) (z : Nat) (hz : 2 ≤ z) : ∀ i, zeo s z i < 32 * 64 ^ i
  | 0 => by
    simp only [zeo]
    have : 2 ^ (7 - z) ≤ 2 ^ 5 := Nat.pow_le_pow_right (by omega) (by omega)
    have := Nat.mod_lt (at8 s 0) (y := 2 ^ (7 - z)) (Nat.pos_of_ne_zero (by simp))
    omega
  | i + 1 => by
    simp only [zeo, Nat.pow_succ]
    have := partF_lt s z hz i
    omega

theorem at8_some {s : List UInt8} {i : Nat} (h : i < s.length) : s[i]? = some s[i] ∧ (s[i].toNat : Int) = (at8 s i : Int) := by
  have : s[i]? = some s[i] := List.getElem?_eq_getElem h
  exact ⟨this, by simp [at8, this]⟩

theorem gq17 {A P Q : Prop} (a : A) (h : Q) (e : A → P = Q := by intro a; simp -dsimp only [↓zhH, ↓zbh, ↓zcI, ↓zhI, ↓zhD, ↓zhB, ↓zhE, ↓zhC, ↓zcN, ↓zcJ, ↓zcO, ↓zcK, ↓zhF, ↓zcH, ↓zcP, ↓zcL, ↓zcQ, ↓zcM, ↓zhA, ↓zhG, ↓zcG, ↓zcS, ↓zhy, ↓zhx, ↓zhz, iN, bT, bF, eN, ↓zei, ↓unC, ↓zal, ↓zZ, ↓zaa, ↓zah, ↓zaE, ↓zaO, ↓zdI, ↓zak, ↓zcu, ↓zaF, ↓zr, ↓zA, ↓zde, ↓zj, ↓zau, ↓zT, ↓zaW, ↓zbl, ↓zd, ↓zU, ↓zq, ↓zJ, ↓zaI, ↓zez, ↓zeX, ↓zaq, ↓zaS, ↓zaV, ↓zbA, ↓zbV, ↓zG, ↓zay, ↓zX, ↓zH, ↓zaC, zeY, zcw, zcg, unA, zfb, bnd, zfU, zan, zaG, zfT, dm, dm1, zC, zaT, zgx, zgw, zao, Q0, Q1, Q2, Q3, Q4, Q5, zaB, zP, zp, zas, zac, Q6, Q7, Q8, Q9, Q10, Q11, Q12, Q13, Q14, Nat.reduceAdd, Q15, Int.reduceToNat, Q16, Q17, Q18, Q19, Q20, reduceIte, Q21, Q22, znG, zE, a]; rfl) : P := (e a).mpr h
theorem gq18 {A P Q : Prop} (a : A) (h : Q) (e : A → P = Q := by intro a; simp -dsimp only [↓zhH, ↓zbh, ↓zcI, ↓zhI, ↓zhD, ↓zhB, ↓zhE, ↓zhC, ↓zcN, ↓zcJ, ↓zcO, ↓zcK, ↓zhF, ↓zcH, ↓zcP, ↓zcL, ↓zcQ, ↓zcM, ↓zhA, ↓zhG, ↓zcG, ↓zcS, ↓zhy, ↓zhx, ↓zhz, iN, bT, bF, eN, ↓zei, ↓unC, ↓zal, ↓zZ, ↓zaa, ↓zah, ↓zaE, ↓zaO, ↓zdI, ↓zak, ↓zcu, ↓zaF, ↓zr, ↓zA, ↓zde, ↓zj, ↓zau, ↓zT, ↓zaW, ↓zbl, ↓zd, ↓zU, ↓zq, ↓zJ, ↓zaI, ↓zez, ↓zeX, ↓zaq, ↓zaS, ↓zaV, ↓zbA, ↓zbV, ↓zG, ↓zay, ↓zX, ↓zH, ↓zaC, zeY, zcw, zcg, unA, zfb, bnd, zfU, zan, zaG, zfT, dm, dm1, zC, zaT, zgx, zgw, zao, Q0, Q1, Q2, Q3, Q4, Q5, zaB, zP, zp, zas, zac, Q6, Q7, Q8, Q9, Q10, Q11, Q12, Q13, Q14, Nat.reduceAdd, Q15, Int.reduceToNat, Q16, Q17, Q18, Q19, Q20, reduceIte, Q21, Q22, zE, rep, zag, zgP, toD, zap, Q23, Q24, Q25, Q26, Q27, Q28, Nat.reduceLeDiff, Q29, Nat.reduceSub, Q30, Q31, Q32, sc, Q33, Q34, Q35, a]; rfl) : P := (e a).mpr h
theorem c_rune1 {σ : List zc} {s : List UInt8} (hs : s.length ≤ 1073741824) (hne : s ≠ []) {K : AV → List zc → Prop} (hK : K (.tup [.d (.int .i64 (zgp s).1), .d (.int .i64 (zgp s).2)]) σ) : zt Tryz.prog zjr [.d (.str s)] σ K := by
  refine zhl e_r06_rune1 fun hl => ?_
  have hpos : 0 < s.length := List.length_pos_iff.2 hne
  obtain ⟨g1, g2⟩ := at8_some hpos
  have hb0 := zny s 0
  (refine gq17 (zds g1 g2) ?_; try with_reducible exact True.intro)
  refine ⟨by omega, c_rsize ?_⟩
  have hz4 : zhr (at8 s 0) = 0 ∨ zhr (at8 s 0) = 1 ∨ zhr (at8 s 0) = 2 ∨ zhr (at8 s 0) = 3 ∨ zhr (at8 s 0) = 4 := by
    unfold zhr; split <;> (try split) <;> (try split) <;> (try split) <;> omega
  obtain ⟨z, hz⟩ : ∃ z, z = zhr (at8 s 0) := ⟨_, rfl⟩
  rw [← hz] at hz4 ⊢
  have bad : z = 0 ∨ z > s.length → K (.tup [.d (.int .i64 0), .d (.int .i64 0)]) σ := fun h => by
    have : zgp s = (0, 0) := by simp only [zgp, ← hz]; rw [if_pos h]
    rw [this] at hK; exact hK
  (refine gq13 ?_; try with_reducible exact True.intro)
  refine zO (fun h => ?_) (fun h => ?_)
  all_goals (try (refine gq12 (zds h (zds g1 g2)) ?_; try with_reducible exact True.intro))
  · refine zbj hl ?_
    exact bad (.inl (by (try simp only [decide_eq_true_eq, decide_eq_false_iff_not, beq_iff_eq, beq_eq_false_iff_ne, bne_iff_ne, ne_eq, Bool.not_eq_true', Bool.not_eq_false', bne_eq_false_iff_eq] at *); omega))
  have hz0 : z ≠ 0 := by (try simp only [decide_eq_true_eq, decide_eq_false_iff_not, beq_iff_eq, beq_eq_false_iff_ne, bne_iff_ne, ne_eq, Bool.not_eq_true', Bool.not_eq_false', bne_eq_false_iff_eq] at *); omega
  refine zO (fun h => ?_) (fun h => ?_)
  all_goals (try (refine gq12 (zds h (zds g1 g2)) ?_; try with_reducible exact True.intro))
  · refine zbj hl ?_
    exact bad (.inr (by (try simp only [decide_eq_true_eq, decide_eq_false_iff_not, beq_iff_eq, beq_eq_false_iff_ne, bne_iff_ne, ne_eq, Bool.not_eq_true', Bool.not_eq_false', bne_eq_false_iff_eq] at *); omega))
  have hzl : z ≤ s.length := by (try simp only [decide_eq_true_eq, decide_eq_false_iff_not, beq_iff_eq, beq_eq_false_iff_ne, bne_iff_ne, ne_eq, Bool.not_eq_true', Bool.not_eq_false', bne_eq_false_iff_eq] at *); omega
  have hnb : ¬ (z = 0 ∨ z > s.length) := by omega
  refine zO (fun h => ?_) (fun h => ?_)
  all_goals (try (refine gq12 (zds h (zds g1 g2)) ?_; try with_reducible exact True.intro))
  · have h1 : z = 1 := by (try simp only [decide_eq_true_eq, decide_eq_false_iff_not, beq_iff_eq, beq_eq_false_iff_ne, bne_iff_ne, ne_eq, Bool.not_eq_true', Bool.not_eq_false', bne_eq_false_iff_eq] at *); omega
    refine ⟨by omega, ?_⟩
    refine zbj hl ?_
    have : zgp s = (at8 s 0, 1) := by simp only [zgp, ← hz]; rw [if_neg hnb, if_pos h1]
    rw [this] at hK
    simp only [zcE, dmT, dm, dm1, List.map_cons, List.map_nil]
    rw [zaD (by omega) (by omega)]
    exact hK
  have hz2 : z = 2 ∨ z = 3 ∨ z = 4 := by (try simp only [decide_eq_true_eq, decide_eq_false_iff_not, beq_iff_eq, beq_eq_false_iff_ne, bne_iff_ne, ne_eq, Bool.not_eq_true', Bool.not_eq_false', bne_eq_false_iff_eq] at *); omega
  have h1 : ¬ z = 1 := by omega
  refine ⟨by omega, ?_⟩
  have hw : IntKind.i64.wrap (at8 s 0 : Int) = (at8 s 0 : Int) := zaD (by omega) (by omega)
  have hsh : (0 : Int) ≤ IntKind.i64.wrap (7 - (z : Int)) := by rw [zaD (by omega) (by omega)]; omega
  refine ⟨hsh, ?_⟩
  rw [hw, mask_eq z hz2 _ hb0]
  refine zN z (fun k vs s' => s' = σ ∧ k + 1 ≤ z ∧ vs = [.d (.int .i64 (zeo s z k)), .d (.int .i64 (k + 1 : Nat))] ∧ ∀ i, i < k + 1 → 1 ≤ i → zlo s i = true) ⟨rfl, by omega, rfl, fun i h1 h2 => by omega⟩ ?_
  rintro k vs s' hk ⟨rfl, hk1, rfl, hcont⟩
  have hpl := partF_lt s z (by omega) k
  have hpow : 64 ^ k ≤ 64 ^ 3 := Nat.pow_le_pow_right (by omega) (by omega)
  (refine gq13 ?_; try with_reducible exact True.intro)
  have fail : (¬ ∀ i, i < z → 1 ≤ i → zlo s i = true) → K (.tup [.d (.int .i64 0), .d (.int .i64 0)]) s' := fun h => by
    have : zgp s = (0, 0) := by simp only [zgp, ← hz]; rw [if_neg hnb, if_neg h1, if_neg h]
    rw [this] at hK; exact hK
  refine zO (fun h => ?_) (fun h => ?_)
  · have hkz : k + 1 < z := by (try simp only [decide_eq_true_eq, decide_eq_false_iff_not, beq_iff_eq, beq_eq_false_iff_ne, bne_iff_ne, ne_eq, Bool.not_eq_true', Bool.not_eq_false', bne_eq_false_iff_eq] at *); omega
    obtain ⟨f1, f2⟩ := at8_some (s := s) (i := k + 1) (by omega)
    have hb := zny s (k + 1)
    repeat' first
      | (refine gq18 (zds f1 f2) ?_; try with_reducible exact True.intro)
      | (refine zO (fun h => ?_) (fun h => ?_) <;> (try rw [h]))
      | ((with_reducible refine And.intro ?_ ?_); focus (first | omega | rfl | decide))
    · refine zbj hl ?_
      exact fail fun h' => by
        have := h' (k + 1) hkz (by omega)
        simp only [zlo] at this
        (try simp only [decide_eq_true_eq, decide_eq_false_iff_not, beq_iff_eq, beq_eq_false_iff_ne, bne_iff_ne, ne_eq, Bool.not_eq_true', Bool.not_eq_false', bne_eq_false_iff_eq] at *); omega
    · refine zbj hl ?_
      exact fail fun h' => by
        have := h' (k + 1) hkz (by omega)
        simp only [zlo] at this
        (try simp only [decide_eq_true_eq, decide_eq_false_iff_not, beq_iff_eq, beq_eq_false_iff_ne, bne_iff_ne, ne_eq, Bool.not_eq_true', Bool.not_eq_false', bne_eq_false_iff_eq] at *); omega
    have hv : IntKind.i64.wrap (IntKind.i64.wrap (↑(zeo s z k) * 64) + (IntKind.i64.wrap ↑(at8 s (k + 1))).tmod 64) = ((zeo s z (k + 1) : Nat) : Int) := by
      have hp2 : zeo s z k < 32 * 64 ^ 3 := by omega
      have e1 : IntKind.i64.wrap ((zeo s z k : Int) * 64) = (zeo s z k : Int) * 64 := zaD (by omega) (by omega)
      have e2 : IntKind.i64.wrap (at8 s (k + 1) : Int) = (at8 s (k + 1) : Int) := zaD (by omega) (by omega)
      have e3 : ((at8 s (k + 1) : Int)).tmod 64 = ((at8 s (k + 1) % 64 : Nat) : Int) := by rw [Int.tmod_eq_emod_of_nonneg (by omega)]; rfl
      rw [e1, e2, e3, zaD (by omega) (by omega)]
      simp only [zeo]
      omega
    have hw2 : IntKind.i64.wrap (((k + 1 : Nat) : Int) + 1) = ((k + 1 + 1 : Nat) : Int) := by rw [zaD (by omega) (by omega)]; rfl
    rw [hv, hw2]
    refine zbJ.next (by omega) ⟨rfl, by omega, rfl, fun i hi1 hi2 => ?_⟩
    by_cases hi : i < k + 1
    · exact hcont i hi hi2
    · obtain rfl : i = k + 1 := by omega
      simp only [zlo]
      (try simp only [decide_eq_true_eq, decide_eq_false_iff_not, beq_iff_eq, beq_eq_false_iff_ne, bne_iff_ne, ne_eq, Bool.not_eq_true', Bool.not_eq_false', bne_eq_false_iff_eq] at *); omega
  · have hkz : k + 1 = z := by (try simp only [decide_eq_true_eq, decide_eq_false_iff_not, beq_iff_eq, beq_eq_false_iff_ne, bne_iff_ne, ne_eq, Bool.not_eq_true', Bool.not_eq_false', bne_eq_false_iff_eq] at *); omega
    have hall : ∀ i, i < z → 1 ≤ i → zlo s i = true := by rw [← hkz]; exact hcont
    have hdec : zgp s = if zeo s z k < zdD z ∨ zeo s z k > 1114111 ∨ (55296 ≤ zeo s z k ∧ zeo s z k < 57344) then (0, 0) else (zeo s z k, z) := by
      have e : z - 1 = k := by omega
      simp only [zgp, ← hz]
      rw [if_neg hnb, if_neg h1, if_pos hall, e]
    have hget : ∃ l : Nat, l = zdD z ∧ ([[D.int .i64 0], [D.int .i64 0], [D.int .i64 128], [D.int .i64 2048], [D.int .i64 65536]] : List (List D))[z]? = some [D.int .i64 l] := by
      rcases hz2 with rfl | rfl | rfl <;> exact ⟨_, rfl, rfl⟩
    obtain ⟨l, hl1, hl2⟩ := hget
    rw [← hl1] at hdec
    repeat' first
      | (refine gq18 hl2 ?_; try with_reducible exact True.intro)
      | (refine zO (fun h => ?_) (fun h => ?_) <;> (try rw [h]))
      | ((with_reducible refine And.intro ?_ ?_); focus (first | omega | rfl | decide))
    all_goals refine zbj hl ?_
    all_goals (try simp only [decide_eq_true_eq, decide_eq_false_iff_not, beq_iff_eq, beq_eq_false_iff_ne, bne_iff_ne, ne_eq, Bool.not_eq_true', Bool.not_eq_false', bne_eq_false_iff_eq] at *)
    all_goals simp only [zcE, dmT, dm, dm1, List.map_cons, List.map_nil]
    all_goals first
      | (rw [if_pos (by omega)] at hdec; rw [hdec] at hK; exact hK)
      | (rw [if_neg (by omega)] at hdec; rw [hdec] at hK; exact hK)

theorem badF_ref (v : Nat) : badF v = decide (v < 33 ∨ 127 ≤ v ∧ v < 160 ∨ v = 47 ∨ v = 65533) := by
  simp only [badF]; congr 1; apply propext; omega
theorem c_rRunes {σ : List zc} {s : List UInt8} (hs : s.length ≤ 1073741824) {K : AV → List zc → Prop} (hK : K (.d (.int .i64 (zeC s))) σ) : zt Tryz.prog zjs [.d (.str s)] σ K := by
  refine zhl e_r06_Runes fun hl => ?_
  simp only [znH, iN, bT, bF, eN]
  refine zN s.length (fun pos vs s' => ∃ (cnt : Nat) (t : List UInt8), t.length + pos = s.length ∧ vs = [.d (.str t), .d (.int .i64 cnt)] ∧ s' = σ ∧ cnt ≤ pos ∧ cnt ≤ 16 ∧ zcd (s.length + 1) s = (zcd (s.length + 1) t).map (· + cnt)) ⟨0, s, rfl, rfl, rfl, by omega, by omega, by simp⟩ ?_
  rintro pos vs s' hp ⟨cnt, t, hlen, rfl, rfl, hc, hc16, hr⟩
  (refine gq13 ?_; try with_reducible exact True.intro)
  refine zO (fun h => ?_) (fun h => ?_)
  · have ht : t ≠ [] := by rintro rfl; simp at h
    have htl : 0 < t.length := List.length_pos_iff.2 ht
    have hw2 := zgD t
    have hcount : zcd (s.length + 1) t = if (zgp t).2 = 0 ∨ badF (zgp t).1 = true then none else (zcd s.length (t.drop (zgp t).2)).map (· + 1) := by
      rw [zcd, if_neg ht]
    refine c_rune1 (by omega) ht ?_
    have stop : (zgp t).2 = 0 ∨ badF (zgp t).1 = true ∨ cnt = 16 → K (.d (.int .i64 0)) s' := fun hb => by
      have h0 : zeC s = 0 := by
        by_cases hq : (zgp t).2 = 0 ∨ badF (zgp t).1 = true
        · simp [zeC, hr, hcount, if_pos hq]
        · have hcn : cnt = 16 := by
            rcases hb with hb | hb | hb
            · exact absurd (.inl hb) hq
            · exact absurd (.inr hb) hq
            · exact hb
          simp only [zeC, hr, hcount, if_neg hq]
          cases zcd s.length (t.drop (zgp t).2) with
          | none => simp
          | some m => simp; omega
      rw [h0] at hK; exact hK
    (repeat' (first | (refine gq9 ?_; try with_reducible exact True.intro) | (refine zO (fun h => ?_) (fun h => ?_) <;> (try rw [h])) | ((with_reducible refine And.intro ?_ ?_); focus (first | omega | rfl | decide))))
    all_goals first
      | (refine zbj hl ?_
         refine stop ?_
         rw [badF_ref, decide_eq_true_eq]
         (try simp only [decide_eq_true_eq, decide_eq_false_iff_not, beq_iff_eq, beq_eq_false_iff_ne, bne_iff_ne, ne_eq, Bool.not_eq_true', Bool.not_eq_false', bne_eq_false_iff_eq] at *)
         omega)
      | skip
    all_goals
      have hb : badF (zgp t).1 = false := by
        rw [badF_ref, decide_eq_false_iff_not]
        (try simp only [decide_eq_true_eq, decide_eq_false_iff_not, beq_iff_eq, beq_eq_false_iff_ne, bne_iff_ne, ne_eq, Bool.not_eq_true', Bool.not_eq_false', bne_eq_false_iff_eq] at *)
        omega
      have h2 : (zgp t).2 ≠ 0 := by (try simp only [decide_eq_true_eq, decide_eq_false_iff_not, beq_iff_eq, beq_eq_false_iff_ne, bne_iff_ne, ne_eq, Bool.not_eq_true', Bool.not_eq_false', bne_eq_false_iff_eq] at *); omega
      have hcl : cnt < 16 := by (try simp only [decide_eq_true_eq, decide_eq_false_iff_not, beq_iff_eq, beq_eq_false_iff_ne, bne_iff_ne, ne_eq, Bool.not_eq_true', Bool.not_eq_false', bne_eq_false_iff_eq] at *); omega
      rw [zaD (by omega) (by omega)]
      refine zbJ.to (pos + (zgp t).2) (by omega) (by omega) ⟨cnt + 1, t.drop (zgp t).2, by simp; omega, ?_, rfl, by omega, by omega, ?_⟩
      · simp
      · rw [hr, hcount, if_neg (by simp [h2, hb]), zjF s.length (s.length + 1) _ (by simp; omega) (by simp; omega)]
        cases zcd (s.length + 1) (t.drop (zgp t).2) <;> simp
        omega
  · refine zbj hl ?_
    have ht : t = [] := by
      have : ¬ 0 < t.length := by (try simp only [decide_eq_true_eq, decide_eq_false_iff_not, beq_iff_eq, beq_eq_false_iff_ne, bne_iff_ne, ne_eq, Bool.not_eq_true', Bool.not_eq_false', bne_eq_false_iff_eq] at *); omega
      exact List.length_eq_zero_iff.1 (by omega)
    have h0 : zeC s = cnt := by
      simp only [zeC, hr, ht]
      simp [zcd]
      omega
    rw [h0] at hK; exact hK
theorem c_rName {σ : List zc} {s : List UInt8} (hs : s.length ≤ 1073741824) {K : AV → List zc → Prop} (hK : K (.d (.bool (zbH s))) σ) : zt Tryz.prog ziE [.d (.str s)] σ K := by
  refine zhl e_r06_Name fun hl => ?_
  simp only [zoT, iN, bT, bF, eN]
  (refine gq13 ?_; try with_reducible exact True.intro)
  refine c_rRunes hs ?_
  (refine gq13 ?_; try with_reducible exact True.intro)
  refine zbj hl ?_
  have : decide ((zeC s : Int) > 0) = zbH s := by simp [zbH]
  rw [this]; exact hK

theorem c_Check_1 {σ : List zc} {r : List UInt8} {K : AV → List zc → Prop} (hK : K (.d (.bool (decide (r.length > 64)))) σ) : zt Tryz.prog zfZ [.d (.slice (bcs r))] σ K := by
  refine zhl e_op_Check_1 fun hl => ?_
  simp only [zlR, iN, bT, bF, eN]
  (refine gq13 ?_; try with_reducible exact True.intro)
  refine zbj hl ?_
  have : decide (((bcs r).length : Int) > 64) = decide (r.length > 64) := by simp [bcs]; omega
  rw [this]; exact hK
theorem gq19 {P Q : Prop} (h : Q) (e : P = Q := by simp -dsimp only [↓zhH, ↓zbh, ↓zcI, ↓zhI, ↓zhD, ↓zhB, ↓zhE, ↓zhC, ↓zcN, ↓zcJ, ↓zcO, ↓zcK, ↓zhF, ↓zcH, ↓zcP, ↓zcL, ↓zcQ, ↓zcM, ↓zhA, ↓zhG, ↓zcG, ↓zcS, ↓zhy, ↓zhx, ↓zhz, iN, bT, bF, eN, ↓zei, ↓unC, ↓zal, ↓zZ, ↓zaa, ↓zah, ↓zaE, ↓zaO, ↓zdI, ↓zak, ↓zcu, ↓zaF, ↓zr, ↓zA, ↓zde, ↓zj, ↓zau, ↓zT, ↓zaW, ↓zbl, ↓zd, ↓zU, ↓zq, ↓zJ, ↓zaI, ↓zez, ↓zeX, ↓zaq, ↓zaS, ↓zaV, ↓zbA, ↓zbV, ↓zG, ↓zay, ↓zX, ↓zH, ↓zaC, zeY, zcw, zcg, unA, zfb, bnd, zfU, zan, zaG, zfT, dm, dm1, zC, zaT, zgx, zgw, zao, Q0, Q1, Q2, Q3, Q4, Q5, zaB, zP, zp, zas, zac, Q6, Q7, Q8, Q9, Q10, Q11, Q12, Q13, Q14, Nat.reduceAdd, Q15, Int.reduceToNat, Q16, Q17, Q18, Q19, Q20, reduceIte, Q21, Q22, dmT, zcE, zE]; rfl) : P := e.mpr h
theorem zic {σ : List zc} {a : List (List UInt8)} (ha : a.length ≤ 1073741824) {K : AV → List zc → Prop} (hK : K (.d (.bool (a.any fun r => decide (r.length > 64)))) σ) :
    zt Tryz.prog zat [.d (.slice (zby a)), .fn (.func zfZ) [] []] σ K := by
  refine zlO zcp fun hl => ?_
  simp only [zaU, iN, bT, bF, eN]
  (refine gq13 ?_; try with_reducible exact True.intro)
  refine zlO zcR fun hl => ?_
  simp only [zbi, iN, bT, bF, eN]
  (refine gq13 ?_; try with_reducible exact True.intro)
  refine zN a.length (fun k vs s => vs = [.d (.int .i64 k)] ∧ s = σ ∧ ∀ r ∈ a.take k, ¬ r.length > 64) ⟨rfl, rfl, by simp⟩ ?_
  rintro k vs s hk ⟨rfl, rfl, htk⟩
  (refine gq13 ?_; try with_reducible exact True.intro)
  refine zO (fun h => ?_) (fun h => ?_)
  · have hka : k < a.length := by (try simp only [decide_eq_true_eq, decide_eq_false_iff_not, beq_iff_eq, beq_eq_false_iff_ne, bne_iff_ne, ne_eq, Bool.not_eq_true', Bool.not_eq_false', bne_eq_false_iff_eq] at *); omega
    have hx : a[k]? = some a[k] := by simp [hka]
    (refine gq12 (zeE hx) ?_; try with_reducible exact True.intro)
    refine And.intro (by omega) (c_Check_1 ?_)
    (refine gq13 ?_; try with_reducible exact True.intro)
    refine zO (fun h => ?_) (fun h => ?_)
    · refine zbj hl ?_
      (refine gq19 ?_; try with_reducible exact True.intro)
      refine zbj hl ?_
      have e1 : decide ((k : Int) ≥ 0) = true := by simp
      have e2 : (a.any fun r => decide (r.length > 64)) = true := by
        rw [List.any_eq_true]
        exact ⟨a[k], List.getElem_mem _, h⟩
      rw [e2] at hK
      simp only [zcE, dmT, dm, dm1]
      rw [e1]; exact hK
    · (refine gq13 ?_; try with_reducible exact True.intro)
      refine zbJ.next hka ⟨?_, rfl, fun r hr => ?_⟩
      · rw [zaD (by omega) (by omega)]; rfl
      · rw [List.take_add_one, hx] at hr
        rcases List.mem_append.1 hr with hr | hr
        · exact htk r hr
        · have : r = a[k] := by simpa using hr
          subst this
          simpa using h
  · refine zbj hl ?_
    (refine gq19 ?_; try with_reducible exact True.intro)
    refine zbj hl ?_
    have e2 : (a.any fun r => decide (r.length > 64)) = false := by
      rw [List.any_eq_false]
      intro r hr
      have hk' : k = a.length := by (try simp only [decide_eq_true_eq, decide_eq_false_iff_not, beq_iff_eq, beq_eq_false_iff_ne, bne_iff_ne, ne_eq, Bool.not_eq_true', Bool.not_eq_false', bne_eq_false_iff_eq] at *); omega
      rw [hk', List.take_length] at htk
      simpa using htk r hr
    rw [e2] at hK
    exact hK
theorem gq20 {P Q : Prop} (h : Q) (e : P = Q := by simp -dsimp only [↓zhH, ↓zbh, ↓zcI, ↓zhI, ↓zhD, ↓zhB, ↓zhE, ↓zhC, ↓zcN, ↓zcJ, ↓zcO, ↓zcK, ↓zhF, ↓zcH, ↓zcP, ↓zcL, ↓zcQ, ↓zcM, ↓zhA, ↓zhG, ↓zcG, ↓zcS, ↓zhy, ↓zhx, ↓zhz, iN, bT, bF, eN, ↓zei, ↓unC, ↓zal, ↓zZ, ↓zaa, ↓zah, ↓zaE, ↓zaO, ↓zdI, ↓zak, ↓zcu, ↓zaF, ↓zr, ↓zA, ↓zde, ↓zj, ↓zau, ↓zT, ↓zaW, ↓zbl, ↓zd, ↓zU, ↓zq, ↓zJ, ↓zaI, ↓zez, ↓zeX, ↓zaq, ↓zaS, ↓zaV, ↓zbA, ↓zbV, ↓zG, ↓zay, ↓zX, ↓zH, ↓zaC, zeY, zcw, zcg, unA, zfb, bnd, zfU, zan, zaG, zfT, dm, dm1, zC, zaT, zgx, zgw, zao, Q0, Q1, Q2, Q3, Q4, Q5, zaB, zP, zp, zas, zac, Q6, Q7, Q8, Q9, Q10, Q11, Q12, Q13, Q14, Nat.reduceAdd, Q15, Int.reduceToNat, Q16, Q17, Q18, Q19, Q20, reduceIte, Q21, Q22, zE, rep, zag, zgP, toD, zap, Q23, Q24, Q25, Q26, Q27, Q28, Nat.reduceLeDiff, Q29, Nat.reduceSub, Q30, Q31, Q32, sc, Q33, Q34, Q35, Bool.and_false, Bool.and_self, Bool.false_and, Bool.not_false, Bool.not_true, Bool.true_and, Int.toNat_natCast, Int.toNat_zero, List.drop_zero, List.length_map, List.length_nil, List.nil_append, List.take_length, Nat.sub_zero, Nat.zero_add, Option.isSome_none, Option.isSome_some, Option.map_none, Option.map_some, zbp, beq_self_eq_true, bne_self_eq_false, zbO, zbW, opA]; rfl) : P := e.mpr h
theorem c_Check {σ : List zc} {o : TOp} (ht : o.topic.length ≤ 1073741824) (hg : o.group.length ≤ 1073741824) (hr : o.recs.length ≤ 1073741824) {K : AV → List zc → Prop} (hK : K (.d (.int .i64 (zV zbH o))) σ) : zt Tryz.prog zgv [opA o] σ K := by
  refine zhl e_op_Check fun hl => ?_
  simp only [zoV, iN, bT, bF, eN, zl1, opA]
  (refine gq9 ?_; try with_reducible exact True.intro)
  refine c_only (o := o) ?_
  have honly : (znQ o).recs.length ≤ 1073741824 := by unfold znQ noOp; split <;> (try split) <;> (try split) <;> (try split) <;> simp <;> omega
  (refine gq20 ?_; try with_reducible exact True.intro)
  repeat' first
    | (refine gq9 ?_; try with_reducible exact True.intro)
    | refine c_Same (a := o) (b := znQ o) hr honly ?_
    | refine c_Name ht ?_
    | refine c_Name hg ?_
    | refine zic hr ?_
    | (refine zO (fun h => ?_) (fun h => ?_) <;> (try rw [h]))
    | ((with_reducible refine And.intro ?_ ?_); focus (first | omega | rfl | decide))
  all_goals refine zbj hl ?_
  all_goals (try simp only [decide_eq_true_eq, decide_eq_false_iff_not, beq_iff_eq, beq_eq_false_iff_ne, bne_iff_ne, ne_eq, Bool.not_eq_true', Bool.not_eq_false', bne_eq_false_iff_eq] at *)
  all_goals
    simp only [zcE, dmT, dm, dm1]
    have e : ∀ z : Int, zV zbH o = z → K (.d (.int .i64 z)) σ := fun z hz => by rw [← hz]; exact hK
    clear hK
    apply e
    first
    | grind [zV]
    | skip

def zkh (k : Int) : Bool := decide (1 ≤ k ∧ k ≤ 4)
def zne (k : Int) : Bool := decide (k = 3)
def fOff (k : Int) : Bool := decide (k = 3 ∨ k = 4)
def fRecs (k : Int) : Bool := decide (k = 2)
theorem c_fields {σ : List zc} {k : Int} {K : AV → List zc → Prop} (hK : K (.tup [.d (.bool (zkh k)), .d (.bool (zne k)), .d (.bool (fOff k)), .d (.bool (fRecs k))]) σ) : zt Tryz.prog zhR [.d (.int .i64 k)] σ K := by
  refine zhl e_r06_fields fun hl => ?_
  simp only [zlQ, iN, bT, bF, eN]
  (repeat' (first | (refine gq9 ?_; try with_reducible exact True.intro) | (refine zO (fun h => ?_) (fun h => ?_) <;> (try rw [h])) | ((with_reducible refine And.intro ?_ ?_); focus (first | omega | rfl | decide))))
  all_goals refine zbj hl ?_
  all_goals (try simp only [decide_eq_true_eq, decide_eq_false_iff_not, beq_iff_eq, beq_eq_false_iff_ne, bne_iff_ne, ne_eq, Bool.not_eq_true', Bool.not_eq_false', bne_eq_false_iff_eq] at *)
  all_goals
    simp only [zcE, dmT, dm, dm1, List.map_cons, List.map_nil]
    have e : ∀ a b c d : Bool, zkh k = a → zne k = b → fOff k = c → fRecs k = d → K (.tup [.d (.bool a), .d (.bool b), .d (.bool c), .d (.bool d)]) σ := fun a b c d h1 h2 h3 h4 => by rw [← h1, ← h2, ← h3, ← h4]; exact hK
    clear hK
    apply e <;> simp [zkh, zne, fOff, fRecs] <;> omega
theorem onlyF_iff (o : TOp) : o = znQ o ↔ (zkh o.kind = false → o.topic = []) ∧ (zne o.kind = false → o.group = []) ∧ (fOff o.kind = false → o.offset = 0) ∧ (fRecs o.kind = false → o.recs = []) := by
  obtain ⟨k, t, g, f, r⟩ := o
  simp only [znQ, noOp, zkh, zne, fOff, fRecs, decide_eq_false_iff_not]
  by_cases h1 : k = 1
  · subst h1; simp
  by_cases h2 : k = 2
  · subst h2; simp
  by_cases h3 : k = 3
  · subst h3; simp
  by_cases h4 : k = 4
  · subst h4; simp
  · have : ¬ (1 ≤ k ∧ k ≤ 4) := by omega
    simp [h1, h2, h3, h4, this]
set_option maxHeartbeats 2000000 in
theorem c_rCheck {σ : List zc} {o : TOp} (ht : o.topic.length ≤ 1073741824) (hg : o.group.length ≤ 1073741824) (hr : o.recs.length ≤ 1073741824) {K : AV → List zc → Prop} (hK : K (.d (.int .i64 (zV zbH o))) σ) : zt Tryz.prog zjt [opA o] σ K := by
  refine zhl e_r06_Check fun hl => ?_
  simp only [znI, iN, bT, bF, eN, opA]
  (refine gq9 ?_; try with_reducible exact True.intro)
  refine c_fields ?_
  have fin : ∀ z : Int, zV zbH o = z → K (.d (.int .i64 z)) σ := fun z hz => by rw [← hz]; exact hK
  have honly := onlyF_iff o
  have hkind : zkh o.kind = true → zdv o = true := by simp [zkh, zdv]; omega
  have hk1 : zkh o.kind = true ↔ (zdv o = true ∧ o.kind ≠ 0) := by simp [zkh, zdv]; omega
  have hk2 : zne o.kind = true ↔ o.kind = 3 := by simp [zne]
  have hk3 : fRecs o.kind = true ↔ o.kind = 2 := by simp [fRecs]
  have hk4 : zdv o = true ↔ (0 ≤ o.kind ∧ o.kind ≤ 4) := by simp [zdv]
  have hnil : o.recs = [] ↔ o.recs.length = 0 := List.length_eq_zero_iff.symm
  clear hK
  repeat' first
    | (refine gq9 ?_; try with_reducible exact True.intro)
    | refine c_rName ht ?_
    | refine c_rName hg ?_
    | (refine zO (fun h => ?_) (fun h => ?_) <;> (try rw [h]))
    | ((with_reducible refine And.intro ?_ ?_); focus (first | omega | rfl | decide))
  all_goals first
    | (refine zbj hl ?_
       (try simp only [decide_eq_true_eq, decide_eq_false_iff_not, beq_iff_eq, beq_eq_false_iff_ne, bne_iff_ne, ne_eq, Bool.not_eq_true', Bool.not_eq_false', bne_eq_false_iff_eq] at *)
       simp only [zcE, dmT, dm, dm1]
       apply fin
       grind [zV])
    | skip
  all_goals
    refine zN o.recs.length (fun k vs s => vs = [.d (.int .i64 k)] ∧ s = σ ++ [.box [.d (.int .i64 o.kind), .d (.str o.topic), .d (.str o.group), .d (.int .i64 o.offset), .d (.slice (zby o.recs))]] ∧ ∀ r ∈ o.recs.take k, ¬ r.length > 64) ⟨rfl, rfl, by simp⟩ ?_
    rintro k vs s hk ⟨rfl, rfl, htk⟩
    (refine gq13 ?_; try with_reducible exact True.intro)
    refine zO (fun h => ?_) (fun h => ?_)
    · have hka : k < o.recs.length := by (try simp only [decide_eq_true_eq, decide_eq_false_iff_not, beq_iff_eq, beq_eq_false_iff_ne, bne_iff_ne, ne_eq, Bool.not_eq_true', Bool.not_eq_false', bne_eq_false_iff_eq] at *); omega
      have hx : o.recs[k]? = some o.recs[k] := by simp [hka]
      have hmem : o.recs[k] ∈ o.recs := List.getElem_mem _
      have hbl : (bcs o.recs[k]).length = o.recs[k].length := by simp [bcs]
      (refine gq12 (zeE hx) ?_; try with_reducible exact True.intro)
      refine And.intro (by omega) ?_
      refine zO (fun h => ?_) (fun h => ?_)
      · have hany : (o.recs.any fun r => decide (r.length > 64)) = true := by
          rw [List.any_eq_true]
          exact ⟨_, hmem, by (try simp only [decide_eq_true_eq, decide_eq_false_iff_not, beq_iff_eq, beq_eq_false_iff_ne, bne_iff_ne, ne_eq, Bool.not_eq_true', Bool.not_eq_false', bne_eq_false_iff_eq] at *); omega⟩
        refine zbj hl ?_
        (try simp only [decide_eq_true_eq, decide_eq_false_iff_not, beq_iff_eq, beq_eq_false_iff_ne, bne_iff_ne, ne_eq, Bool.not_eq_true', Bool.not_eq_false', bne_eq_false_iff_eq] at *)
        simp only [zcE, dmT, dm, dm1]
        apply fin
        grind [zV]
      · (refine gq13 ?_; try with_reducible exact True.intro)
        refine zbJ.next hka ⟨?_, rfl, fun r hr => ?_⟩
        · rw [zaD (by omega) (by omega)]; rfl
        · rw [List.take_add_one, hx] at hr
          rcases List.mem_append.1 hr with hr | hr
          · exact htk r hr
          · have : r = o.recs[k] := by simpa using hr
            subst this
            (try simp only [decide_eq_true_eq, decide_eq_false_iff_not, beq_iff_eq, beq_eq_false_iff_ne, bne_iff_ne, ne_eq, Bool.not_eq_true', Bool.not_eq_false', bne_eq_false_iff_eq] at *)
            omega
    · have hany : (o.recs.any fun r => decide (r.length > 64)) = false := by
        rw [List.any_eq_false]
        intro r hr
        have hk' : k = o.recs.length := by (try simp only [decide_eq_true_eq, decide_eq_false_iff_not, beq_iff_eq, beq_eq_false_iff_ne, bne_iff_ne, ne_eq, Bool.not_eq_true', Bool.not_eq_false', bne_eq_false_iff_eq] at *); omega
        rw [hk', List.take_length] at htk
        simpa using htk r hr
      clear htk
      (repeat' (first | (refine gq9 ?_; try with_reducible exact True.intro) | (refine zO (fun h => ?_) (fun h => ?_) <;> (try rw [h])) | ((with_reducible refine And.intro ?_ ?_); focus (first | omega | rfl | decide))))
      all_goals
        refine zbj hl ?_
        (try simp only [decide_eq_true_eq, decide_eq_false_iff_not, beq_iff_eq, beq_eq_false_iff_ne, bne_iff_ne, ne_eq, Bool.not_eq_true', Bool.not_eq_false', bne_eq_false_iff_eq] at *)
        simp only [zcE, dmT, dm, dm1]
        apply fin
        grind [zV]

theorem u64_of {n : Int} (h : 0 ≤ n) (h2 : n < 9223372036854775808) : IntKind.u64.wrap n = (n.toNat : Int) := by
  obtain ⟨m, rfl⟩ := Int.eq_ofNat_of_zero_le h
  rw [Int.toNat_natCast]; exact zcT (by omega)
theorem bytesE (s : List UInt8) : s.map zbF = bcs s := rfl

theorem gq21 {A P Q : Prop} (a : A) (h : Q) (e : A → P = Q := by intro a; simp -dsimp only [↓zhH, ↓zbh, ↓zcI, ↓zhI, ↓zhD, ↓zhB, ↓zhE, ↓zhC, ↓zcN, ↓zcJ, ↓zcO, ↓zcK, ↓zhF, ↓zcH, ↓zcP, ↓zcL, ↓zcQ, ↓zcM, ↓zhA, ↓zhG, ↓zcG, ↓zcS, ↓zhy, ↓zhx, ↓zhz, iN, bT, bF, eN, ↓zei, ↓unC, ↓zal, ↓zZ, ↓zaa, ↓zah, ↓zaE, ↓zaO, ↓zdI, ↓zak, ↓zcu, ↓zaF, ↓zr, ↓zA, ↓zde, ↓zj, ↓zau, ↓zT, ↓zaW, ↓zbl, ↓zd, ↓zU, ↓zq, ↓zJ, ↓zaI, ↓zez, ↓zeX, ↓zaq, ↓zaS, ↓zaV, ↓zbA, ↓zbV, ↓zG, ↓zay, ↓zX, ↓zH, ↓zaC, zeY, zcw, zcg, unA, zfb, bnd, zfU, zan, zaG, zfT, dm, dm1, zC, zaT, zgx, zgw, zao, Q0, Q1, Q2, Q3, Q4, Q5, zaB, zP, zp, zas, zac, Q6, Q7, Q8, Q9, Q10, Q11, Q12, Q13, Q14, Nat.reduceAdd, Q15, Int.reduceToNat, Q16, Q17, Q18, Q19, Q20, reduceIte, Q21, Q22, zE, rep, zag, zgP, toD, zap, Q23, Q24, Q25, Q26, Q27, Q28, Nat.reduceLeDiff, Q29, Nat.reduceSub, Q30, Q31, Q32, sc, Q33, Q34, Q35, Bool.and_false, Bool.and_self, Bool.false_and, Bool.not_false, Bool.not_true, Bool.true_and, Int.toNat_natCast, Int.toNat_zero, List.drop_zero, List.length_map, List.length_nil, List.nil_append, List.take_length, Nat.sub_zero, Nat.zero_add, Option.isSome_none, Option.isSome_some, Option.map_none, Option.map_some, zbp, beq_self_eq_true, bne_self_eq_false, bytesE, zbO, zbW, opA, a]; rfl) : P := (e a).mpr h
theorem c_Put {σ : List zc} {b : List UInt8} {o : TOp} (hb : b.length ≤ 268435456) (ho : zfc o ≤ 268435456) {K : AV → List zc → Prop} (hK : K (.d (.slice (bcs (b ++ if zV zbH o = 0 then opB o else [])))) σ) :
    zt Tryz.prog zpo [.d (.slice (bcs b)), opA o] σ K := by
  refine zlO e_op_Put fun hl => ?_
  have hsz := ho
  simp only [zfc] at hsz
  have hrl := zfz o.recs
  simp only [S_op_Put, iN, bT, bF, eN, opA]
  (refine gq9 ?_; try with_reducible exact True.intro)
  refine zfq zgm (by simp [bcs]; omega) ?_
  (refine gq9 ?_; try with_reducible exact True.intro)
  refine c_Check (o := o) (by omega) (by omega) (by omega) ?_
  (refine gq9 ?_; try with_reducible exact True.intro)
  refine zO (fun h => ?_) (fun h => ?_)
  · refine zbj hl ?_
    (try simp only [decide_eq_true_eq, decide_eq_false_iff_not, beq_iff_eq, beq_eq_false_iff_ne, bne_iff_ne, ne_eq, Bool.not_eq_true', Bool.not_eq_false', bne_eq_false_iff_eq] at *)
    rw [if_neg h, List.append_nil] at hK
    exact hK
  have hc : zV zbH o = 0 := by (try simp only [decide_eq_true_eq, decide_eq_false_iff_not, beq_iff_eq, beq_eq_false_iff_ne, bne_iff_ne, ne_eq, Bool.not_eq_true', Bool.not_eq_false', bne_eq_false_iff_eq] at *); omega
  obtain ⟨k0, k4, o0, o1, hon⟩ := zmj hc
  rw [if_pos hc] at hK
  have hkn := zo (n := o.kind.toNat) (by omega)
  have hon' := zo (n := o.offset.toNat) (by omega)
  have hrn := zo (n := o.recs.length) (by omega)
  have htp := zdN (x := o.topic) (by omega)
  have hgp := zdN (x := o.group) (by omega)
  (refine gq18 (u64_of k0 (by omega)) ?_; try with_reducible exact True.intro)
  refine zdi (by omega) (by omega) ?_
  have wo := u64_of o0 (by omega : o.offset < 9223372036854775808)
  have wl : IntKind.u64.wrap ((zby o.recs).length : Int) = (o.recs.length : Int) := by rw [zE]; exact zcT (by omega)
  have wl' : IntKind.u64.wrap (o.recs.length : Int) = (o.recs.length : Int) := zcT (by omega)
  repeat' first
    | (refine gq21 (zds wo (zds wl wl')) ?_; try with_reducible exact True.intro)
    | (refine zO (fun h => ?_) (fun h => ?_) <;> (try rw [h]))
    | ((with_reducible refine And.intro ?_ ?_); focus (first | omega | rfl | decide))
    | refine zfx (by omega) (by simp only [ziU, List.length_append] at *; omega) ?_
    | refine zdi (by omega) (by simp only [ziU, List.length_append] at *; omega) ?_
  -- the ways that end
  all_goals first
    | (exfalso; (try simp only [decide_eq_true_eq, decide_eq_false_iff_not, beq_iff_eq, beq_eq_false_iff_ne, bne_iff_ne, ne_eq, Bool.not_eq_true', Bool.not_eq_false', bne_eq_false_iff_eq] at *); omega)
    | (refine zbj hl ?_
       (try simp only [decide_eq_true_eq, decide_eq_false_iff_not, beq_iff_eq, beq_eq_false_iff_ne, bne_iff_ne, ne_eq, Bool.not_eq_true', Bool.not_eq_false', bne_eq_false_iff_eq] at *)
       simp only [zcE, dmT, dm, dm1]
       (first | rw [opB_0 (by omega)] at hK | rw [opB_1 (by omega)] at hK | rw [opB_3 (by omega)] at hK | rw [opB_4 (by omega)] at hK)
       exact hK)
    | skip
  -- the records
  have hk2 : o.kind = 2 := by (try simp only [decide_eq_true_eq, decide_eq_false_iff_not, beq_iff_eq, beq_eq_false_iff_ne, bne_iff_ne, ne_eq, Bool.not_eq_true', Bool.not_eq_false', bne_eq_false_iff_eq] at *); omega
  rw [opB_2 hk2] at hK
  refine zN o.recs.length (fun k vs s => ∃ t τ, vs = [.own t (bcs (b ++ (zbG o.kind.toNat ++ (zbG o.topic.length ++ (o.topic ++ (zbG o.recs.length ++ zdM (o.recs.take k))))))), .d (.int .i64 k)] ∧ s = σ ++ τ) ⟨σ.length + 4, _, by rw [List.take_zero, show zdM [] = [] from rfl, List.append_nil]; rfl, rfl⟩ ?_
  rintro k vs s hk ⟨t, τ, rfl, rfl⟩
  (refine gq9 ?_; try with_reducible exact True.intro)
  refine zO (fun h => ?_) (fun h => ?_)
  · have hka : k < o.recs.length := by (try simp only [decide_eq_true_eq, decide_eq_false_iff_not, beq_iff_eq, beq_eq_false_iff_ne, bne_iff_ne, ne_eq, Bool.not_eq_true', Bool.not_eq_false', bne_eq_false_iff_eq] at *); omega
    have hx : o.recs[k]? = some o.recs[k] := by simp [hka]
    have hle := rec_le (List.getElem_mem hka)
    have htl := zjf o.recs (by omega) k
    (refine gq18 (zeE hx) ?_; try with_reducible exact True.intro)
    refine And.intro (by omega) (zfx (by omega) (by simp only [ziU, List.length_append] at *; omega) ?_)
    (refine gq9 ?_; try with_reducible exact True.intro)
    refine zbJ.next hka ⟨σ.length + τ.length, _, ?_, rfl⟩
    rw [zaD (by omega) (by omega), recsB_snoc hx]
    simp only [ziU, List.append_assoc]
    rfl
  · have hke : k = o.recs.length := by (try simp only [decide_eq_true_eq, decide_eq_false_iff_not, beq_iff_eq, beq_eq_false_iff_ne, bne_iff_ne, ne_eq, Bool.not_eq_true', Bool.not_eq_false', bne_eq_false_iff_eq] at *); omega
    subst hke
    refine zbj hl ?_
    rw [List.take_length]
    exact hK

end Go.Proofs.YthpnelbciibjeaaGreat
