/- Contracts: an operation in memory of its own. -/
import Derived.Test.YtjjchfbckfopkaaGreatCl1
import Derived.Test.YtjjchfbckfopkaaGreatSpNum
import Derived.Test.YtjjchfbckfopkaaGreatSh
set_option linter.all false
set_option maxRecDepth 100000
set_option linter.unusedSimpArgs false
namespace Go.Proofs.YtjjchfbckfopkaaGreat
open Go.AW

theorem zhF {rs : List (List UInt8)} {k : Nat} {x : List UInt8} (h : rs[k]? = some x) : zcX (rs.take k) ++ [[D.slice (bcs x)]] = zcX (rs.take (k + 1)) := by
  rw [List.take_add_one, h]; simp [zcX]
theorem gqc2 {A B : Prop} (a : A) (b : B) : A ∧ B := ⟨a, b⟩
theorem gq28 {P Q : Prop} (h : Q) (e : P = Q := by simp -dsimp only [↓zek, ↓zar, ↓zbg, ↓zel, ↓zef, ↓zed, ↓zeg, ↓zee, ↓zbl, ↓zbh, ↓zbm, ↓zbi, ↓zeh, ↓zbe, ↓zbn, ↓zbj, ↓zbo, ↓zbk, ↓zec, ↓zej, ↓zbd, ↓zbp, ↓zdW, ↓zdV, ↓zea, iN, bT, bF, eN, ↓zci, ↓unC, ↓zS, ↓zE, ↓zF, ↓zJ, ↓zZ, ↓zaD, ↓zcj, ↓zab, ↓zbr, ↓zU, ↓zl, ↓zo, ↓zbz, ↓zg, ↓zad, ↓zI, ↓zaz, ↓zaJ, ↓zc, ↓zB, ↓zn, ↓zq, ↓zaj, ↓zcB, ↓zcE, ↓zah, ↓zao, ↓zaA, ↓zaO, ↓zaT, ↓zm, ↓zae, ↓zG, ↓zp, ↓zY, zcD, zaV, zaU, unA, zcK, bnd, zcZ, zaa, zag, zdh, dm, dm1, zM, zau, zdy, zdx, zT, Q0, Q1, Q2, Q3, Q4, Q5, zR, zi, zk, zu, zy, Q6, Q7, Q8, Q9, Q10, Q11, Q12, Q13, Q14, Nat.reduceAdd, Q15, Int.reduceToNat, Q16, Q17, Q18, Q19, Q20, reduceIte, Q21, Q22, zA, rep, zV, zdX, toD, zaf, Q23, Q24, Q25, Q26, Q27, Q28, Nat.reduceLeDiff, Q29, Nat.reduceSub, Q30, Q31, Q32, sc, Q33, Q34, Q35]; rfl) : P := e.mpr h
theorem gq29 {A P Q : Prop} (a : A) (h : Q) (e : A → P = Q := by intro a; simp -dsimp only [↓zek, ↓zar, ↓zbg, ↓zel, ↓zef, ↓zed, ↓zeg, ↓zee, ↓zbl, ↓zbh, ↓zbm, ↓zbi, ↓zeh, ↓zbe, ↓zbn, ↓zbj, ↓zbo, ↓zbk, ↓zec, ↓zej, ↓zbd, ↓zbp, ↓zdW, ↓zdV, ↓zea, iN, bT, bF, eN, ↓zci, ↓unC, ↓zS, ↓zE, ↓zF, ↓zJ, ↓zZ, ↓zaD, ↓zcj, ↓zab, ↓zbr, ↓zU, ↓zl, ↓zo, ↓zbz, ↓zg, ↓zad, ↓zI, ↓zaz, ↓zaJ, ↓zc, ↓zB, ↓zn, ↓zq, ↓zaj, ↓zcB, ↓zcE, ↓zah, ↓zao, ↓zaA, ↓zaO, ↓zaT, ↓zm, ↓zae, ↓zG, ↓zp, ↓zY, zcD, zaV, zaU, unA, zcK, bnd, zcZ, zaa, zag, zdh, dm, dm1, zM, zau, zdy, zdx, zT, Q0, Q1, Q2, Q3, Q4, Q5, zR, zi, zk, zu, zy, Q6, Q7, Q8, Q9, Q10, Q11, Q12, Q13, Q14, Nat.reduceAdd, Q15, Int.reduceToNat, Q16, Q17, Q18, Q19, Q20, reduceIte, Q21, Q22, zA, rep, zV, zdX, toD, zaf, Q23, Q24, Q25, Q26, Q27, Q28, Nat.reduceLeDiff, Q29, Nat.reduceSub, Q30, Q31, Q32, sc, Q33, Q34, Q35, a]; rfl) : P := (e a).mpr h
theorem gq30 {P Q : Prop} (h : Q) (e : P = Q := by simp -dsimp only [↓zek, ↓zar, ↓zbg, ↓zel, ↓zef, ↓zed, ↓zeg, ↓zee, ↓zbl, ↓zbh, ↓zbm, ↓zbi, ↓zeh, ↓zbe, ↓zbn, ↓zbj, ↓zbo, ↓zbk, ↓zec, ↓zej, ↓zbd, ↓zbp, ↓zdW, ↓zdV, ↓zea, iN, bT, bF, eN, ↓zci, ↓unC, ↓zS, ↓zE, ↓zF, ↓zJ, ↓zZ, ↓zaD, ↓zcj, ↓zab, ↓zbr, ↓zU, ↓zl, ↓zo, ↓zbz, ↓zg, ↓zad, ↓zI, ↓zaz, ↓zaJ, ↓zc, ↓zB, ↓zn, ↓zq, ↓zaj, ↓zcB, ↓zcE, ↓zah, ↓zao, ↓zaA, ↓zaO, ↓zaT, ↓zm, ↓zae, ↓zG, ↓zp, ↓zY, zcD, zaV, zaU, unA, zcK, bnd, zcZ, zaa, zag, zdh, dm, dm1, zM, zau, zdy, zdx, zT, Q0, Q1, Q2, Q3, Q4, Q5, zR, zi, zk, zu, zy, Q6, Q7, Q8, Q9, Q10, Q11, Q12, Q13, Q14, Nat.reduceAdd, Q15, Int.reduceToNat, Q16, Q17, Q18, Q19, Q20, reduceIte, Q21, Q22, zA, rep, zV, zdX, toD, zaf, Q23, Q24, Q25, Q26, Q27, Q28, Nat.reduceLeDiff, Q29, Nat.reduceSub, Q30, Q31, Q32, sc, Q33, Q34, Q35, Bool.and_false, Bool.and_self, Bool.false_and, Bool.not_false, Bool.not_true, Bool.true_and, Int.toNat_natCast, Int.toNat_zero, List.drop_zero, List.length_map, List.length_nil, List.nil_append, List.take_length, Nat.sub_zero, Nat.zero_add, Option.isSome_none, Option.isSome_some, Option.map_none, Option.map_some, zav, beq_self_eq_true, bne_self_eq_false]; rfl) : P := e.mpr h
theorem c_opClone {σ : List zb} {o : TOp} (hr : o.recs.length ≤ 1073741824) (hb : ∀ r ∈ o.recs, r.length ≤ 1073741824) {K : AV → List zb → Prop} (hK : K (opA o) σ) : zt Tryz.prog zkT [opA o] σ K := by
  refine ziC e_op_Clone fun hl => ?_
  simp only [zph, iN, bT, bF, eN, zl4, opA]
  (refine gq28 ?_; try with_reducible exact True.intro)
  refine zC o.recs.length (fun j vs q => ∃ l0 T, vs = [if j = 0 then .exact [] else .own (σ.length + 3) (zcX (o.recs.take j)), .d (.int .i64 j)] ∧ q = σ ++ ([.box [.d (.int .i64 o.kind), .d (.str o.topic), .d (.str o.group), .d (.int .i64 o.offset), .d (.slice (zcX o.recs))], .box [.d (.int .i64 0), .d (.str []), .d (.str []), .d (.int .i64 0), .exact []]] ++ (if j = 0 then [] else .tok 1 l0 :: .tok 1 (zcX (o.recs.take j)).length :: T))) ⟨0, [], rfl, rfl⟩ ?_
  rintro j vs q hj ⟨l0, T, rfl, rfl⟩
  by_cases hj0 : j = 0
  · subst hj0
    simp only [if_true]
    (refine gq28 ?_; try with_reducible exact True.intro)
    refine zL (fun h => ?_) (fun h => ?_)
    · have hlt : 0 < o.recs.length := by simp at h; omega
      have hx : o.recs[0]? = some o.recs[0] := by simp [hlt]
      have hbx := hb _ (List.getElem_mem hlt)
      (refine gq29 (gqc2 (show ((0 : Nat) : Int) = 0 from rfl) (zdc hx)) ?_; try with_reducible exact True.intro)
      refine ⟨by omega, zcT zex (by rw [zav]; omega) ?_⟩
      (refine gq30 ?_; try with_reducible exact True.intro)
      refine ⟨by simp, by simp, by simp, ?_⟩
      refine zaQ.next hlt ⟨o.recs[0].length, [], ?_, ?_⟩
      · rw [if_neg (by omega), ← zhF hx]; rfl
      · rw [if_neg (by omega), show (List.take (0 + 1) o.recs).length = 1 by rw [List.length_take]; omega]
    · have hn : o.recs = [] := by simp at h; exact h
      try (refine gq28 ?_; try with_reducible exact True.intro)
      refine zam hl ?_
      rw [opA, hn] at hK
      exact hK
  · simp only [if_neg hj0]
    have hlj : (o.recs.take j).length = j := by rw [List.length_take]; omega
    (refine gq28 ?_; try with_reducible exact True.intro)
    refine zL (fun h => ?_) (fun h => ?_)
    · have hlt : j < o.recs.length := by simp at h; omega
      have hx : o.recs[j]? = some o.recs[j] := by simp [hlt]
      have hbx := hb _ (List.getElem_mem hlt)
      (refine gq29 (zdc hx) ?_; try with_reducible exact True.intro)
      refine ⟨by omega, zcT zex (by rw [zav]; omega) ?_⟩
      (refine gq30 ?_; try with_reducible exact True.intro)
      refine ⟨by simp, by omega, ?_⟩
      refine zaQ.next hlt ⟨l0, T ++ [.tok 1 o.recs[j].length], ?_, ?_⟩
      · rw [if_neg (by omega), ← zhF hx, show (j : Int) + 1 = ((j + 1 : Nat) : Int) by omega, zap (by omega) (by omega)]
      · rw [if_neg (by omega)]
        simp only [zA, List.length_take, zav, List.cons_append]
        rw [show min j o.recs.length + 1 = min (j + 1) o.recs.length by omega]
    · have hn : j = o.recs.length := by simp at h; omega
      subst hn
      (refine gq30 ?_; try with_reducible exact True.intro)
      refine zam hl ?_
      exact hK

theorem gqc3 {A B : Prop} (a : A) (b : B) : A ∧ B := ⟨a, b⟩
theorem gq31 {P Q : Prop} (h : Q) (e : P = Q := by simp -dsimp only [↓zek, ↓zar, ↓zbg, ↓zel, ↓zef, ↓zed, ↓zeg, ↓zee, ↓zbl, ↓zbh, ↓zbm, ↓zbi, ↓zeh, ↓zbe, ↓zbn, ↓zbj, ↓zbo, ↓zbk, ↓zec, ↓zej, ↓zbd, ↓zbp, ↓zdW, ↓zdV, ↓zea, iN, bT, bF, eN, ↓zci, ↓unC, ↓zS, ↓zE, ↓zF, ↓zJ, ↓zZ, ↓zaD, ↓zcj, ↓zab, ↓zbr, ↓zU, ↓zl, ↓zo, ↓zbz, ↓zg, ↓zad, ↓zI, ↓zaz, ↓zaJ, ↓zc, ↓zB, ↓zn, ↓zq, ↓zaj, ↓zcB, ↓zcE, ↓zah, ↓zao, ↓zaA, ↓zaO, ↓zaT, ↓zm, ↓zae, ↓zG, ↓zp, ↓zY, zcD, zaV, zaU, unA, zcK, bnd, zcZ, zaa, zag, zdh, dm, dm1, zM, zau, zdy, zdx, zT, Q0, Q1, Q2, Q3, Q4, Q5, zR, zi, zk, zu, zy, Q6, Q7, Q8, Q9, Q10, Q11, Q12, Q13, Q14, Nat.reduceAdd, Q15, Int.reduceToNat, Q16, Q17, Q18, Q19, Q20, reduceIte, Q21, Q22, zA, rep, zV, zdX, toD, zaf, Q23, Q24, Q25, Q26, Q27, Q28, Nat.reduceLeDiff, Q29, Nat.reduceSub, Q30, Q31, Q32, sc, Q33, Q34, Q35]; rfl) : P := e.mpr h
theorem gq32 {A P Q : Prop} (a : A) (h : Q) (e : A → P = Q := by intro a; simp -dsimp only [↓zek, ↓zar, ↓zbg, ↓zel, ↓zef, ↓zed, ↓zeg, ↓zee, ↓zbl, ↓zbh, ↓zbm, ↓zbi, ↓zeh, ↓zbe, ↓zbn, ↓zbj, ↓zbo, ↓zbk, ↓zec, ↓zej, ↓zbd, ↓zbp, ↓zdW, ↓zdV, ↓zea, iN, bT, bF, eN, ↓zci, ↓unC, ↓zS, ↓zE, ↓zF, ↓zJ, ↓zZ, ↓zaD, ↓zcj, ↓zab, ↓zbr, ↓zU, ↓zl, ↓zo, ↓zbz, ↓zg, ↓zad, ↓zI, ↓zaz, ↓zaJ, ↓zc, ↓zB, ↓zn, ↓zq, ↓zaj, ↓zcB, ↓zcE, ↓zah, ↓zao, ↓zaA, ↓zaO, ↓zaT, ↓zm, ↓zae, ↓zG, ↓zp, ↓zY, zcD, zaV, zaU, unA, zcK, bnd, zcZ, zaa, zag, zdh, dm, dm1, zM, zau, zdy, zdx, zT, Q0, Q1, Q2, Q3, Q4, Q5, zR, zi, zk, zu, zy, Q6, Q7, Q8, Q9, Q10, Q11, Q12, Q13, Q14, Nat.reduceAdd, Q15, Int.reduceToNat, Q16, Q17, Q18, Q19, Q20, reduceIte, Q21, Q22, zA, rep, zV, zdX, toD, zaf, Q23, Q24, Q25, Q26, Q27, Q28, Nat.reduceLeDiff, Q29, Nat.reduceSub, Q30, Q31, Q32, sc, Q33, Q34, Q35, Bool.and_false, Bool.and_self, Bool.false_and, Bool.not_false, Bool.not_true, Bool.true_and, Int.toNat_natCast, Int.toNat_zero, List.drop_zero, List.length_map, List.length_nil, List.nil_append, List.take_length, Nat.sub_zero, Nat.zero_add, Option.isSome_none, Option.isSome_some, Option.map_none, Option.map_some, zav, beq_self_eq_true, bne_self_eq_false, zfz, zcL, zcU, zaA, mgetR, zaO, a]; rfl) : P := (e a).mpr h
theorem c_rSame {σ : List zb} {a b : TOp} (ha : a.recs.length ≤ 1073741824) (hb : b.recs.length ≤ 1073741824) {K : AV → List zb → Prop} (hK : K (.d (.bool (decide (a = b)))) σ) : zt Tryz.prog zkQ [opA a, opA b] σ K := by
  refine zhh e_r06_Same fun hl => ?_
  have fin : ∀ z : Bool, decide (a = b) = z → K (.d (.bool z)) σ := fun z hz => by rw [← hz]; exact hK
  have hab : a = b ↔ a.kind = b.kind ∧ a.topic = b.topic ∧ a.group = b.group ∧ a.offset = b.offset ∧ a.recs = b.recs := by cases a; cases b; simp
  clear hK
  simp only [zpd, iN, bT, bF, eN, opA]
  (repeat' (first | (refine gq31 ?_; try with_reducible exact True.intro) | (refine zL (fun h => ?_) (fun h => ?_) <;> (try rw [h])) | ((with_reducible refine And.intro ?_ ?_); focus (first | omega | rfl | decide))))
  all_goals first
    | (refine zam hl ?_
       (try simp only [decide_eq_true_eq, decide_eq_false_iff_not, beq_iff_eq, beq_eq_false_iff_ne, bne_iff_ne, ne_eq, Bool.not_eq_true', Bool.not_eq_false', bne_eq_false_iff_eq] at *)
       simp only [zck, dmT, dm, dm1]
       apply fin
       grind)
    | skip
  -- the records
  have hl2 : a.recs.length = b.recs.length := by (try simp only [decide_eq_true_eq, decide_eq_false_iff_not, beq_iff_eq, beq_eq_false_iff_ne, bne_iff_ne, ne_eq, Bool.not_eq_true', Bool.not_eq_false', bne_eq_false_iff_eq] at *); omega
  refine zC a.recs.length (fun k vs s => vs = [.d (.int .i64 k)] ∧ s = σ ++ [.box [.d (.int .i64 a.kind), .d (.str a.topic), .d (.str a.group), .d (.int .i64 a.offset), .d (.slice (zcX a.recs))], .box [.d (.int .i64 b.kind), .d (.str b.topic), .d (.str b.group), .d (.int .i64 b.offset), .d (.slice (zcX b.recs))]] ∧ a.recs.take k = b.recs.take k) ⟨rfl, rfl, by simp⟩ ?_
  rintro k vs s hk ⟨rfl, rfl, htk⟩
  (refine gq31 ?_; try with_reducible exact True.intro)
  refine zL (fun h => ?_) (fun h => ?_)
  · have hka : k < a.recs.length := by (try simp only [decide_eq_true_eq, decide_eq_false_iff_not, beq_iff_eq, beq_eq_false_iff_ne, bne_iff_ne, ne_eq, Bool.not_eq_true', Bool.not_eq_false', bne_eq_false_iff_eq] at *); omega
    have hx : a.recs[k]? = some a.recs[k] := by simp [hka]
    have hy : b.recs[k]? = some (b.recs[k]'(by omega)) := List.getElem?_eq_getElem _
    (refine gq32 (gqc3 (zdc hx) (zdc hy)) ?_; try with_reducible exact True.intro)
    refine And.intro (by omega) (And.intro (by omega) ?_)
    refine zL (fun h => ?_) (fun h => ?_)
    · (refine gq31 ?_; try with_reducible exact True.intro)
      refine zaQ.next hka ⟨?_, rfl, zeB hx hy htk (by simpa using h)⟩
      rw [zap (by omega) (by omega)]; rfl
    · refine zam hl ?_
      simp only [zck, dmT, dm, dm1]
      apply fin
      rw [decide_eq_false_iff_not]
      rintro rfl
      simp at h
  · refine zam hl ?_
    simp only [zck, dmT, dm, dm1]
    have : a.recs = b.recs := zkI hl2 (k := k) (by (try simp only [decide_eq_true_eq, decide_eq_false_iff_not, beq_iff_eq, beq_eq_false_iff_ne, bne_iff_ne, ne_eq, Bool.not_eq_true', Bool.not_eq_false', bne_eq_false_iff_eq] at *); omega) htk
    apply fin
    (try simp only [decide_eq_true_eq, decide_eq_false_iff_not, beq_iff_eq, beq_eq_false_iff_ne, bne_iff_ne, ne_eq, Bool.not_eq_true', Bool.not_eq_false', bne_eq_false_iff_eq] at *)
    grind

end Go.Proofs.YtjjchfbckfopkaaGreat
