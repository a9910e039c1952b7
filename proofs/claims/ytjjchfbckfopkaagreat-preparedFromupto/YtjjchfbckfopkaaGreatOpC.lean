/- Contracts: an operation in memory of its own. -/
import Derived.Test.YtjjchfbckfopkaaGreatCl1
import Derived.Test.YtjjchfbckfopkaaGreatSpNum
import Derived.Test.YtjjchfbckfopkaaGreatSh
set_option linter.all false
set_option maxRecDepth 100000
set_option linter.unusedSimpArgs false
namespace Go.Proofs.YtjjchfbckfopkaaGreat
open Go.AW

theorem zhp {rs : List (List UInt8)} {k : Nat} {x : List UInt8} (h : rs[k]? = some x) : zcQ (rs.take k) ++ [[D.slice (bcs x)]] = zcQ (rs.take (k + 1)) := by
  rw [List.take_add_one, h]; simp [zcQ]
theorem gqc2 {A B : Prop} (a : A) (b : B) : A ∧ B := ⟨a, b⟩
theorem gq28 {P Q : Prop} (h : Q) (e : P = Q := by simp -dsimp only [↓zex, ↓zav, ↓zbj, ↓zey, ↓zer, ↓zep, ↓zes, ↓zeq, ↓zbo, ↓zbk, ↓zbp, ↓zbl, ↓zet, ↓zbh, ↓zbq, ↓zbm, ↓zbr, ↓zbn, ↓zem, ↓zew, ↓zbg, ↓zbt, ↓zeh, ↓zeg, ↓zel, iN, bT, bF, eN, ↓zcm, ↓unC, ↓zU, ↓zE, ↓zF, ↓zK, ↓zab, ↓zaA, ↓zct, ↓zY, ↓zbd, ↓zX, ↓zj, ↓zq, ↓zbI, ↓zf, ↓zac, ↓zJ, ↓zaB, ↓zaK, ↓zd, ↓zD, ↓zn, ↓zr, ↓zal, ↓zcE, ↓zcM, ↓zak, ↓zas, ↓zaG, ↓zaM, ↓zaS, ↓zl, ↓zae, ↓zG, ↓zo, ↓zZ, zcK, zbc, zba, unA, zcS, bnd, zdq, zaa, zai, zdr, dm, dm1, zP, zaC, zdL, zdK, zT, Q0, Q1, Q2, Q3, Q4, Q5, zS, zh, zm, zw, zA, Q6, Q7, Q8, Q9, Q10, Q11, Q12, Q13, Q14, Nat.reduceAdd, Q15, Int.reduceToNat, Q16, Q17, Q18, Q19, Q20, reduceIte, Q21, Q22, zx, rep, zV, zei, toD, zaf, Q23, Q24, Q25, Q26, Q27, Q28, Nat.reduceLeDiff, Q29, Nat.reduceSub, Q30, Q31, Q32, sc, Q33, Q34, Q35]; rfl) : P := e.mpr h
theorem gq29 {A P Q : Prop} (a : A) (h : Q) (e : A → P = Q := by intro a; simp -dsimp only [↓zex, ↓zav, ↓zbj, ↓zey, ↓zer, ↓zep, ↓zes, ↓zeq, ↓zbo, ↓zbk, ↓zbp, ↓zbl, ↓zet, ↓zbh, ↓zbq, ↓zbm, ↓zbr, ↓zbn, ↓zem, ↓zew, ↓zbg, ↓zbt, ↓zeh, ↓zeg, ↓zel, iN, bT, bF, eN, ↓zcm, ↓unC, ↓zU, ↓zE, ↓zF, ↓zK, ↓zab, ↓zaA, ↓zct, ↓zY, ↓zbd, ↓zX, ↓zj, ↓zq, ↓zbI, ↓zf, ↓zac, ↓zJ, ↓zaB, ↓zaK, ↓zd, ↓zD, ↓zn, ↓zr, ↓zal, ↓zcE, ↓zcM, ↓zak, ↓zas, ↓zaG, ↓zaM, ↓zaS, ↓zl, ↓zae, ↓zG, ↓zo, ↓zZ, zcK, zbc, zba, unA, zcS, bnd, zdq, zaa, zai, zdr, dm, dm1, zP, zaC, zdL, zdK, zT, Q0, Q1, Q2, Q3, Q4, Q5, zS, zh, zm, zw, zA, Q6, Q7, Q8, Q9, Q10, Q11, Q12, Q13, Q14, Nat.reduceAdd, Q15, Int.reduceToNat, Q16, Q17, Q18, Q19, Q20, reduceIte, Q21, Q22, zx, rep, zV, zei, toD, zaf, Q23, Q24, Q25, Q26, Q27, Q28, Nat.reduceLeDiff, Q29, Nat.reduceSub, Q30, Q31, Q32, sc, Q33, Q34, Q35, a]; rfl) : P := (e a).mpr h
theorem gq30 {P Q : Prop} (h : Q) (e : P = Q := by simp -dsimp only [↓zex, ↓zav, ↓zbj, ↓zey, ↓zer, ↓zep, ↓zes, ↓zeq, ↓zbo, ↓zbk, ↓zbp, ↓zbl, ↓zet, ↓zbh, ↓zbq, ↓zbm, ↓zbr, ↓zbn, ↓zem, ↓zew, ↓zbg, ↓zbt, ↓zeh, ↓zeg, ↓zel, iN, bT, bF, eN, ↓zcm, ↓unC, ↓zU, ↓zE, ↓zF, ↓zK, ↓zab, ↓zaA, ↓zct, ↓zY, ↓zbd, ↓zX, ↓zj, ↓zq, ↓zbI, ↓zf, ↓zac, ↓zJ, ↓zaB, ↓zaK, ↓zd, ↓zD, ↓zn, ↓zr, ↓zal, ↓zcE, ↓zcM, ↓zak, ↓zas, ↓zaG, ↓zaM, ↓zaS, ↓zl, ↓zae, ↓zG, ↓zo, ↓zZ, zcK, zbc, zba, unA, zcS, bnd, zdq, zaa, zai, zdr, dm, dm1, zP, zaC, zdL, zdK, zT, Q0, Q1, Q2, Q3, Q4, Q5, zS, zh, zm, zw, zA, Q6, Q7, Q8, Q9, Q10, Q11, Q12, Q13, Q14, Nat.reduceAdd, Q15, Int.reduceToNat, Q16, Q17, Q18, Q19, Q20, reduceIte, Q21, Q22, zx, rep, zV, zei, toD, zaf, Q23, Q24, Q25, Q26, Q27, Q28, Nat.reduceLeDiff, Q29, Nat.reduceSub, Q30, Q31, Q32, sc, Q33, Q34, Q35, Bool.and_false, Bool.and_self, Bool.false_and, Bool.not_false, Bool.not_true, Bool.true_and, Int.toNat_natCast, Int.toNat_zero, List.drop_zero, List.length_map, List.length_nil, List.nil_append, List.take_length, Nat.sub_zero, Nat.zero_add, Option.isSome_none, Option.isSome_some, Option.map_none, Option.map_some, zaq, beq_self_eq_true, bne_self_eq_false]; rfl) : P := e.mpr h
theorem c_opClone {σ : List zb} {o : TOp} (hr : o.recs.length ≤ 1073741824) (hb : ∀ r ∈ o.recs, r.length ≤ 1073741824) {K : AV → List zb → Prop} (hK : K (opA o) σ) : zp Tryz.prog zkt [opA o] σ K := by
  refine zil e_op_Clone fun hl => ?_
  simp only [zoS, iN, bT, bF, eN, zl3, opA]
  (refine gq28 ?_; try with_reducible exact True.intro)
  refine zB o.recs.length (fun j vs q => ∃ l0 T, vs = [if j = 0 then .exact [] else .own (σ.length + 3) (zcQ (o.recs.take j)), .d (.int .i64 j)] ∧ q = σ ++ ([.box [.d (.int .i64 o.kind), .d (.str o.topic), .d (.str o.group), .d (.int .i64 o.offset), .d (.slice (zcQ o.recs))], .box [.d (.int .i64 0), .d (.str []), .d (.str []), .d (.int .i64 0), .exact []]] ++ (if j = 0 then [] else .tok 1 l0 :: .tok 1 (zcQ (o.recs.take j)).length :: T))) ⟨0, [], rfl, rfl⟩ ?_
  rintro j vs q hj ⟨l0, T, rfl, rfl⟩
  by_cases hj0 : j = 0
  · subst hj0
    simp only [if_true]
    (refine gq28 ?_; try with_reducible exact True.intro)
    refine zI (fun h => ?_) (fun h => ?_)
    · have hlt : 0 < o.recs.length := by simp at h; omega
      have hx : o.recs[0]? = some o.recs[0] := by simp [hlt]
      have hbx := hb _ (List.getElem_mem hlt)
      (refine gq29 (gqc2 (show ((0 : Nat) : Int) = 0 from rfl) (zcU hx)) ?_; try with_reducible exact True.intro)
      refine ⟨by omega, zcJ zeb (by rw [zaq]; omega) ?_⟩
      (refine gq30 ?_; try with_reducible exact True.intro)
      refine ⟨by simp, by simp, by simp, ?_⟩
      refine zaP.next hlt ⟨o.recs[0].length, [], ?_, ?_⟩
      · rw [if_neg (by omega), ← zhp hx]; rfl
      · rw [if_neg (by omega), show (List.take (0 + 1) o.recs).length = 1 by rw [List.length_take]; omega]
    · have hn : o.recs = [] := by simp at h; exact h
      try (refine gq28 ?_; try with_reducible exact True.intro)
      refine zad hl ?_
      rw [opA, hn] at hK
      exact hK
  · simp only [if_neg hj0]
    have hlj : (o.recs.take j).length = j := by rw [List.length_take]; omega
    (refine gq28 ?_; try with_reducible exact True.intro)
    refine zI (fun h => ?_) (fun h => ?_)
    · have hlt : j < o.recs.length := by simp at h; omega
      have hx : o.recs[j]? = some o.recs[j] := by simp [hlt]
      have hbx := hb _ (List.getElem_mem hlt)
      (refine gq29 (zcU hx) ?_; try with_reducible exact True.intro)
      refine ⟨by omega, zcJ zeb (by rw [zaq]; omega) ?_⟩
      (refine gq30 ?_; try with_reducible exact True.intro)
      refine ⟨by simp, by omega, ?_⟩
      refine zaP.next hlt ⟨l0, T ++ [.tok 1 o.recs[j].length], ?_, ?_⟩
      · rw [if_neg (by omega), ← zhp hx, show (j : Int) + 1 = ((j + 1 : Nat) : Int) by omega, zan (by omega) (by omega)]
      · rw [if_neg (by omega)]
        simp only [zx, List.length_take, zaq, List.cons_append]
        rw [show min j o.recs.length + 1 = min (j + 1) o.recs.length by omega]
    · have hn : j = o.recs.length := by simp at h; omega
      subst hn
      (refine gq30 ?_; try with_reducible exact True.intro)
      refine zad hl ?_
      exact hK

theorem gqc3 {A B : Prop} (a : A) (b : B) : A ∧ B := ⟨a, b⟩
theorem gq31 {P Q : Prop} (h : Q) (e : P = Q := by simp -dsimp only [↓zex, ↓zav, ↓zbj, ↓zey, ↓zer, ↓zep, ↓zes, ↓zeq, ↓zbo, ↓zbk, ↓zbp, ↓zbl, ↓zet, ↓zbh, ↓zbq, ↓zbm, ↓zbr, ↓zbn, ↓zem, ↓zew, ↓zbg, ↓zbt, ↓zeh, ↓zeg, ↓zel, iN, bT, bF, eN, ↓zcm, ↓unC, ↓zU, ↓zE, ↓zF, ↓zK, ↓zab, ↓zaA, ↓zct, ↓zY, ↓zbd, ↓zX, ↓zj, ↓zq, ↓zbI, ↓zf, ↓zac, ↓zJ, ↓zaB, ↓zaK, ↓zd, ↓zD, ↓zn, ↓zr, ↓zal, ↓zcE, ↓zcM, ↓zak, ↓zas, ↓zaG, ↓zaM, ↓zaS, ↓zl, ↓zae, ↓zG, ↓zo, ↓zZ, zcK, zbc, zba, unA, zcS, bnd, zdq, zaa, zai, zdr, dm, dm1, zP, zaC, zdL, zdK, zT, Q0, Q1, Q2, Q3, Q4, Q5, zS, zh, zm, zw, zA, Q6, Q7, Q8, Q9, Q10, Q11, Q12, Q13, Q14, Nat.reduceAdd, Q15, Int.reduceToNat, Q16, Q17, Q18, Q19, Q20, reduceIte, Q21, Q22, zx, rep, zV, zei, toD, zaf, Q23, Q24, Q25, Q26, Q27, Q28, Nat.reduceLeDiff, Q29, Nat.reduceSub, Q30, Q31, Q32, sc, Q33, Q34, Q35]; rfl) : P := e.mpr h
theorem gq32 {A P Q : Prop} (a : A) (h : Q) (e : A → P = Q := by intro a; simp -dsimp only [↓zex, ↓zav, ↓zbj, ↓zey, ↓zer, ↓zep, ↓zes, ↓zeq, ↓zbo, ↓zbk, ↓zbp, ↓zbl, ↓zet, ↓zbh, ↓zbq, ↓zbm, ↓zbr, ↓zbn, ↓zem, ↓zew, ↓zbg, ↓zbt, ↓zeh, ↓zeg, ↓zel, iN, bT, bF, eN, ↓zcm, ↓unC, ↓zU, ↓zE, ↓zF, ↓zK, ↓zab, ↓zaA, ↓zct, ↓zY, ↓zbd, ↓zX, ↓zj, ↓zq, ↓zbI, ↓zf, ↓zac, ↓zJ, ↓zaB, ↓zaK, ↓zd, ↓zD, ↓zn, ↓zr, ↓zal, ↓zcE, ↓zcM, ↓zak, ↓zas, ↓zaG, ↓zaM, ↓zaS, ↓zl, ↓zae, ↓zG, ↓zo, ↓zZ, zcK, zbc, zba, unA, zcS, bnd, zdq, zaa, zai, zdr, dm, dm1, zP, zaC, zdL, zdK, zT, Q0, Q1, Q2, Q3, Q4, Q5, zS, zh, zm, zw, zA, Q6, Q7, Q8, Q9, Q10, Q11, Q12, Q13, Q14, Nat.reduceAdd, Q15, Int.reduceToNat, Q16, Q17, Q18, Q19, Q20, reduceIte, Q21, Q22, zx, rep, zV, zei, toD, zaf, Q23, Q24, Q25, Q26, Q27, Q28, Nat.reduceLeDiff, Q29, Nat.reduceSub, Q30, Q31, Q32, sc, Q33, Q34, Q35, Bool.and_false, Bool.and_self, Bool.false_and, Bool.not_false, Bool.not_true, Bool.true_and, Int.toNat_natCast, Int.toNat_zero, List.drop_zero, List.length_map, List.length_nil, List.nil_append, List.take_length, Nat.sub_zero, Nat.zero_add, Option.isSome_none, Option.isSome_some, Option.map_none, Option.map_some, zaq, beq_self_eq_true, bne_self_eq_false, zfp, zcB, zdp, zaG, mgetR, zaM, a]; rfl) : P := (e a).mpr h
theorem c_rSame {σ : List zb} {a b : TOp} (ha : a.recs.length ≤ 1073741824) (hb : b.recs.length ≤ 1073741824) {K : AV → List zb → Prop} (hK : K (.d (.bool (decide (a = b)))) σ) : zp Tryz.prog zkq [opA a, opA b] σ K := by
  refine zgK e_r06_Same fun hl => ?_
  have fin : ∀ z : Bool, decide (a = b) = z → K (.d (.bool z)) σ := fun z hz => by rw [← hz]; exact hK
  have hab : a = b ↔ a.kind = b.kind ∧ a.topic = b.topic ∧ a.group = b.group ∧ a.offset = b.offset ∧ a.recs = b.recs := by cases a; cases b; simp
  clear hK
  simp only [zoO, iN, bT, bF, eN, opA]
  (repeat' (first | (refine gq31 ?_; try with_reducible exact True.intro) | (refine zI (fun h => ?_) (fun h => ?_) <;> (try rw [h])) | ((with_reducible refine And.intro ?_ ?_); focus (first | omega | rfl | decide))))
  all_goals first
    | (refine zad hl ?_
       (try simp only [decide_eq_true_eq, decide_eq_false_iff_not, beq_iff_eq, beq_eq_false_iff_ne, bne_iff_ne, ne_eq, Bool.not_eq_true', Bool.not_eq_false', bne_eq_false_iff_eq] at *)
       simp only [zcf, dmT, dm, dm1]
       apply fin
       grind)
    | skip
  -- the records
  have hl2 : a.recs.length = b.recs.length := by (try simp only [decide_eq_true_eq, decide_eq_false_iff_not, beq_iff_eq, beq_eq_false_iff_ne, bne_iff_ne, ne_eq, Bool.not_eq_true', Bool.not_eq_false', bne_eq_false_iff_eq] at *); omega
  refine zB a.recs.length (fun k vs s => vs = [.d (.int .i64 k)] ∧ s = σ ++ [.box [.d (.int .i64 a.kind), .d (.str a.topic), .d (.str a.group), .d (.int .i64 a.offset), .d (.slice (zcQ a.recs))], .box [.d (.int .i64 b.kind), .d (.str b.topic), .d (.str b.group), .d (.int .i64 b.offset), .d (.slice (zcQ b.recs))]] ∧ a.recs.take k = b.recs.take k) ⟨rfl, rfl, by simp⟩ ?_
  rintro k vs s hk ⟨rfl, rfl, htk⟩
  (refine gq31 ?_; try with_reducible exact True.intro)
  refine zI (fun h => ?_) (fun h => ?_)
  · have hka : k < a.recs.length := by (try simp only [decide_eq_true_eq, decide_eq_false_iff_not, beq_iff_eq, beq_eq_false_iff_ne, bne_iff_ne, ne_eq, Bool.not_eq_true', Bool.not_eq_false', bne_eq_false_iff_eq] at *); omega
    have hx : a.recs[k]? = some a.recs[k] := by simp [hka]
    have hy : b.recs[k]? = some (b.recs[k]'(by omega)) := List.getElem?_eq_getElem _
    (refine gq32 (gqc3 (zcU hx) (zcU hy)) ?_; try with_reducible exact True.intro)
    refine And.intro (by omega) (And.intro (by omega) ?_)
    refine zI (fun h => ?_) (fun h => ?_)
    · (refine gq31 ?_; try with_reducible exact True.intro)
      refine zaP.next hka ⟨?_, rfl, zcx hx hy htk (by simpa using h)⟩
      rw [zan (by omega) (by omega)]; rfl
    · refine zad hl ?_
      simp only [zcf, dmT, dm, dm1]
      apply fin
      rw [decide_eq_false_iff_not]
      rintro rfl
      simp at h
  · refine zad hl ?_
    simp only [zcf, dmT, dm, dm1]
    have : a.recs = b.recs := zfX hl2 (k := k) (by (try simp only [decide_eq_true_eq, decide_eq_false_iff_not, beq_iff_eq, beq_eq_false_iff_ne, bne_iff_ne, ne_eq, Bool.not_eq_true', Bool.not_eq_false', bne_eq_false_iff_eq] at *); omega) htk
    apply fin
    (try simp only [decide_eq_true_eq, decide_eq_false_iff_not, beq_iff_eq, beq_eq_false_iff_ne, bne_iff_ne, ne_eq, Bool.not_eq_true', Bool.not_eq_false', bne_eq_false_iff_eq] at *)
    grind

end Go.Proofs.YtjjchfbckfopkaaGreat
