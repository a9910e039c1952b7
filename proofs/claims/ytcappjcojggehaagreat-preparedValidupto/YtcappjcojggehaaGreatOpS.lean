/- Contracts: which operations are the same, by the reference. -/
import Derived.Test.YtcappjcojggehaaGreatSh
import Derived.Test.YtcappjcojggehaaGreatSpNum
import Derived.Test.YtcappjcojggehaaGreatOpC
set_option linter.all false

set_option maxRecDepth 100000
set_option linter.unusedSimpArgs false
namespace Go.Proofs.YtcappjcojggehaaGreat
open Go.AW

end Go.Proofs.YtcappjcojggehaaGreat

/- Contracts: batches: in memory of their own; which are the same, by the reference. -/
set_option maxRecDepth 100000
set_option linter.unusedSimpArgs false
namespace Go.Proofs.YtcappjcojggehaaGreat
open Go.AW

def smallB (b : List zf) : Prop := b.length ≤ 1073741824 ∧ ∀ x ∈ b, x.op.recs.length ≤ 1073741824 ∧ ∀ r ∈ x.op.recs, r.length ≤ 1073741824
theorem gq37 {A P Q : Prop} (a : A) (h : Q) (e : A → P = Q := by intro a; simp -dsimp only [↓zcS, ↓zal, ↓zaI, ↓zcT, ↓zcN, ↓zcL, ↓zcO, ↓zcM, ↓zaN, ↓zaJ, ↓zaO, ↓zaK, ↓zcP, ↓zaH, ↓zaP, ↓zaL, ↓zaQ, ↓zaM, ↓zcK, ↓zcQ, ↓zaG, ↓zaR, ↓zcH, ↓zcG, ↓zcJ, iN, bT, bF, eN, ↓zbI, ↓unC, ↓zJ, ↓zx, ↓zy, ↓zC, ↓zQ, ↓zaA, ↓zbD, ↓zaa, ↓zbg, ↓zU, ↓zl, ↓zu, ↓zba, ↓ze, ↓zY, ↓zH, ↓zap, ↓zaw, ↓zc, ↓zD, ↓zj, ↓zo, ↓zad, ↓zbM, ↓zbX, ↓zaf, ↓zaj, ↓zar, ↓zax, ↓zaC, ↓zh, ↓zZ, ↓zB, ↓zk, ↓zO, zbS, zaF, zaD, unA, zcd, bnd, zcp, zT, zag, zcs, dm, dm1, zN, zaq, zcv, zcu, zL, Q0, Q1, Q2, Q3, Q4, Q5, zI, zg, zr, zt, zw, Q6, Q7, Q8, Q9, Q10, Q11, Q12, Q13, Q14, Nat.reduceAdd, Q15, Int.reduceToNat, Q16, Q17, Q18, Q19, Q20, reduceIte, Q21, Q22, zq, rep, zP, zcI, toD, zae, Q23, Q24, Q25, Q26, Q27, Q28, Nat.reduceLeDiff, Q29, Nat.reduceSub, Q30, Q31, Q32, sc, Q33, Q34, Q35, zbo, a]; rfl) : P := (e a).mpr h
theorem gq38 {P Q : Prop} (h : Q) (e : P = Q := by simp -dsimp only [↓zcS, ↓zal, ↓zaI, ↓zcT, ↓zcN, ↓zcL, ↓zcO, ↓zcM, ↓zaN, ↓zaJ, ↓zaO, ↓zaK, ↓zcP, ↓zaH, ↓zaP, ↓zaL, ↓zaQ, ↓zaM, ↓zcK, ↓zcQ, ↓zaG, ↓zaR, ↓zcH, ↓zcG, ↓zcJ, iN, bT, bF, eN, ↓zbI, ↓unC, ↓zJ, ↓zx, ↓zy, ↓zC, ↓zQ, ↓zaA, ↓zbD, ↓zaa, ↓zbg, ↓zU, ↓zl, ↓zu, ↓zba, ↓ze, ↓zY, ↓zH, ↓zap, ↓zaw, ↓zc, ↓zD, ↓zj, ↓zo, ↓zad, ↓zbM, ↓zbX, ↓zaf, ↓zaj, ↓zar, ↓zax, ↓zaC, ↓zh, ↓zZ, ↓zB, ↓zk, ↓zO, zbS, zaF, zaD, unA, zcd, bnd, zcp, zT, zag, zcs, dm, dm1, zN, zaq, zcv, zcu, zL, Q0, Q1, Q2, Q3, Q4, Q5, zI, zg, zr, zt, zw, Q6, Q7, Q8, Q9, Q10, Q11, Q12, Q13, Q14, Nat.reduceAdd, Q15, Int.reduceToNat, Q16, Q17, Q18, Q19, Q20, reduceIte, Q21, Q22, zq, rep, zP, zcI, toD, zae, Q23, Q24, Q25, Q26, Q27, Q28, Nat.reduceLeDiff, Q29, Nat.reduceSub, Q30, Q31, Q32, sc, Q33, Q34, Q35, opA]; rfl) : P := e.mpr h
theorem c_rqClone {σ : List zb} {b : List zf} (hb : smallB b) {K : AV → List zb → Prop} (hK : K (.d (.slice (zbu b))) σ) : zK Tryz.prog zeD [.d (.slice (zbu b))] σ K := by
  refine zi zhH.is rfl fun hl _ => zhH.goes ?_
  simp only [zhU, iN, bT, bF, eN]
  (refine gq33 ?_; try with_reducible exact True.intro)
  refine zX b.length (fun j vs q => ∃ B T, vs = [if j = 0 then .exact [] else .own (σ.length + 1) (zbu (b.take j)), .d (.int .i64 j)] ∧ q = σ ++ (if j = 0 then [] else B :: .tok 9 (zbu (b.take j)).length :: T)) ⟨.tok 1 0, [], rfl, by simp⟩ ?_
  rintro j vs q hj ⟨B, T, rfl, rfl⟩
  obtain ⟨hb1, hb2⟩ := hb
  by_cases hj0 : j = 0
  · subst hj0
    simp only [if_true]
    (refine gq33 ?_; try with_reducible exact True.intro)
    refine zW (fun h => ?_) (fun h => ?_)
    · have hlt : 0 < b.length := by simp at h; omega
      have hx : b[0]? = some b[0] := by simp [hlt]
      obtain ⟨hr1, hr2⟩ := hb2 _ (List.getElem_mem hlt)
      have hgx := zaS (f := zbo) hx
      have hsn := map_snoc (f := zbo) hx
      obtain ⟨x, hxe⟩ : ∃ x, b[0] = x := ⟨_, rfl⟩
      rw [hxe] at hgx hsn hr1 hr2
      (refine gq37 (gqc2 (show ((0 : Nat) : Int) = 0 from rfl) hgx) ?_; try with_reducible exact True.intro)
      refine ⟨by omega, c_opClone (o := x.op) hr1 hr2 ?_⟩
      (refine gq38 ?_; try with_reducible exact True.intro)
      repeat' ((with_reducible refine And.intro ?_ ?_); focus (first | omega | simp))
      refine zbh.next hlt ⟨.box ((zbo x).map .d), [], ?_, ?_⟩
      · rw [if_neg (by omega)]
        simp only [List.take_zero, List.map_nil, List.nil_append, zbo] at hsn
        simp only [zbu, ← hsn, Nat.zero_add]
        rfl
      · rw [if_neg (by omega), List.length_map, show (List.take (0 + 1) b).length = 1 by rw [List.length_take]; omega]
        rfl
    · have hn : b = [] := by simp at h; exact h
      (first | refine zai hl ?_ | refine zah hl ?_)
      rw [hn] at hK
      exact hK
  · simp only [if_neg hj0]
    have hlj : (b.take j).length = j := by rw [List.length_take]; omega
    (refine gq33 ?_; try with_reducible exact True.intro)
    refine zW (fun h => ?_) (fun h => ?_)
    · have hlt : j < b.length := by simp at h; omega
      have hx : b[j]? = some b[j] := by simp [hlt]
      obtain ⟨hr1, hr2⟩ := hb2 _ (List.getElem_mem hlt)
      have hgx := zaS (f := zbo) hx
      have hsn := map_snoc (f := zbo) hx
      obtain ⟨x, hxe⟩ : ∃ x, b[j] = x := ⟨_, rfl⟩
      rw [hxe] at hgx hsn hr1 hr2
      (refine gq37 hgx ?_; try with_reducible exact True.intro)
      refine ⟨by omega, c_opClone (o := x.op) hr1 hr2 ?_⟩
      (refine gq38 ?_; try with_reducible exact True.intro)
      repeat' ((with_reducible refine And.intro ?_ ?_); focus (first | omega | (simp only [List.length_map, List.length_take]; omega) | simp))
      refine zbh.next hlt ⟨B, T ++ [.box ((zbo x).map .d)], ?_, ?_⟩
      · rw [if_neg (by omega), show (j : Int) + 1 = ((j + 1 : Nat) : Int) by omega, zak (by omega) (by omega)]
        simp only [zbo] at hsn
        simp only [zbu, ← hsn]
      · rw [if_neg (by omega)]
        simp only [List.length_map, List.length_take, List.cons_append]
        rw [show min j b.length + 1 = min (j + 1) b.length by omega]
        rfl
    · have hn : j = b.length := by simp at h; omega
      subst hn
      (refine gq36 ?_; try with_reducible exact True.intro)
      (first | refine zai hl ?_ | refine zah hl ?_)
      exact hK
def zdL (x : zf) : AV := .agg [.d (.int .i64 x.client), .d (.int .i64 x.time), .d (.int .i64 x.op.kind), .d (.str x.op.topic), .d (.str x.op.group), .d (.int .i64 x.op.offset), .d (.slice (zdA x.op.recs)), .d (.int .i64 x.key), .d (.int .i64 x.dig)]
def reqA (x : zf) : AV := .agg [.d (.int .i64 x.client), .d (.int .i64 x.time), .d (.int .i64 x.op.kind), .d (.str x.op.topic), .d (.str x.op.group), .d (.int .i64 x.op.offset), .d (.slice (zdA x.op.recs))]
end Go.Proofs.YtcappjcojggehaaGreat
