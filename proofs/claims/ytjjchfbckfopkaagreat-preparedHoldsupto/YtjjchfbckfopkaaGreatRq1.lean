/- Contracts: batches: in memory of their own; which are the same, by the reference. -/
import Derived.Test.YtjjchfbckfopkaaGreatOpC
import Derived.Test.YtjjchfbckfopkaaGreatSpNum
set_option linter.all false
set_option maxRecDepth 100000
set_option linter.unusedSimpArgs false
namespace Go.Proofs.YtjjchfbckfopkaaGreat
open Go.AW

def smallB (b : List zf) : Prop := b.length ≤ 1073741824 ∧ ∀ x ∈ b, x.op.recs.length ≤ 1073741824 ∧ ∀ r ∈ x.op.recs, r.length ≤ 1073741824
theorem gq33 {A P Q : Prop} (a : A) (h : Q) (e : A → P = Q := by intro a; simp -dsimp only [↓zek, ↓zar, ↓zbg, ↓zel, ↓zef, ↓zed, ↓zeg, ↓zee, ↓zbl, ↓zbh, ↓zbm, ↓zbi, ↓zeh, ↓zbe, ↓zbn, ↓zbj, ↓zbo, ↓zbk, ↓zec, ↓zej, ↓zbd, ↓zbp, ↓zdW, ↓zdV, ↓zea, iN, bT, bF, eN, ↓zci, ↓unC, ↓zS, ↓zE, ↓zF, ↓zJ, ↓zZ, ↓zaD, ↓zcj, ↓zab, ↓zbr, ↓zU, ↓zl, ↓zo, ↓zbz, ↓zg, ↓zad, ↓zI, ↓zaz, ↓zaJ, ↓zc, ↓zB, ↓zn, ↓zq, ↓zaj, ↓zcB, ↓zcE, ↓zah, ↓zao, ↓zaA, ↓zaO, ↓zaT, ↓zm, ↓zae, ↓zG, ↓zp, ↓zY, zcD, zaV, zaU, unA, zcK, bnd, zcZ, zaa, zag, zdh, dm, dm1, zM, zau, zdy, zdx, zT, Q0, Q1, Q2, Q3, Q4, Q5, zR, zi, zk, zu, zy, Q6, Q7, Q8, Q9, Q10, Q11, Q12, Q13, Q14, Nat.reduceAdd, Q15, Int.reduceToNat, Q16, Q17, Q18, Q19, Q20, reduceIte, Q21, Q22, zA, rep, zV, zdX, toD, zaf, Q23, Q24, Q25, Q26, Q27, Q28, Nat.reduceLeDiff, Q29, Nat.reduceSub, Q30, Q31, Q32, sc, Q33, Q34, Q35, Bool.and_false, Bool.and_self, Bool.false_and, Bool.not_false, Bool.not_true, Bool.true_and, Int.toNat_natCast, Int.toNat_zero, List.drop_zero, List.length_map, List.length_nil, List.nil_append, List.take_length, Nat.sub_zero, Nat.zero_add, Option.isSome_none, Option.isSome_some, Option.map_none, Option.map_some, zav, beq_self_eq_true, bne_self_eq_false, zbC, zbE, opA, zdY, zfn, zas, a]; rfl) : P := (e a).mpr h
theorem gq34 {P Q : Prop} (h : Q) (e : P = Q := by simp -dsimp only [↓zek, ↓zar, ↓zbg, ↓zel, ↓zef, ↓zed, ↓zeg, ↓zee, ↓zbl, ↓zbh, ↓zbm, ↓zbi, ↓zeh, ↓zbe, ↓zbn, ↓zbj, ↓zbo, ↓zbk, ↓zec, ↓zej, ↓zbd, ↓zbp, ↓zdW, ↓zdV, ↓zea, iN, bT, bF, eN, ↓zci, ↓unC, ↓zS, ↓zE, ↓zF, ↓zJ, ↓zZ, ↓zaD, ↓zcj, ↓zab, ↓zbr, ↓zU, ↓zl, ↓zo, ↓zbz, ↓zg, ↓zad, ↓zI, ↓zaz, ↓zaJ, ↓zc, ↓zB, ↓zn, ↓zq, ↓zaj, ↓zcB, ↓zcE, ↓zah, ↓zao, ↓zaA, ↓zaO, ↓zaT, ↓zm, ↓zae, ↓zG, ↓zp, ↓zY, zcD, zaV, zaU, unA, zcK, bnd, zcZ, zaa, zag, zdh, dm, dm1, zM, zau, zdy, zdx, zT, Q0, Q1, Q2, Q3, Q4, Q5, zR, zi, zk, zu, zy, Q6, Q7, Q8, Q9, Q10, Q11, Q12, Q13, Q14, Nat.reduceAdd, Q15, Int.reduceToNat, Q16, Q17, Q18, Q19, Q20, reduceIte, Q21, Q22, zA, rep, zV, zdX, toD, zaf, Q23, Q24, Q25, Q26, Q27, Q28, Nat.reduceLeDiff, Q29, Nat.reduceSub, Q30, Q31, Q32, sc, Q33, Q34, Q35, Bool.and_false, Bool.and_self, Bool.false_and, Bool.not_false, Bool.not_true, Bool.true_and, Int.toNat_natCast, Int.toNat_zero, List.drop_zero, List.length_map, List.length_nil, List.nil_append, List.take_length, Nat.sub_zero, Nat.zero_add, Option.isSome_none, Option.isSome_some, Option.map_none, Option.map_some, zav, beq_self_eq_true, bne_self_eq_false, zbC, zbE, opA, zdY, zfn, zas]; rfl) : P := e.mpr h
theorem c_rqClone {σ : List zb} {b : List zf} (hb : smallB b) {K : AV → List zb → Prop} (hK : K (.d (.slice (zaM b))) σ) : zt Tryz.prog zfp [.d (.slice (zaM b))] σ K := by
  refine ziC znr fun hl => ?_
  simp only [zhY, iN, bT, bF, eN, zl3]
  (refine gq28 ?_; try with_reducible exact True.intro)
  refine zC b.length (fun j vs q => ∃ B T, vs = [if j = 0 then .exact [] else .own (σ.length + 1) (zaM (b.take j)), .d (.int .i64 j)] ∧ q = σ ++ (if j = 0 then [] else B :: .tok 9 (zaM (b.take j)).length :: T)) ⟨.tok 1 0, [], rfl, by simp⟩ ?_
  rintro j vs q hj ⟨B, T, rfl, rfl⟩
  obtain ⟨hb1, hb2⟩ := hb
  by_cases hj0 : j = 0
  · subst hj0
    simp only [if_true]
    (refine gq28 ?_; try with_reducible exact True.intro)
    refine zL (fun h => ?_) (fun h => ?_)
    · have hlt : 0 < b.length := by simp at h; omega
      have hx : b[0]? = some b[0] := by simp [hlt]
      obtain ⟨hr1, hr2⟩ := hb2 _ (List.getElem_mem hlt)
      have hgx := zax (f := zas) hx
      have hsn := map_snoc (f := zas) hx
      obtain ⟨x, hxe⟩ : ∃ x, b[0] = x := ⟨_, rfl⟩
      rw [hxe] at hgx hsn hr1 hr2
      (refine gq33 (gqc2 (show ((0 : Nat) : Int) = 0 from rfl) hgx) ?_; try with_reducible exact True.intro)
      refine ⟨by omega, c_opClone (o := x.op) hr1 hr2 ?_⟩
      (refine gq34 ?_; try with_reducible exact True.intro)
      repeat' ((with_reducible refine And.intro ?_ ?_); focus (first | omega | simp))
      refine zaQ.next hlt ⟨.box ((zas x).map .d), [], ?_, ?_⟩
      · rw [if_neg (by omega)]
        simp only [List.take_zero, List.map_nil, List.nil_append, zas] at hsn
        simp only [zaM, ← hsn, Nat.zero_add]
        rfl
      · rw [if_neg (by omega)]
        try rw [List.length_map]
        rw [show (List.take (0 + 1) b).length = 1 by rw [List.length_take]; omega]
        rfl
    · have hn : b = [] := by simp at h; exact h
      refine zam hl ?_
      rw [hn] at hK
      exact hK
  · simp only [if_neg hj0]
    have hlj : (b.take j).length = j := by rw [List.length_take]; omega
    (refine gq28 ?_; try with_reducible exact True.intro)
    refine zL (fun h => ?_) (fun h => ?_)
    · have hlt : j < b.length := by simp at h; omega
      have hx : b[j]? = some b[j] := by simp [hlt]
      obtain ⟨hr1, hr2⟩ := hb2 _ (List.getElem_mem hlt)
      have hgx := zax (f := zas) hx
      have hsn := map_snoc (f := zas) hx
      obtain ⟨x, hxe⟩ : ∃ x, b[j] = x := ⟨_, rfl⟩
      rw [hxe] at hgx hsn hr1 hr2
      (refine gq33 hgx ?_; try with_reducible exact True.intro)
      refine ⟨by omega, c_opClone (o := x.op) hr1 hr2 ?_⟩
      (refine gq34 ?_; try with_reducible exact True.intro)
      repeat' ((with_reducible refine And.intro ?_ ?_); focus (first | omega | (simp only [List.length_map, List.length_take]; omega) | simp))
      refine zaQ.next hlt ⟨B, T ++ [.box ((zas x).map .d)], ?_, ?_⟩
      · rw [if_neg (by omega), show (j : Int) + 1 = ((j + 1 : Nat) : Int) by omega, zap (by omega) (by omega)]
        simp only [zas] at hsn
        simp only [zaM, ← hsn]
      · rw [if_neg (by omega)]
        simp only [List.length_map, List.length_take, List.cons_append]
        rw [show min j b.length + 1 = min (j + 1) b.length by omega]
        rfl
    · have hn : j = b.length := by simp at h; omega
      subst hn
      (refine gq30 ?_; try with_reducible exact True.intro)
      refine zam hl ?_
      exact hK
def zeN (x : zf) : AV := .agg [.d (.int .i64 x.client), .d (.int .i64 x.time), .d (.int .i64 x.op.kind), .d (.str x.op.topic), .d (.str x.op.group), .d (.int .i64 x.op.offset), .d (.slice (zcX x.op.recs)), .d (.int .i64 x.key), .d (.int .i64 x.dig)]
def reqA (x : zf) : AV := .agg [.d (.int .i64 x.client), .d (.int .i64 x.time), .d (.int .i64 x.op.kind), .d (.str x.op.topic), .d (.str x.op.group), .d (.int .i64 x.op.offset), .d (.slice (zcX x.op.recs))]
theorem zol {σ : List zb} {a b : zf} (ha : a.op.recs.length ≤ 1073741824) (hb : b.op.recs.length ≤ 1073741824) {K : AV → List zb → Prop} (hK : K (.d (.bool (decide (a.client = b.client ∧ a.time = b.time ∧ a.op = b.op)))) σ) :
    zt Tryz.prog zeu [reqA a, reqA b] σ K := by
  refine zhh zlk fun hl => ?_
  have fin : ∀ z : Bool, decide (a.client = b.client ∧ a.time = b.time ∧ a.op = b.op) = z → K (.d (.bool z)) σ := fun z hz => by rw [← hz]; exact hK
  clear hK
  simp only [zgE, iN, bT, bF, eN, reqA]
  cases h1 : (a.client == b.client)
  · (refine gq29 h1 ?_; try with_reducible exact True.intro)
    refine zam hl ?_
    refine fin _ (decide_eq_false ?_)
    rintro ⟨h, _⟩
    simp [h] at h1
  cases h2 : (a.time == b.time)
  · (refine gq29 (gqc2 h1 h2) ?_; try with_reducible exact True.intro)
    refine zam hl ?_
    refine fin _ (decide_eq_false ?_)
    rintro ⟨_, h, _⟩
    simp [h] at h2
  (refine gq29 (gqc2 h1 h2) ?_; try with_reducible exact True.intro)
  repeat' ((with_reducible refine And.intro ?_ ?_); focus (first | omega | rfl | decide))
  refine c_rSame (a := a.op) (b := b.op) ha hb ?_
  (refine gq28 ?_; try with_reducible exact True.intro)
  refine zam hl ?_
  refine fin _ ?_
  simp only [beq_iff_eq] at h1 h2
  simp only [h1, h2, true_and]
theorem c_rqSame {σ : List zb} {a b : List zf} (ha : smallB a) (hb : smallB b) {K : AV → List zb → Prop} (hK : K (.d (.bool (decide (a = b)))) σ) :
    zt Tryz.prog zkO [.d (.slice (zaM a)), .d (.slice (zaM b))] σ K := by
  refine zhh e_r08_Same fun hl => ?_
  have fin : ∀ z : Bool, decide (a = b) = z → K (.d (.bool z)) σ := fun z hz => by rw [← hz]; exact hK
  clear hK
  obtain ⟨ha1, ha2⟩ := ha
  obtain ⟨hb1, hb2⟩ := hb
  simp only [zpb, iN, bT, bF, eN]
  (refine gq30 ?_; try with_reducible exact True.intro)
  by_cases hl2 : a.length = b.length
  · have hne : ((a.length : Int) != (b.length : Int)) = false := by simp [hl2]
    (refine gq29 hne ?_; try with_reducible exact True.intro)
    refine zC a.length (fun k vs s => vs = [.d (.int .i64 k)] ∧ s = σ ∧ a.take k = b.take k) ⟨rfl, rfl, by simp⟩ ?_
    rintro k vs s hk ⟨rfl, rfl, htk⟩
    (refine gq30 ?_; try with_reducible exact True.intro)
    refine zL (fun h => ?_) (fun h => ?_)
    · have hka : k < a.length := by simp at h; omega
      have hx : a[k]? = some a[k] := by simp [hka]
      have hy : b[k]? = some (b[k]'(by omega)) := List.getElem?_eq_getElem _
      have ax := (ha2 _ (List.getElem_mem hka)).1
      have bx := (hb2 _ (List.getElem_mem (show k < b.length by omega))).1
      have hgx := zax (f := zas) hx
      have hgy := zax (f := zas) hy
      obtain ⟨x, hxe⟩ : ∃ x, a[k] = x := ⟨_, rfl⟩
      obtain ⟨y, hye⟩ : ∃ y, b[k]'(by omega) = y := ⟨_, rfl⟩
      rw [hxe] at hgx hx ax
      rw [hye] at hgy hy bx
      have neq : x ≠ y → K (.d (.bool false)) s := fun h => fin _ (decide_eq_false (by rintro rfl; rw [hx] at hy; exact h (Option.some.inj hy)))
      have hxy : x = y ↔ (x.client = y.client ∧ x.time = y.time ∧ x.op = y.op) ∧ x.key = y.key ∧ x.dig = y.dig := by cases x; cases y; simp [and_assoc]
      cases h2 : (x.key == y.key && x.dig == y.dig)
      · (refine gq33 (gqc2 hgx (gqc2 hgy h2)) ?_; try with_reducible exact True.intro)
        repeat' ((with_reducible refine And.intro ?_ ?_); focus (first | omega | rfl | decide))
        try (refine gq33 (gqc2 hgx (gqc2 hgy h2)) ?_; try with_reducible exact True.intro)
        refine zam hl ?_
        refine neq (fun h => ?_)
        have := (hxy.1 h).2
        simp [this.1, this.2] at h2
      · (refine gq33 (gqc2 hgx (gqc2 hgy h2)) ?_; try with_reducible exact True.intro)
        repeat' ((with_reducible refine And.intro ?_ ?_); focus (first | omega | rfl | decide))
        try (refine gq33 (gqc2 hgx (gqc2 hgy h2)) ?_; try with_reducible exact True.intro)
        refine zol (a := x) (b := y) ax bx ?_
        simp only [Bool.and_eq_true, beq_iff_eq] at h2
        by_cases h3 : x.client = y.client ∧ x.time = y.time ∧ x.op = y.op
        · rw [decide_eq_true h3]
          (refine gq30 ?_; try with_reducible exact True.intro)
          refine zaQ.next hka ⟨?_, rfl, zeB hx hy htk (hxy.2 ⟨h3, h2⟩)⟩
          rw [show (k : Int) + 1 = ((k + 1 : Nat) : Int) by omega, zap (by omega) (by omega)]
        · rw [decide_eq_false h3]
          (refine gq30 ?_; try with_reducible exact True.intro)
          refine zam hl ?_
          exact neq (fun h => h3 (hxy.1 h).1)
    · refine zam hl ?_
      refine fin _ (decide_eq_true (zkI hl2 (k := k) (by simp at h; omega) htk))
  · have hne : ((a.length : Int) != (b.length : Int)) = true := by simp; omega
    (refine gq29 hne ?_; try with_reducible exact True.intro)
    refine zam hl ?_
    exact fin _ (decide_eq_false (by rintro rfl; exact hl2 rfl))
end Go.Proofs.YtjjchfbckfopkaaGreat
