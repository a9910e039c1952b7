/- Contracts: batches: in memory of their own; which are the same, by the reference. -/
import Derived.Test.YtjjchfbckfopkaaGreatOpC
import Derived.Test.YtjjchfbckfopkaaGreatSpNum
set_option linter.all false
set_option maxRecDepth 100000
set_option linter.unusedSimpArgs false
namespace Go.Proofs.YtjjchfbckfopkaaGreat
open Go.AW

def zjo (b : List ze) : Prop := b.length ≤ 1073741824 ∧ ∀ x ∈ b, x.op.recs.length ≤ 1073741824 ∧ ∀ r ∈ x.op.recs, r.length ≤ 1073741824
theorem gq33 {A P Q : Prop} (a : A) (h : Q) (e : A → P = Q := by intro a; simp -dsimp only [↓zex, ↓zav, ↓zbj, ↓zey, ↓zer, ↓zep, ↓zes, ↓zeq, ↓zbo, ↓zbk, ↓zbp, ↓zbl, ↓zet, ↓zbh, ↓zbq, ↓zbm, ↓zbr, ↓zbn, ↓zem, ↓zew, ↓zbg, ↓zbt, ↓zeh, ↓zeg, ↓zel, iN, bT, bF, eN, ↓zcm, ↓unC, ↓zU, ↓zE, ↓zF, ↓zK, ↓zab, ↓zaA, ↓zct, ↓zY, ↓zbd, ↓zX, ↓zj, ↓zq, ↓zbI, ↓zf, ↓zac, ↓zJ, ↓zaB, ↓zaK, ↓zd, ↓zD, ↓zn, ↓zr, ↓zal, ↓zcE, ↓zcM, ↓zak, ↓zas, ↓zaG, ↓zaM, ↓zaS, ↓zl, ↓zae, ↓zG, ↓zo, ↓zZ, zcK, zbc, zba, unA, zcS, bnd, zdq, zaa, zai, zdr, dm, dm1, zP, zaC, zdL, zdK, zT, Q0, Q1, Q2, Q3, Q4, Q5, zS, zh, zm, zw, zA, Q6, Q7, Q8, Q9, Q10, Q11, Q12, Q13, Q14, Nat.reduceAdd, Q15, Int.reduceToNat, Q16, Q17, Q18, Q19, Q20, reduceIte, Q21, Q22, zx, rep, zV, zei, toD, zaf, Q23, Q24, Q25, Q26, Q27, Q28, Nat.reduceLeDiff, Q29, Nat.reduceSub, Q30, Q31, Q32, sc, Q33, Q34, Q35, Bool.and_false, Bool.and_self, Bool.false_and, Bool.not_false, Bool.not_true, Bool.true_and, Int.toNat_natCast, Int.toNat_zero, List.drop_zero, List.length_map, List.length_nil, List.nil_append, List.take_length, Nat.sub_zero, Nat.zero_add, Option.isSome_none, Option.isSome_some, Option.map_none, Option.map_some, zaq, beq_self_eq_true, bne_self_eq_false, zbs, zbw, opA, zeU, zej, zao, a]; rfl) : P := (e a).mpr h
theorem gq34 {P Q : Prop} (h : Q) (e : P = Q := by simp -dsimp only [↓zex, ↓zav, ↓zbj, ↓zey, ↓zer, ↓zep, ↓zes, ↓zeq, ↓zbo, ↓zbk, ↓zbp, ↓zbl, ↓zet, ↓zbh, ↓zbq, ↓zbm, ↓zbr, ↓zbn, ↓zem, ↓zew, ↓zbg, ↓zbt, ↓zeh, ↓zeg, ↓zel, iN, bT, bF, eN, ↓zcm, ↓unC, ↓zU, ↓zE, ↓zF, ↓zK, ↓zab, ↓zaA, ↓zct, ↓zY, ↓zbd, ↓zX, ↓zj, ↓zq, ↓zbI, ↓zf, ↓zac, ↓zJ, ↓zaB, ↓zaK, ↓zd, ↓zD, ↓zn, ↓zr, ↓zal, ↓zcE, ↓zcM, ↓zak, ↓zas, ↓zaG, ↓zaM, ↓zaS, ↓zl, ↓zae, ↓zG, ↓zo, ↓zZ, zcK, zbc, zba, unA, zcS, bnd, zdq, zaa, zai, zdr, dm, dm1, zP, zaC, zdL, zdK, zT, Q0, Q1, Q2, Q3, Q4, Q5, zS, zh, zm, zw, zA, Q6, Q7, Q8, Q9, Q10, Q11, Q12, Q13, Q14, Nat.reduceAdd, Q15, Int.reduceToNat, Q16, Q17, Q18, Q19, Q20, reduceIte, Q21, Q22, zx, rep, zV, zei, toD, zaf, Q23, Q24, Q25, Q26, Q27, Q28, Nat.reduceLeDiff, Q29, Nat.reduceSub, Q30, Q31, Q32, sc, Q33, Q34, Q35, Bool.and_false, Bool.and_self, Bool.false_and, Bool.not_false, Bool.not_true, Bool.true_and, Int.toNat_natCast, Int.toNat_zero, List.drop_zero, List.length_map, List.length_nil, List.nil_append, List.take_length, Nat.sub_zero, Nat.zero_add, Option.isSome_none, Option.isSome_some, Option.map_none, Option.map_some, zaq, beq_self_eq_true, bne_self_eq_false, zbs, zbw, opA, zeU, zej, zao]; rfl) : P := e.mpr h
theorem c_rqClone {σ : List zb} {b : List ze} (hb : zjo b) {K : AV → List zb → Prop} (hK : K (.d (.slice (zaE b))) σ) : zp Tryz.prog zff [.d (.slice (zaE b))] σ K := by
  refine zil zmY fun hl => ?_
  simp only [zhJ, iN, bT, bF, eN, zl2]
  (refine gq28 ?_; try with_reducible exact True.intro)
  refine zB b.length (fun j vs q => ∃ B T, vs = [if j = 0 then .exact [] else .own (σ.length + 1) (zaE (b.take j)), .d (.int .i64 j)] ∧ q = σ ++ (if j = 0 then [] else B :: .tok 9 (zaE (b.take j)).length :: T)) ⟨.tok 1 0, [], rfl, by simp⟩ ?_
  rintro j vs q hj ⟨B, T, rfl, rfl⟩
  obtain ⟨hb1, hb2⟩ := hb
  by_cases hj0 : j = 0
  · subst hj0
    simp only [if_true]
    (refine gq28 ?_; try with_reducible exact True.intro)
    refine zI (fun h => ?_) (fun h => ?_)
    · have hlt : 0 < b.length := by simp at h; omega
      have hx : b[0]? = some b[0] := by simp [hlt]
      obtain ⟨hr1, hr2⟩ := hb2 _ (List.getElem_mem hlt)
      have hgx := zau (f := zao) hx
      have hsn := map_snoc (f := zao) hx
      obtain ⟨x, hxe⟩ : ∃ x, b[0] = x := ⟨_, rfl⟩
      rw [hxe] at hgx hsn hr1 hr2
      (refine gq33 (gqc2 (show ((0 : Nat) : Int) = 0 from rfl) hgx) ?_; try with_reducible exact True.intro)
      refine ⟨by omega, c_opClone (o := x.op) hr1 hr2 ?_⟩
      (refine gq34 ?_; try with_reducible exact True.intro)
      repeat' ((with_reducible refine And.intro ?_ ?_); focus (first | omega | simp))
      refine zaP.next hlt ⟨.box ((zao x).map .d), [], ?_, ?_⟩
      · rw [if_neg (by omega)]
        simp only [List.take_zero, List.map_nil, List.nil_append, zao] at hsn
        simp only [zaE, ← hsn, Nat.zero_add]
        rfl
      · rw [if_neg (by omega)]
        try rw [List.length_map]
        rw [show (List.take (0 + 1) b).length = 1 by rw [List.length_take]; omega]
        rfl
    · have hn : b = [] := by simp at h; exact h
      refine zad hl ?_
      rw [hn] at hK
      exact hK
  · simp only [if_neg hj0]
    have hlj : (b.take j).length = j := by rw [List.length_take]; omega
    (refine gq28 ?_; try with_reducible exact True.intro)
    refine zI (fun h => ?_) (fun h => ?_)
    · have hlt : j < b.length := by simp at h; omega
      have hx : b[j]? = some b[j] := by simp [hlt]
      obtain ⟨hr1, hr2⟩ := hb2 _ (List.getElem_mem hlt)
      have hgx := zau (f := zao) hx
      have hsn := map_snoc (f := zao) hx
      obtain ⟨x, hxe⟩ : ∃ x, b[j] = x := ⟨_, rfl⟩
      rw [hxe] at hgx hsn hr1 hr2
      (refine gq33 hgx ?_; try with_reducible exact True.intro)
      refine ⟨by omega, c_opClone (o := x.op) hr1 hr2 ?_⟩
      (refine gq34 ?_; try with_reducible exact True.intro)
      repeat' ((with_reducible refine And.intro ?_ ?_); focus (first | omega | (simp only [List.length_map, List.length_take]; omega) | simp))
      refine zaP.next hlt ⟨B, T ++ [.box ((zao x).map .d)], ?_, ?_⟩
      · rw [if_neg (by omega), show (j : Int) + 1 = ((j + 1 : Nat) : Int) by omega, zan (by omega) (by omega)]
        simp only [zao] at hsn
        simp only [zaE, ← hsn]
      · rw [if_neg (by omega)]
        simp only [List.length_map, List.length_take, List.cons_append]
        rw [show min j b.length + 1 = min (j + 1) b.length by omega]
        rfl
    · have hn : j = b.length := by simp at h; omega
      subst hn
      (refine gq30 ?_; try with_reducible exact True.intro)
      refine zad hl ?_
      exact hK
def zcO (x : ze) : AV := .agg [.d (.int .i64 x.client), .d (.int .i64 x.time), .d (.int .i64 x.op.kind), .d (.str x.op.topic), .d (.str x.op.group), .d (.int .i64 x.op.offset), .d (.slice (zcQ x.op.recs)), .d (.int .i64 x.key), .d (.int .i64 x.dig)]
def reqA (x : ze) : AV := .agg [.d (.int .i64 x.client), .d (.int .i64 x.time), .d (.int .i64 x.op.kind), .d (.str x.op.topic), .d (.str x.op.group), .d (.int .i64 x.op.offset), .d (.slice (zcQ x.op.recs))]
theorem znU {σ : List zb} {a b : ze} (ha : a.op.recs.length ≤ 1073741824) (hb : b.op.recs.length ≤ 1073741824) {K : AV → List zb → Prop} (hK : K (.d (.bool (decide (a.client = b.client ∧ a.time = b.time ∧ a.op = b.op)))) σ) :
    zp Tryz.prog zdX [reqA a, reqA b] σ K := by
  refine zgK zkL fun hl => ?_
  have fin : ∀ z : Bool, decide (a.client = b.client ∧ a.time = b.time ∧ a.op = b.op) = z → K (.d (.bool z)) σ := fun z hz => by rw [← hz]; exact hK
  clear hK
  simp only [zgp, iN, bT, bF, eN, reqA]
  cases h1 : (a.client == b.client)
  · (refine gq29 h1 ?_; try with_reducible exact True.intro)
    refine zad hl ?_
    refine fin _ (decide_eq_false ?_)
    rintro ⟨h, _⟩
    simp [h] at h1
  cases h2 : (a.time == b.time)
  · (refine gq29 (gqc2 h1 h2) ?_; try with_reducible exact True.intro)
    refine zad hl ?_
    refine fin _ (decide_eq_false ?_)
    rintro ⟨_, h, _⟩
    simp [h] at h2
  (refine gq29 (gqc2 h1 h2) ?_; try with_reducible exact True.intro)
  repeat' ((with_reducible refine And.intro ?_ ?_); focus (first | omega | rfl | decide))
  refine c_rSame (a := a.op) (b := b.op) ha hb ?_
  (refine gq28 ?_; try with_reducible exact True.intro)
  refine zad hl ?_
  refine fin _ ?_
  simp only [beq_iff_eq] at h1 h2
  simp only [h1, h2, true_and]
theorem c_rqSame {σ : List zb} {a b : List ze} (ha : zjo a) (hb : zjo b) {K : AV → List zb → Prop} (hK : K (.d (.bool (decide (a = b)))) σ) :
    zp Tryz.prog zko [.d (.slice (zaE a)), .d (.slice (zaE b))] σ K := by
  refine zgK e_r08_Same fun hl => ?_
  have fin : ∀ z : Bool, decide (a = b) = z → K (.d (.bool z)) σ := fun z hz => by rw [← hz]; exact hK
  clear hK
  obtain ⟨ha1, ha2⟩ := ha
  obtain ⟨hb1, hb2⟩ := hb
  simp only [zoM, iN, bT, bF, eN]
  (refine gq30 ?_; try with_reducible exact True.intro)
  by_cases hl2 : a.length = b.length
  · have hne : ((a.length : Int) != (b.length : Int)) = false := by simp [hl2]
    (refine gq29 hne ?_; try with_reducible exact True.intro)
    refine zB a.length (fun k vs s => vs = [.d (.int .i64 k)] ∧ s = σ ∧ a.take k = b.take k) ⟨rfl, rfl, by simp⟩ ?_
    rintro k vs s hk ⟨rfl, rfl, htk⟩
    (refine gq30 ?_; try with_reducible exact True.intro)
    refine zI (fun h => ?_) (fun h => ?_)
    · have hka : k < a.length := by simp at h; omega
      have hx : a[k]? = some a[k] := by simp [hka]
      have hy : b[k]? = some (b[k]'(by omega)) := List.getElem?_eq_getElem _
      have ax := (ha2 _ (List.getElem_mem hka)).1
      have bx := (hb2 _ (List.getElem_mem (show k < b.length by omega))).1
      have hgx := zau (f := zao) hx
      have hgy := zau (f := zao) hy
      obtain ⟨x, hxe⟩ : ∃ x, a[k] = x := ⟨_, rfl⟩
      obtain ⟨y, hye⟩ : ∃ y, b[k]'(by omega) = y := ⟨_, rfl⟩
      rw [hxe] at hgx hx ax
      rw [hye] at hgy hy bx
      have neq : x ≠ y → K (.d (.bool false)) s := fun h => fin _ (decide_eq_false (by rintro rfl; rw [hx] at hy; exact h (Option.some.inj hy)))
      have hxy : x = y ↔ (x.client = y.client ∧ x.time = y.time ∧ x.op = y.op) ∧ x.key = y.key ∧ x.dig = y.dig := by cases x; cases y; simp [and_assoc]
      cases h2 : (x.key == y.key && x.dig == y.dig)
      · (refine gq33 (gqc2 hgx (gqc2 hgy h2)) ?_; try with_reducible exact True.intro)
        repeat' ((with_reducible refine And.intro ?_ ?_); focus (first | omega | rfl | decide))
        try (refine gq33 (gqc2 hgx (gqc2 hgy h2)) ?_; try with_reducible exact True.intro)
        refine zad hl ?_
        refine neq (fun h => ?_)
        have := (hxy.1 h).2
        simp [this.1, this.2] at h2
      · (refine gq33 (gqc2 hgx (gqc2 hgy h2)) ?_; try with_reducible exact True.intro)
        repeat' ((with_reducible refine And.intro ?_ ?_); focus (first | omega | rfl | decide))
        try (refine gq33 (gqc2 hgx (gqc2 hgy h2)) ?_; try with_reducible exact True.intro)
        refine znU (a := x) (b := y) ax bx ?_
        simp only [Bool.and_eq_true, beq_iff_eq] at h2
        by_cases h3 : x.client = y.client ∧ x.time = y.time ∧ x.op = y.op
        · rw [decide_eq_true h3]
          (refine gq30 ?_; try with_reducible exact True.intro)
          refine zaP.next hka ⟨?_, rfl, zcx hx hy htk (hxy.2 ⟨h3, h2⟩)⟩
          rw [show (k : Int) + 1 = ((k + 1 : Nat) : Int) by omega, zan (by omega) (by omega)]
        · rw [decide_eq_false h3]
          (refine gq30 ?_; try with_reducible exact True.intro)
          refine zad hl ?_
          exact neq (fun h => h3 (hxy.1 h).1)
    · refine zad hl ?_
      refine fin _ (decide_eq_true (zfX hl2 (k := k) (by simp at h; omega) htk))
  · have hne : ((a.length : Int) != (b.length : Int)) = true := by simp; omega
    (refine gq29 hne ?_; try with_reducible exact True.intro)
    refine zad hl ?_
    exact fin _ (decide_eq_false (by rintro rfl; exact hl2 rfl))
end Go.Proofs.YtjjchfbckfopkaaGreat
