/- Contracts: certificates and entries that are the same. -/
import Derived.Test.YtpgahkdjkanblaaGreatRq1
import Derived.Test.YtpgahkdjkanblaaGreatSpTab
import Derived.Test.YtpgahkdjkanblaaGreatSpOp
import Derived.Test.YtpgahkdjkanblaaGreatSpMap
set_option linter.all false
set_option maxRecDepth 100000
set_option linter.unusedSimpArgs false
set_option linter.unusedVariables false
namespace Go.Proofs.YtpgahkdjkanblaaGreat
open Go.AW

theorem gq16 {A P Q : Prop} (a : A) (h : Q) (e : A → P = Q := by intro a; simp -dsimp only [↓zey, ↓zay, ↓zbs, ↓zez, ↓zeu, ↓zes, ↓zev, ↓zet, ↓zbx, ↓zbt, ↓zby, ↓zbu, ↓zew, ↓zbr, ↓zbz, ↓zbv, ↓zbA, ↓zbw, ↓zer, ↓zex, ↓zbp, ↓zbB, ↓zep, ↓zeo, ↓zeq, iN, bT, bF, eN, ↓zcv, ↓unC, ↓zU, ↓zI, ↓zJ, ↓zM, ↓zX, ↓zal, ↓zcX, ↓zai, ↓zaJ, ↓zW, ↓zg, ↓zn, ↓zbP, ↓zb, ↓zaf, ↓zD, ↓zaI, ↓zaQ, ↓zd, ↓zF, ↓zj, ↓zG, ↓zam, ↓zdc, ↓zdj, ↓zak, ↓zau, ↓zaL, ↓zaY, ↓zbh, ↓zo, ↓zaj, ↓zK, ↓zr, ↓zV, zdk, zbn, zbk, unA, zdu, bnd, zdG, zae, zO, zdW, dm, dm1, zR, zaF, zea, zdZ, zw, Q0, Q1, Q2, Q3, Q4, Q5, zY, zC, zt, zN, zE, Q6, Q7, Q8, Q9, Q10, Q11, Q12, Q13, Q14, Nat.reduceAdd, Q15, Int.reduceToNat, Q16, Q17, Q18, Q19, Q20, reduceIte, Q21, Q22, zA, rep, zZ, zeB, toD, zap, Q23, Q24, Q25, Q26, Q27, Q28, Nat.reduceLeDiff, Q29, Nat.reduceSub, Q30, Q31, Q32, sc, Q33, Q34, Q35, Bool.not_false, Bool.not_true, zcU, zeS, a]; rfl) : P := (e a).mpr h
theorem zte {σ : List zf} {a b : List zP} (ha : a.length ≤ 1073741824) {K : KT} (hK : K (.d (.bool (decide (a = b)))) σ) :
    zm Tryz.prog zfM [.d (.slice (zas a)), .d (.slice (zas b))] σ K := by
  refine zc zmu.is rfl fun hl _ => zmu.goes ?_
  have fin : ∀ z : Bool, decide (a = b) = z → K (.d (.bool z)) σ := fun z hz => by rw [← hz]; exact hK
  clear hK
  simp only [zmO, iN, bT, bF, eN]
  (refine gq11 ?_; try with_reducible exact True.intro)
  by_cases hl2 : a.length = b.length
  · have hne : ((a.length : Int) != (b.length : Int)) = false := by simp [hl2]
    (refine gq4 hne ?_; try with_reducible exact True.intro)
    refine zl a.length (fun k vs s => vs = [.d (.int .i64 k)] ∧ s = σ ∧ a.take k = b.take k) ⟨rfl, rfl, by simp⟩ ?_
    rintro k vs s hk ⟨rfl, rfl, htk⟩
    (refine gq11 ?_; try with_reducible exact True.intro)
    refine zS (fun h => ?_) (fun h => ?_)
    · have hka : k < a.length := by simp at h; omega
      have hx : a[k]? = some a[k] := by simp [hka]
      have hy : b[k]? = some (b[k]'(by omega)) := List.getElem?_eq_getElem _
      have hgx := zQ (f := zeS) hx
      have hgy := zQ (f := zeS) hy
      obtain ⟨x, hxe⟩ : ∃ x, a[k] = x := ⟨_, rfl⟩
      obtain ⟨y, hye⟩ : ∃ y, b[k]'(by omega) = y := ⟨_, rfl⟩
      rw [hxe] at hgx hx
      rw [hye] at hgy hy
      have hxy : x = y ↔ x.key = y.key ∧ x.dig = y.dig := by cases x; cases y; simp
      cases h2 : (x.key == y.key && x.dig == y.dig)
      · (refine gq16 (zi hgx (zi hgy h2)) ?_; try with_reducible exact True.intro)
        repeat' ((with_reducible refine And.intro ?_ ?_); focus (first | omega | rfl | decide))
        try (refine gq16 (zi hgx (zi hgy h2)) ?_; try with_reducible exact True.intro)
        refine zq hl ?_
        refine fin _ (decide_eq_false (by rintro rfl; rw [hx] at hy; have := hxy.1 (Option.some.inj hy); simp [this.1, this.2] at h2))
      · (refine gq16 (zi hgx (zi hgy h2)) ?_; try with_reducible exact True.intro)
        repeat' ((with_reducible refine And.intro ?_ ?_); focus (first | omega | rfl | decide))
        try (refine gq16 (zi hgx (zi hgy h2)) ?_; try with_reducible exact True.intro)
        simp only [Bool.and_eq_true, beq_iff_eq] at h2
        refine zaG.next hka ⟨?_, rfl, zbi hx hy htk (hxy.2 h2)⟩
        rw [show (k : Int) + 1 = ((k + 1 : Nat) : Int) by omega, zat (by omega) (by omega)]
    · refine zq hl ?_
      refine fin _ (decide_eq_true (zca hl2 (k := k) (by simp at h; omega) htk))
  · have hne : ((a.length : Int) != (b.length : Int)) = true := by simp; omega
    (refine gq4 hne ?_; try with_reducible exact True.intro)
    refine zq hl ?_
    exact fin _ (decide_eq_false (by rintro rfl; exact hl2 rfl))
theorem zqM {σ : List zf} {a b : zek} (ha : a.signs.length ≤ 1073741824) {K : KT} (hK : K (.d (.bool (decide (a = b)))) σ) :
    zm Tryz.prog zfc [zgQ a, zgQ b] σ K := by
  refine zc znC.is rfl fun hl _ => znC.goes ?_
  have fin : ∀ z : Bool, decide (a = b) = z → K (.d (.bool z)) σ := fun z hz => by rw [← hz]; exact hK
  clear hK
  have hab : a = b ↔ a.seq = b.seq ∧ a.dig = b.dig ∧ a.signs = b.signs := by cases a; cases b; simp
  simp only [znQ, iN, bT, bF, eN]
  cases h1 : (a.seq == b.seq)
  · (refine gq4 h1 ?_; try with_reducible exact True.intro)
    refine zq hl ?_
    refine fin _ (decide_eq_false fun h => ?_)
    simp [(hab.1 h).1] at h1
  cases h2 : (a.dig == b.dig)
  · (refine gq4 (zi h1 h2) ?_; try with_reducible exact True.intro)
    refine zq hl ?_
    refine fin _ (decide_eq_false fun h => ?_)
    simp [(hab.1 h).2.1] at h2
  (refine gq4 (zi h1 h2) ?_; try with_reducible exact True.intro)
  refine zte ha ?_
  (refine gq3 ?_; try with_reducible exact True.intro)
  refine zq hl ?_
  refine fin _ ?_
  simp only [beq_iff_eq] at h1 h2
  by_cases h3 : a.signs = b.signs
  · rw [decide_eq_true h3, decide_eq_true (hab.2 ⟨h1, h2, h3⟩)]
  · rw [decide_eq_false h3, decide_eq_false (fun h => h3 (hab.1 h).2.2)]
theorem gq17 {A P Q : Prop} (a : A) (h : Q) (e : A → P = Q := by intro a; simp -dsimp only [↓zey, ↓zay, ↓zbs, ↓zez, ↓zeu, ↓zes, ↓zev, ↓zet, ↓zbx, ↓zbt, ↓zby, ↓zbu, ↓zew, ↓zbr, ↓zbz, ↓zbv, ↓zbA, ↓zbw, ↓zer, ↓zex, ↓zbp, ↓zbB, ↓zep, ↓zeo, ↓zeq, iN, bT, bF, eN, ↓zcv, ↓unC, ↓zU, ↓zI, ↓zJ, ↓zM, ↓zX, ↓zal, ↓zcX, ↓zai, ↓zaJ, ↓zW, ↓zg, ↓zn, ↓zbP, ↓zb, ↓zaf, ↓zD, ↓zaI, ↓zaQ, ↓zd, ↓zF, ↓zj, ↓zG, ↓zam, ↓zdc, ↓zdj, ↓zak, ↓zau, ↓zaL, ↓zaY, ↓zbh, ↓zo, ↓zaj, ↓zK, ↓zr, ↓zV, zdk, zbn, zbk, unA, zdu, bnd, zdG, zae, zO, zdW, dm, dm1, zR, zaF, zea, zdZ, zw, Q0, Q1, Q2, Q3, Q4, Q5, zY, zC, zt, zN, zE, Q6, Q7, Q8, Q9, Q10, Q11, Q12, Q13, Q14, Nat.reduceAdd, Q15, Int.reduceToNat, Q16, Q17, Q18, Q19, Q20, reduceIte, Q21, Q22, zA, rep, zZ, zeB, toD, zap, Q23, Q24, Q25, Q26, Q27, Q28, Nat.reduceLeDiff, Q29, Nat.reduceSub, Q30, Q31, Q32, sc, Q33, Q34, Q35, Bool.not_false, Bool.not_true, zhJ, zcU, a]; rfl) : P := (e a).mpr h
theorem zwj {σ : List zf} {a b : List ziN} (ha : a.length ≤ 1073741824) (hA : ∀ x ∈ a, zhF x.batch) (hB : ∀ x ∈ b, zhF x.batch) {K : KT} (hK : K (.d (.bool (decide (a = b)))) σ) :
    zm Tryz.prog zgH [.d (.slice (zfV a)), .d (.slice (zfV b))] σ K := by
  refine zc zkh.is rfl fun hl _ => zkh.goes ?_
  have fin : ∀ z : Bool, decide (a = b) = z → K (.d (.bool z)) σ := fun z hz => by rw [← hz]; exact hK
  clear hK
  simp only [zkw, iN, bT, bF, eN]
  (refine gq11 ?_; try with_reducible exact True.intro)
  by_cases hl2 : a.length = b.length
  · have hne : ((a.length : Int) != (b.length : Int)) = false := by simp [hl2]
    (refine gq4 hne ?_; try with_reducible exact True.intro)
    refine zl a.length (fun k vs s => vs = [.d (.int .i64 k)] ∧ s = σ ∧ a.take k = b.take k) ⟨rfl, rfl, by simp⟩ ?_
    rintro k vs s hk ⟨rfl, rfl, htk⟩
    (refine gq11 ?_; try with_reducible exact True.intro)
    refine zS (fun h => ?_) (fun h => ?_)
    · have hka : k < a.length := by simp at h; omega
      have hx : a[k]? = some a[k] := by simp [hka]
      have hy : b[k]? = some (b[k]'(by omega)) := List.getElem?_eq_getElem _
      have ax := hA _ (List.getElem_mem hka)
      have bx := hB _ (List.getElem_mem (show k < b.length by omega))
      have hgx := zQ (f := zhJ) hx
      have hgy := zQ (f := zhJ) hy
      obtain ⟨x, hxe⟩ : ∃ x, a[k] = x := ⟨_, rfl⟩
      obtain ⟨y, hye⟩ : ∃ y, b[k]'(by omega) = y := ⟨_, rfl⟩
      rw [hxe] at hgx hx ax
      rw [hye] at hgy hy bx
      have hxy : x = y ↔ x.view = y.view ∧ x.seq = y.seq ∧ (x.key = y.key ∧ x.dig = y.dig) ∧ x.batch = y.batch := by cases x; cases y; simp; grind
      have neq : ¬ (x.view = y.view ∧ x.seq = y.seq ∧ (x.key = y.key ∧ x.dig = y.dig) ∧ x.batch = y.batch) → K (.d (.bool false)) s := fun h => fin _ (decide_eq_false (by rintro rfl; rw [hx] at hy; exact h (hxy.1 (Option.some.inj hy))))
      cases h1 : (x.view != y.view)
      rotate_left
      · (refine gq17 (zi hgx (zi hgy h1)) ?_; try with_reducible exact True.intro)
        repeat' ((with_reducible refine And.intro ?_ ?_); focus (first | omega | rfl | decide))
        try (refine gq17 (zi hgx (zi hgy h1)) ?_; try with_reducible exact True.intro)
        refine zq hl ?_
        refine neq (fun h => ?_)
        simp [h.1] at h1
      cases h2 : (x.seq != y.seq)
      rotate_left
      · (refine gq17 (zi hgx (zi hgy (zi h1 h2))) ?_; try with_reducible exact True.intro)
        repeat' ((with_reducible refine And.intro ?_ ?_); focus (first | omega | rfl | decide))
        try (refine gq17 (zi hgx (zi hgy (zi h1 h2))) ?_; try with_reducible exact True.intro)
        refine zq hl ?_
        refine neq (fun h => ?_)
        simp [h.2.1] at h2
      cases h3 : (x.key == y.key && x.dig == y.dig)
      · (refine gq17 (zi hgx (zi hgy (zi h1 (zi h2 h3)))) ?_; try with_reducible exact True.intro)
        repeat' ((with_reducible refine And.intro ?_ ?_); focus (first | omega | rfl | decide))
        try (refine gq17 (zi hgx (zi hgy (zi h1 (zi h2 h3)))) ?_; try with_reducible exact True.intro)
        refine zq hl ?_
        refine neq (fun h => ?_)
        simp [h.2.2.1.1, h.2.2.1.2] at h3
      (refine gq17 (zi hgx (zi hgy (zi h1 (zi h2 h3)))) ?_; try with_reducible exact True.intro)
      repeat' ((with_reducible refine And.intro ?_ ?_); focus (first | omega | rfl | decide))
      try (refine gq17 (zi hgx (zi hgy (zi h1 (zi h2 h3)))) ?_; try with_reducible exact True.intro)
      refine zwl ax bx ?_
      by_cases h4 : x.batch = y.batch
      · rw [decide_eq_true h4]
        (refine gq13 ?_; try with_reducible exact True.intro)
        simp only [Bool.and_eq_true, beq_iff_eq, bne_eq_false_iff_eq] at h1 h2 h3
        refine zaG.next hka ⟨?_, rfl, zbi hx hy htk (hxy.2 ⟨h1, h2, h3, h4⟩)⟩
        rw [show (k : Int) + 1 = ((k + 1 : Nat) : Int) by omega, zat (by omega) (by omega)]
      · rw [decide_eq_false h4]
        (refine gq13 ?_; try with_reducible exact True.intro)
        refine zq hl ?_
        exact neq (fun h => h4 h.2.2.2)
    · refine zq hl ?_
      refine fin _ (decide_eq_true (zca hl2 (k := k) (by simp at h; omega) htk))
  · have hne : ((a.length : Int) != (b.length : Int)) = true := by simp; omega
    (refine gq4 hne ?_; try with_reducible exact True.intro)
    refine zq hl ?_
    exact fin _ (decide_eq_false (by rintro rfl; exact hl2 rfl))
end Go.Proofs.YtpgahkdjkanblaaGreat

/- The numbers of a new view's entries fit. No program in sight. -/
set_option linter.unusedSimpArgs false
namespace Go.AW

theorem zsf {cs : List zaa} {k : Nat} {p : zbW} (h : p ∈ zeU cs k) : ∃ c ∈ cs, p ∈ c.above := by
  simp only [zeU, List.mem_flatten, List.mem_map] at h
  obtain ⟨_, ⟨c, hc, rfl⟩, hp⟩ := h
  exact ⟨c, List.mem_of_mem_take hc, hp⟩
theorem great_le {cs : List zaa} (hR : ∀ c ∈ cs, zmE c) (k : Nat) : zdJ (zeU cs k) ≤ 9223372036854775807 :=
  greatF_lt (by omega) fun p hp => by
    obtain ⟨c, hc, hp⟩ := zsf hp
    exact ((hR c hc).2.2.2.2.1 p hp).2.1.2
theorem best_mem_R {cs : List zaa} (hR : ∀ c ∈ cs, zmE c) {k : Nat} (hk : k ≤ cs.length) (h : cs ≠ []) : zny (zpw cs k).seq := by
  obtain ⟨c, hc, e⟩ := ztm hk h
  rw [e]
  exact (hR c hc).2.2.1
theorem mayF_ne {f view : Int} {cs : List zaa} (h : mayF f view cs = 0) : cs ≠ [] ∧ zbK f = 0 := by
  unfold mayF at h
  by_cases h0 : zbK f ≠ 0
  · rw [if_pos h0] at h; exact absurd h h0
  · rw [if_neg h0] at h
    have h0 : zbK f = 0 := by simpa using h0
    refine ⟨?_, h0⟩
    rintro rfl
    have hf : ¬ (f < 1 ∨ f > 4) := by
      intro hf
      rw [zbK, if_pos hf] at h0
      omega
    have ht : zcJ 2 f = 2 * f + 1 := by rw [zcJ, if_neg hf]
    split at h
    · omega
    · split at h
      · omega
      · rw [ht] at h
        simp only [List.length_nil] at h
        split at h <;> omega
theorem manyF_le8 (g b : Int) : manyF g b ≤ 8 := by unfold manyF; omega
end Go.AW
