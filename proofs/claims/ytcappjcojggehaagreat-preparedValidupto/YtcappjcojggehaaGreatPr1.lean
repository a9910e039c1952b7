/- Contracts: whether a certificate is valid, the program's. -/
import Derived.Test.YtcappjcojggehaaGreatAu2
import Derived.Test.YtcappjcojggehaaGreatQu1
import Derived.Test.YtcappjcojggehaaGreatSpNv
set_option linter.all false
set_option maxRecDepth 100000
set_option linter.unusedSimpArgs false
set_option linter.unusedVariables false
namespace Go.Proofs.YtcappjcojggehaaGreat
open Go.AW

theorem c_quView {σ : List zb} {f v : Int} {K : AV → List zb → Prop} (hK : K (.d (.bool (!decide ((f < 1 ∨ f > 4) ∨ v < 0 ∨ v > 9007199254740992)))) σ) : zK Tryz.prog zgx [.d (.int .i64 f), .d (.int .i64 v)] σ K := by
  refine zi zjv.is rfl fun hl _ => zjv.goes ?_
  simp only [zjO, iN, bT, bF, eN]
  (repeat' first | refine gq1 ?_ | with_reducible first | exact ⟨⟩ | refine zn ?_ | fail)
  refine zms ?_
  by_cases h : f < 1 ∨ f > 4
  · rw [decide_eq_true (.inl h)] at hK
    rw [zcY, if_pos h]
    (repeat' first | refine gq2 (show ((120 : Int) == 0) = false from rfl) ?_ | with_reducible first | exact ⟨⟩ | refine zn ?_ | fail)
    (first | refine zai hl ?_ | refine zah hl ?_)
    exact hK
  · rw [zcY, if_neg h]
    cases h1 : decide (v ≥ 0)
    · rw [decide_eq_true (.inr (.inl (by simpa using h1)))] at hK
      (repeat' first | refine gq2 (zp (show ((0 : Int) == 0) = true from rfl) h1) ?_ | with_reducible first | exact ⟨⟩ | refine zn ?_ | fail)
      (first | refine zai hl ?_ | refine zah hl ?_)
      exact hK
    · have h0 : ¬ v < 0 := by simp at h1; omega
      (repeat' first | refine gq2 (zp (show ((0 : Int) == 0) = true from rfl) h1) ?_ | with_reducible first | exact ⟨⟩ | refine zn ?_ | fail)
      (first | refine zai hl ?_ | refine zah hl ?_)
      rw [show decide (v ≤ 9007199254740992) = !decide ((f < 1 ∨ f > 4) ∨ v < 0 ∨ v > 9007199254740992) by
        by_cases h2 : v ≤ 9007199254740992
        · rw [decide_eq_true h2, decide_eq_false (by omega)]; rfl
        · rw [decide_eq_false h2, decide_eq_true (by omega)]; rfl]
      exact hK
theorem c_quPrimary {σ : List zb} {f v : Int} {K : AV → List zb → Prop} (hK : K (.d (.int .i64 (zhy f v))) σ) : zK Tryz.prog zee [.d (.int .i64 f), .d (.int .i64 v)] σ K := by
  refine zi zgO.is rfl fun hl _ => zgO.goes ?_
  simp only [zhc, iN, bT, bF, eN]
  (repeat' first | refine gq1 ?_ | with_reducible first | exact ⟨⟩ | refine zn ?_ | fail)
  refine c_quView ?_
  by_cases h : (f < 1 ∨ f > 4) ∨ v < 0 ∨ v > 9007199254740992
  · rw [zhy, if_pos h] at hK
    rw [decide_eq_true h]
    (repeat' first | refine gq1 ?_ | with_reducible first | exact ⟨⟩ | refine zn ?_ | fail)
    (first | refine zai hl ?_ | refine zah hl ?_)
    exact hK
  · rw [zhy, if_neg h] at hK
    rw [decide_eq_false h]
    have hf : ¬ (f < 1 ∨ f > 4) := fun e => h (.inl e)
    (repeat' first | refine gq1 ?_ | with_reducible first | exact ⟨⟩ | refine zn ?_ | fail)
    refine zmt ?_
    rw [zfC, if_neg hf]
    have := prim_tmod hf (fun e => h (.inr (.inl e))) (fun e => h (.inr (.inr e)))
    have hw : IntKind.i64.wrap (v.tmod (3 * f + 1)) = v.tmod (3 * f + 1) := zak (by omega) (by omega)
    have hz : (3 * f + 1 == 0) = false := by simp; omega
    (repeat' first | refine gq2 (zp hw hz) ?_ | with_reducible first | exact ⟨⟩ | refine zn ?_ | fail)
    (first | refine zai hl ?_ | refine zah hl ?_)
    exact hK
end Go.Proofs.YtcappjcojggehaaGreat
