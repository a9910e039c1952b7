/- The numbers of a new view's entries fit. No program in sight. -/
import Derived.Test.YtndpnfbcnmebjaaSpOp
import Derived.Test.YtndpnfbcnmebjaaSpMap
set_option linter.all false
set_option linter.unusedSimpArgs false
namespace Go.AW

theorem prepsOf_mem {cs : List TChange} {k : Nat} {p : TPrep} (h : p ∈ prepsOf cs k) : ∃ c ∈ cs, p ∈ c.above := by
  simp only [prepsOf, List.mem_flatten, List.mem_map] at h
  obtain ⟨_, ⟨c, hc, rfl⟩, hp⟩ := h
  exact ⟨c, List.mem_of_mem_take hc, hp⟩
theorem great_le {cs : List TChange} (hR : ∀ c ∈ cs, changeR c) (k : Nat) : greatF (prepsOf cs k) ≤ 9223372036854775807 :=
  greatF_lt (by omega) fun p hp => by
    obtain ⟨c, hc, hp⟩ := prepsOf_mem hp
    exact ((hR c hc).2.2.2.2.1 p hp).2.1.2
theorem best_mem_R {cs : List TChange} (hR : ∀ c ∈ cs, changeR c) {k : Nat} (hk : k ≤ cs.length) (h : cs ≠ []) : i64r (bestF cs k).seq := by
  obtain ⟨c, hc, e⟩ := bestF_mem hk h
  rw [e]
  exact (hR c hc).2.2.1
theorem mayF_ne {f view : Int} {cs : List TChange} (h : mayF f view cs = 0) : cs ≠ [] ∧ checkF f = 0 := by
  unfold mayF at h
  by_cases h0 : checkF f ≠ 0
  · rw [if_pos h0] at h; exact absurd h h0
  · rw [if_neg h0] at h
    have h0 : checkF f = 0 := by simpa using h0
    refine ⟨?_, h0⟩
    rintro rfl
    have hf : ¬ (f < 1 ∨ f > 4) := by
      intro hf
      rw [checkF, if_pos hf] at h0
      omega
    have ht : timesF 2 f = 2 * f + 1 := by rw [timesF, if_neg hf]
    split at h
    · omega
    · split at h
      · omega
      · rw [ht] at h
        simp only [List.length_nil] at h
        split at h <;> omega
theorem manyF_le8 (g b : Int) : manyF g b ≤ 8 := by unfold manyF; omega
theorem manyF_lt {g b : Int} {n : Nat} (h : n < manyF g b) : n < 8 ∧ (n : Int) < g - b := by unfold manyF at h; omega
theorem manyF_ge {g b : Int} {n : Nat} (hb : b < g) (h : n = manyF g b) : 8 ≤ n ∨ g - b ≤ (n : Int) := by unfold manyF at h; omega
end Go.AW
