/- The law PoolDoes, from the contracts. -/
import Derived.Test.YtfnnejokhikefaaLaw18a
set_option linter.all false
set_option maxRecDepth 100000
set_option linter.unusedSimpArgs false
set_option linter.unusedVariables false
namespace Go.Proofs.Ytfnnejokhikefaa
open Go.AW

theorem pickF_mem {op : List (List TSigned)} {x : TSigned} : ∀ (w out : List TSigned), x ∈ w.foldl (pickStep op) out → x ∈ out ∨ x ∈ w
  | [], out, h => .inl h
  | y :: w, out, h => by
    rcases pickF_mem w _ h with h | h
    · unfold pickStep at h
      split at h
      · rcases List.mem_append.1 h with h | h
        · exact .inl h
        · simp at h; subst h; exact .inr (.head _)
      · exact .inl h
    · exact .inr (.tail _ h)
theorem pick_small {q : PQ} (hq : PoolI q) {op : List (List TSigned)} : smallB (pickF (waitF q) op) := by
  have h := smallB_of hq.wait_ok
  refine ⟨by have := pickF_len (waitF q) op; omega, fun x hx => ?_⟩
  rcases pickF_mem _ _ hx with h1 | h1
  · cases h1
  · exact h.2 x h1
end Go.Proofs.Ytfnnejokhikefaa
