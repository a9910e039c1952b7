/- Contracts: bytes.Clone. -/
import Derived.Test.YthpnelbciibjeaaSh
import Derived.Test.YthpnelbciibjeaaAwEnd
set_option linter.all false
set_option maxRecDepth 100000
set_option linter.unusedSimpArgs false
namespace Go.Proofs.Ythpnelbciibjeaa
open Go.AW

theorem zeT {σ : List zc} {es : List (List D)} {K : AV → List zc → Prop} (he : ∀ e ∈ es, e.length = 1) (hn : es.length ≤ 1073741824) (hK : K (.own σ.length es) (σ ++ [.tok 1 es.length])) : zj Try.prog zcC [.d (.slice es)] σ K := by
  refine zj.tok he ?_ hK
  refine zdu zjs.is rfl (fun s => if s.length = σ.length then [] else [σ.length]) fun hl _ => zjs.goes ?_
  simp only [zjG, iN, bT, bF, eN, zaI, zfm]
  cases es with
  | nil =>
    refine ⟨?_, ?_⟩
    · simp only [zah, zQ, zA]
      exact zlP (by simp) hl rfl (by simp)
    · simp only [zah, zF, zA, zaw, rep, zq, zgN, zan, zJ, zfQ]
      refine ⟨by simp, by simp, by simp, ?_⟩
      exact zgc hl (by simp) (by simp)
  | cons e es =>
    simp only [zah, zF, zA, zaw, rep, zq, zgN, zan, zJ, zfQ]
    refine ⟨he, by simp, by simp at hn ⊢; omega, ?_⟩
    exact zgc hl (by simp) (by simp)
end Go.Proofs.Ythpnelbciibjeaa
