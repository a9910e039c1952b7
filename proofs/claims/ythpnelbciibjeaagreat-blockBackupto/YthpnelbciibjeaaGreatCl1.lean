/- Contracts: bytes.Clone. -/
import Derived.Test.YthpnelbciibjeaaGreatSh
import Derived.Test.YthpnelbciibjeaaGreatAwEnd
set_option linter.all false
set_option maxRecDepth 100000
set_option linter.unusedSimpArgs false
namespace Go.Proofs.YthpnelbciibjeaaGreat
open Go.AW

theorem zeW {σ : List zc} {es : List (List D)} {K : AV → List zc → Prop} (he : ∀ e ∈ es, e.length = 1) (hn : es.length ≤ 1073741824) (hK : K (.own σ.length es) (σ ++ [.tok 1 es.length])) : zt Tryz.prog zcE [.d (.slice es)] σ K := by
  refine zt.tok he ?_ hK
  refine zci zjO.is rfl (fun s => if s.length = σ.length then [] else [σ.length]) fun hl _ => zjO.goes ?_
  simp only [zkf, iN, bT, bF, eN, zay, zeU]
  cases es with
  | nil =>
    refine ⟨?_, ?_⟩
    · simp only [zW, zO, zA]
      exact ziY (by simp) hl rfl (by simp)
    · simp only [zW, zC, zA, zat, rep, zn, zgz, zae, zI, zfI]
      refine ⟨by simp, by simp, by simp, ?_⟩
      exact zei hl (by simp) (by simp)
  | cons e es =>
    simp only [zW, zC, zA, zat, rep, zn, zgz, zae, zI, zfI]
    refine ⟨he, by simp, by simp at hn ⊢; omega, ?_⟩
    exact zei hl (by simp) (by simp)
end Go.Proofs.YthpnelbciibjeaaGreat
