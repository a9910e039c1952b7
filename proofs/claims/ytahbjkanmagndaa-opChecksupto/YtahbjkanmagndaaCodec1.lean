/- Contracts of the small functions over bytes. -/
import Derived.Test.YtahbjkanmagndaaSh
import Derived.Test.YtahbjkanmagndaaAwEnd
import Derived.Test.YtahbjkanmagndaaCl1
set_option linter.all false
set_option maxRecDepth 100000
set_option linter.unusedSimpArgs false
namespace Go.Proofs.Ytahbjkanmagndaa
open Go.AW

theorem c_slices_Clip {σ : List AObj} {es : List (List D)} {K : AV → List AObj → Prop} (he : ∀ e ∈ es, e.length = 1) (hK : K (.exact es) σ) : ACall Try.prog n_slices_Clip_byte_byte [.d (.slice es)] σ K := by
  refine acall_keep isA_slices_Clip_byte_byte rfl (fun _ => []) fun hl _ => s_slices_Clip_byte_byte ?_
  simp only [S_slices_Clip_byte_byte, lenC, esOf, slcC, bnd, intV, consO]
  refine ⟨rfl, trivial, by omega, by omega, by omega, he, ?_⟩
  simp only [EndsK, EndsL, getL, renOs, pack, renAV]
  simpa using ⟨hl, hK⟩
theorem c_bytes_Equal {σ : List AObj} {a b : List UInt8} {K : AV → List AObj → Prop} (hK : K (.d (.bool (a == b))) σ) : ACall Try.prog n_bytes_Equal [.d (.slice (bcs a)), .d (.slice (bcs b))] σ K := by
  refine acall_of isA_bytes_Equal rfl fun hl _ => s_bytes_Equal ?_
  simp only [S_bytes_Equal, convC, esOf, bytesOf_bcs, binC, binA, strOp, consO]
  exact ends_plain0 (by simp [Low_d, dmT, dm, dm1, pack]) hl hK
end Go.Proofs.Ytahbjkanmagndaa
