/- Contracts: whether a proof shows what it says, on both sides. -/
import Derived.Test.YtaocmalhjfakdaaPr4
import Derived.Test.YtaocmalhjfakdaaMk2
import Derived.Test.YtaocmalhjfakdaaHd2
import Derived.Test.YtaocmalhjfakdaaAwEnd
import Derived.Test.YtaocmalhjfakdaaQu1
import Derived.Test.YtaocmalhjfakdaaSpNum
import Derived.Test.YtaocmalhjfakdaaOpC
set_option linter.all false
set_option maxRecDepth 100000
set_option linter.unusedSimpArgs false
set_option linter.unusedVariables false
namespace Go.Proofs.Ytaocmalhjfakdaa
open Go.AW

end Go.Proofs.Ytaocmalhjfakdaa

/- Maps keyed by integers: what is found after a put. -/
set_option linter.unusedSimpArgs false
namespace Go.AW

abbrev ents (l : List (Int × AV)) : List (AV × AV) := l.map fun e => (.d (.int .i64 e.1), e.2)
end Go.AW

/- Contracts: certificates that are kept. -/
set_option maxRecDepth 100000
set_option linter.unusedSimpArgs false
set_option linter.unusedVariables false
namespace Go.Proofs.Ytaocmalhjfakdaa
open Go.AW

abbrev hE (l : List (Int × TPrep)) : List (AV × AV) := ents (l.map fun e => (e.1, prepA e.2))
structure HeldAt (σ : List zb) (h m : Nat) (l : List (Int × TPrep)) : Prop where
  box : σ[h]? = some (.box [.map m])
  map : σ[m]? = some (.map (hE l))
theorem HeldAt.app {σ : List zb} {h m : Nat} {l : List (Int × TPrep)} (H : HeldAt σ h m l) (τ : List zb) : HeldAt (σ ++ τ) h m l := ⟨zf H.box, zf H.map⟩

theorem c_clRec {σ : List zb} {l : List UInt8} (hn : l.length ≤ 1073741824) {K : AV → List zb → Prop} (hK : K (.d (.slice (bcs l))) σ) : zi Try.prog ze [.d (.slice (bcs l))] σ K := by
  refine acE1 zde fun hl => ?_
  have hlen := zcb l
  have h2 : ∀ e ∈ bcs l, e.length = 1 := zfi
  simp only [zbj, iN, bT, bF, eN, zan, zek]
  obtain ⟨es, hes⟩ : ∃ es, bcs l = es := ⟨_, rfl⟩
  rw [hes] at hlen h2 hK ⊢
  cases es with
  | nil =>
    refine ⟨?_, ?_⟩
    · refine gq1 ?_
      refine zdG hl ?_
      exact hK
    · refine gq1 ?_
      refine zdG hl ?_
      exact hK
  | cons e es =>
    simp only [zaj, zE, zt, zT, rep, zn, zgG, zah, zC, zeU]
    refine ⟨h2, by simp, by rw [hlen]; simp; omega, ?_⟩
    refine zdG hl ?_
    exact hK

end Go.Proofs.Ytaocmalhjfakdaa
