/- Contracts: certificates that are kept. -/
import Derived.Test.YtaocmalhjfakdaaPo1
import Derived.Test.YtaocmalhjfakdaaSpMap
import Derived.Test.YtaocmalhjfakdaaOpC
import Derived.Test.YtaocmalhjfakdaaMk2
import Derived.Test.YtaocmalhjfakdaaAwFrz
set_option linter.all false
set_option maxRecDepth 100000
set_option linter.unusedSimpArgs false
set_option linter.unusedVariables false
namespace Go.Proofs.Ytaocmalhjfakdaa
open Go.AW

abbrev hE (l : List (Int × TPrep)) : List (AV × AV) := ents (l.map fun e => (e.1, prepA e.2))
structure HeldAt (σ : List zc) (h m : Nat) (l : List (Int × TPrep)) : Prop where
  box : σ[h]? = some (.box [.map m])
  map : σ[m]? = some (.map (hE l))
theorem HeldAt.app {σ : List zc} {h m : Nat} {l : List (Int × TPrep)} (H : HeldAt σ h m l) (τ : List zc) : HeldAt (σ ++ τ) h m l := ⟨zf H.box, zf H.map⟩

theorem zmX {σ : List zc} {l : List UInt8} (hn : l.length ≤ 1073741824) {K : AV → List zc → Prop} (hK : K (.d (.slice (bcs l))) σ) : zt Try.prog zL [.d (.slice (bcs l))] σ K := by
  refine acE1 zdU fun hl => ?_
  have hlen := zbg l
  have h2 : ∀ e ∈ bcs l, e.length = 1 := zej
  simp only [zbI, iN, bT, bF, eN, zas, zeK]
  obtain ⟨es, hes⟩ : ∃ es, bcs l = es := ⟨_, rfl⟩
  rw [hes] at hlen h2 hK ⊢
  cases es with
  | nil =>
    refine ⟨?_, ?_⟩
    · refine gq1 ?_
      refine zgk hl ?_
      exact hK
    · refine gq1 ?_
      refine zgk hl ?_
      exact hK
  | cons e es =>
    simp only [zW, zr, zV, zaj, rep, zl, zfV, zab, zA, zfy]
    refine ⟨h2, by simp, by rw [hlen]; simp; omega, ?_⟩
    refine zgk hl ?_
    exact hK

end Go.Proofs.Ytaocmalhjfakdaa

/- An end of a call that zlt all that it made: what the caller's objects name now lies there. -/
set_option linter.unusedSimpArgs false
set_option linter.unusedVariables false
namespace Go.AW
section
variable {P : Program} {σ : List zc}

def EndsA (K : AV → List zc → Prop) (out : Option (List AV)) (σ' : List zc) : Prop := match out with
  | some l => ∃ s, zjS [] σ' [] s ∧ K (dmT (zcg l)) s
  | none => False
theorem zat {f : FuncId} {F : AF} {na : Nat} (hF : isFn P f F na) {as0 : List AV} (has : as0.length = na) {K : AV → List zc → Prop}
    (h : zeN σ.length σ → (∀ a ∈ as0, Low σ.length a) → awp P F.body (AtEnd fun fr' σ' => EndsA K (zjY fr' σ' F.res) σ') (zfm 0 as0) σ) : zt P f as0 σ K :=
  zgT hF has _ (fun {L w L' σ' w' fr' ts} S st S' F' hz => by
    unfold EndsA at hz
    split at hz
    · rename_i l hl
      obtain ⟨s, hw, hK⟩ := hz
      obtain ⟨L2, st2, S2, _⟩ := zfE hw S' (us := []) ⟨rfl, by simp⟩
      exact ⟨L2, s, l, dmT (zcg l), hl, st.trans st2, S2, fun v hr => zkZ (st2.rv hr), hK⟩
    · exact hz.elim) h
theorem zaR {K : AV → List zc → Prop} {l : List AV} {s : List zc} (h : K (dmT (zcg l)) s) : EndsA K (some l) s := ⟨_, .refl _ _, h⟩
end

end Go.AW
