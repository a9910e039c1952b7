/- Contracts: certificates that are kept. -/
import Derived.Test.YtaocmalhjfakdaaPo1
import Derived.Test.YtaocmalhjfakdaaSpMap
import Derived.Test.YtaocmalhjfakdaaOpC
import Derived.Test.YtaocmalhjfakdaaMk2
import Derived.Test.YtaocmalhjfakdaaPr4
import Derived.Test.YtaocmalhjfakdaaAwFrz
set_option linter.all false
set_option maxRecDepth 100000
set_option linter.unusedSimpArgs false
set_option linter.unusedVariables false
namespace Go.Proofs.Ytaocmalhjfakdaa
open Go.AW

abbrev hE (l : List (Int × TPrep)) : List (AV × AV) := ents (l.map fun e => (e.1, prepA e.2))
structure HeldAt (σ : List zb) (h m : Nat) (l : List (Int × TPrep)) : Prop where
  box : σ[h]? = some (.box [.map m])
  map : σ[m]? = some (.map (hE l))
theorem HeldAt.app {σ : List zb} {h m : Nat} {l : List (Int × TPrep)} (H : HeldAt σ h m l) (τ : List zb) : HeldAt (σ ++ τ) h m l := ⟨ze H.box, ze H.map⟩

theorem zen {P Q : Prop} (h : Q) (e : Hd Q → P := by intro h; (repeat' first | simp -dsimp only [↓zhJ, ↓zbB, ↓zdh, ↓zhK, ↓zhC, ↓zhA, ↓zhD, ↓zhB, ↓zdm, ↓zdi, ↓zdn, ↓zdj, ↓zhE, ↓zdf, ↓zdo, ↓zdk, ↓zdp, ↓zdl, ↓zhy, ↓zhH, ↓zde, ↓zdq, ↓zhv, ↓zhu, ↓zhx, iN, bT, bF, eN, ↓zeB, ↓unC, ↓zas, ↓zZ, ↓zaa, ↓zaj, ↓zaK, ↓zbO, ↓zdM, ↓zaD, ↓zdL, ↓zaN, ↓zq, ↓zt, ↓zcV, ↓zl, ↓zak, ↓zY, ↓zbk, ↓zbe, ↓zd, ↓zG, ↓zp, ↓zL, ↓zaG, ↓zem, ↓zel, ↓zaH, ↓zbc, ↓zaS, ↓zbN, ↓zcb, ↓zD, ↓zaq, ↓zab, ↓zE, ↓zaE, zeh, zcC, zct, unA, zey, bnd, zfu, zaf, zaC, zfF, dm, dm1, zR, zbD, zge, zgd, zan, Q0, Q1, Q2, Q3, Q4, Q5, zaL, zV, zn, zaJ, zai, Q6, Q7, Q8, Q9, Q10, Q11, Q12, Q13, Q14, Nat.reduceAdd, Q15, Int.reduceToNat, Q16, Q17, Q18, Q19, Q20, reduceIte, Q21, Q22, zB, rep, zO, zgw, toD, zah, Q23, Q24, Q25, Q26, Q27, Q28, Nat.reduceLeDiff, Q29, Nat.reduceSub, Q30, Q31, Q32, sc, Q33, Q34, Q35, Q36, Q37, Q26, Q38, Q39, n0gt, n1gt, n2gt, n0eq, zim, n1eq, n2eq, n0ne, n1ne, zil, zin, i0ne, i0eq, Bool.not_true, Bool.not_false, List.length_map] | with_reducible refine andA ?_ | fail); exact h.go) : P := e ⟨h⟩
theorem zkq {σ : List zb} {l : List UInt8} (hn : l.length ≤ 1073741824) {K : AV → List zb → Prop} (hK : K (.d (.slice (bcs l))) σ) : zC Try.prog zy [.d (.slice (bcs l))] σ K := by
  refine acE1 zcI fun hl => ?_
  have hlen := zgT l
  have h2 : ∀ e ∈ bcs l, e.length = 1 := ziO
  simp only [zbl, iN, bT, bF, eN, zaG, zey]
  obtain ⟨es, hes⟩ : ∃ es, bcs l = es := ⟨_, rfl⟩
  rw [hes] at hlen h2 hK ⊢
  cases es with
  | nil =>
    refine ⟨?_, ?_⟩
    · refine zen ?_
      refine zhF hl ?_
      exact hK
    · refine zen ?_
      refine zhF hl ?_
      exact hK
  | cons e es =>
    simp only [zas, zE, zR, zaC, rep, zp, zgw, zah, zL, zfF]
    refine ⟨h2, by simp, by rw [hlen]; simp; omega, ?_⟩
    refine zhF hl ?_
    exact hK

end Go.Proofs.Ytaocmalhjfakdaa

/- An end of a call that zja all that it made: what the caller's objects name now lies there. -/
set_option linter.unusedSimpArgs false
set_option linter.unusedVariables false
namespace Go.AW
section
variable {P : Program} {σ : List zb}

def EndsA (K : AV → List zb → Prop) (out : Option (List AV)) (σ' : List zb) : Prop := match out with
  | some l => ∃ s, ziS [] σ' [] s ∧ K (dmT (zdY l)) s
  | none => False
theorem zaI {f : FuncId} {F : AF} {na : Nat} (hF : isFn P f F na) {as0 : List AV} (has : as0.length = na) {K : AV → List zb → Prop}
    (h : zev σ.length σ → (∀ a ∈ as0, Low σ.length a) → awp P F.body (AtEnd fun fr' σ' => EndsA K (zib fr' σ' F.res) σ') (zdV 0 as0) σ) : zC P f as0 σ K :=
  zgq hF has _ (fun {L w L' σ' w' fr' ts} S st S' F' hz => by
    unfold EndsA at hz
    split at hz
    · rename_i l hl
      obtain ⟨s, hw, hK⟩ := hz
      obtain ⟨L2, st2, S2, _⟩ := zgu hw S' (us := []) ⟨rfl, by simp⟩
      exact ⟨L2, s, l, dmT (zdY l), hl, st.trans st2, S2, fun v hr => dmT_sound (st2.rv hr), hK⟩
    · exact hz.elim) h
theorem zaW {K : AV → List zb → Prop} {l : List AV} {s : List zb} (h : K (dmT (zdY l)) s) : EndsA K (some l) s := ⟨_, .refl _ _, h⟩
end

end Go.AW
