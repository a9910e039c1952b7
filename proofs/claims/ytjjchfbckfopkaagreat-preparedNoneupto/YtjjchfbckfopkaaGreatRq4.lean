/- Contracts: whether what was sealed is valid; a batch's number. -/
import Derived.Test.YtjjchfbckfopkaaGreatRq3
import Derived.Test.YtjjchfbckfopkaaGreatSpPool
set_option linter.all false
set_option maxRecDepth 100000
set_option linter.unusedSimpArgs false
set_option linter.unusedVariables false
namespace Go.Proofs.YtjjchfbckfopkaaGreat
open Go.AW

def ziF (L : List (List UInt8)) (G : List zO) (s : ze) : Bool := decide (zB s = 0) && match zdE L (zkx s) with
  | some i => decide (s.key = keyF s.client ∧ s.dig = ((i + 1 : Nat) : Int)) && decide ((⟨s.key, s.dig⟩ : zO) ∈ G)
  | none => false
def zgR (L : List (List UInt8)) (G : List zO) (b : List ze) : Bool := decide (zw b = 0) && !(b.any fun s => !ziF L G s)
def digE (L : List (List UInt8)) (l : List ze) : Int := if zw l ≠ 0 then zw l else if zgO L (zeE l) = 0 then 6 else 0
def digD (L : List (List UInt8)) (l : List ze) : Int := if zw l ≠ 0 then 0 else zgO L (zeE l)
def digL (L : List (List UInt8)) (l : List ze) : List (List UInt8) := if zw l ≠ 0 then L else ziG L (zeE l)
theorem c_rqValid {σ : List zb} {id m t id2 m2 t2 : Nat} {L : List (List UInt8)} {G : List zO} {s : ze} (hT : zcF σ id m t L) (hG : zcS σ id2 m2 t2 G)
    (hx : zgJ s.op ≤ 20971520) {K : AV → List zb → Prop} (hK : K (.d (.bool (ziF L G s))) σ) : zn Tryz.prog zeQ [.box id 0, .box id2 0, zet s] σ K := by
  refine acE3 zmf fun hl => ?_
  have fin : ∀ z, ziF L G s = z → K (.d (.bool z)) σ := fun z h => h ▸ hK
  clear hK
  simp only [zhm, iN, bT, bF, eN, zet]
  refine gq1 ?_
  refine c_rqBytes (x := s) hx ?_
  by_cases hc : zB s = 0
  · have hb : (zB s != 0) = false := by simpa using hc
    rw [show zbI s = zkx s from if_pos hc]
    refine gq2 hb ?_
    refine zoC (hT.app _) ?_
    cases ho : zdE L (zkx s) with
    | none =>
      refine gq5 ?_
      refine zam hl ?_
      exact fin _ (by simp [ziF, ho])
    | some i =>
      refine gq5 ?_
      refine c_rqKey ?_
      simp only [numOf]
      cases h1 : (s.key == keyF s.client)
      · refine gq8 h1 ?_
        refine zam hl ?_
        exact fin _ (by simp at h1; simp [ziF, ho, h1])
      · cases h2 : (s.dig == ((i + 1 : Nat) : Int))
        · refine gq8 (zo h1 h2) ?_
          refine zam hl ?_
          exact fin _ (by simp at h1 h2; simp [ziF, ho, h1]; intro _ h; omega)
        · refine gq8 (zo h1 h2) ?_
          refine c_gSigned (s := ⟨s.key, s.dig⟩) (hG.app _) ?_
          refine gq1 ?_
          refine zam hl ?_
          exact fin _ (by simp at h1 h2; simp [ziF, ho, hc, h1, h2])
  · have hb : (zB s != 0) = true := by simpa using hc
    refine gq2 hb ?_
    refine zam hl ?_
    exact fin _ (by simp [ziF, hc])
theorem zmW {σ : List zb} {id m t id2 m2 t2 : Nat} {L : List (List UInt8)} {G : List zO} {b : List ze} (hT : zcF σ id m t L) (hG : zcS σ id2 m2 t2 G)
    (hx : ∀ s ∈ b, zgJ s.op ≤ 20971520) (hbl : b.length ≤ 1073741824) {K : AV → List zb → Prop} (hK : K (.d (.bool (zgR L G b))) σ) : zn Tryz.prog zcK [.box id 0, .box id2 0, .d (.slice (zbn b))] σ K := by
  refine acE3 zhM fun hl => ?_
  have hok : okB b := ⟨hbl, fun s hs => sizes (hx s hs)⟩
  simp only [zeG, iN, bT, bF, eN]
  refine gq1 ?_
  refine zkK hok ?_
  by_cases hc : zw b = 0
  · have hq : (zw b == 0) = true := by simpa using hc
    rw [zgR, decide_eq_true hc, Bool.true_and] at hK
    refine gq2 hq ?_
    have e0 : (σ ++ [zb.box [AV.box id 0], zb.box [AV.box id2 0]])[σ.length]? = some (zb.box [AV.box id 0]) := by rw [zp]; rfl
    have e1 : (σ ++ [zb.box [AV.box id 0], zb.box [AV.box id2 0]])[σ.length + 1]? = some (zb.box [AV.box id2 0]) := by rw [zg]; rfl
    have hT1 := hT.app [zb.box [AV.box id 0], zb.box [AV.box id2 0]]
    have hG1 := hG.app [zb.box [AV.box id 0], zb.box [AV.box id2 0]]
    refine zhi (p := fun s => !ziF L G s) hbl (fun s hs K' hK' => ?_) ?_
    · obtain ⟨S, hS⟩ : ∃ S, σ ++ [zb.box [AV.box id 0], zb.box [AV.box id2 0]] = S := ⟨_, rfl⟩
      rw [hS] at e0 e1 hT1 hG1 hK' ⊢
      refine acE3 zgN fun hl => ?_
      have e0' : ∀ τ, (S ++ τ)[σ.length]? = some (zb.box [AV.box id 0]) := fun τ => zk e0
      have e1' : ∀ τ, (S ++ τ)[σ.length + 1]? = some (zb.box [AV.box id2 0]) := fun τ => zk e1
      simp only [zdJ, iN, bT, bF, eN, zet]
      refine gq2 (zo e0' e1') ?_
      refine c_rqValid (s := s) (hT1.app _) (hG1.app _) (hx s hs) ?_
      refine gq1 ?_
      refine zam hl ?_
      exact hK'
    · refine gq2 hq ?_
      refine zam hl ?_
      exact hK
  · have hq : (zw b == 0) = false := by simpa using hc
    rw [zgR, decide_eq_false hc, Bool.false_and] at hK
    refine gq2 hq ?_
    refine zam hl ?_
    exact hK
end Go.Proofs.YtjjchfbckfopkaaGreat
