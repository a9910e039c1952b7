/- Contracts: whether what was sealed is valid; a batch's number. -/
import Derived.Test.YtcappjcojggehaaGreatRq3
set_option linter.all false
set_option maxRecDepth 100000
set_option linter.unusedSimpArgs false
set_option linter.unusedVariables false
namespace Go.Proofs.YtcappjcojggehaaGreat
open Go.AW

def zcH (L : List (List UInt8)) (G : List TSign) (s : zk) : Bool := decide (zJ s = 0) && match lookF L (reqB s) with
  | some i => decide (s.key = keyF s.client ∧ s.dig = ((i + 1 : Nat) : Int)) && decide ((⟨s.key, s.dig⟩ : TSign) ∈ G)
  | none => false
def zcL (L : List (List UInt8)) (G : List TSign) (b : List zk) : Bool := decide (zA b = 0) && !(b.any fun s => !zcH L G s)
def digE (L : List (List UInt8)) (l : List zk) : Int := if zA l ≠ 0 then zA l else if sumN L (zcJ l) = 0 then 6 else 0
def digD (L : List (List UInt8)) (l : List zk) : Int := if zA l ≠ 0 then 0 else sumN L (zcJ l)
def digL (L : List (List UInt8)) (l : List zk) : List (List UInt8) := if zA l ≠ 0 then L else sumL L (zcJ l)
theorem gq42 {P Q : Prop} (h : Q) (e : P = Q := by simp -dsimp only [↓zae, ↓loopL, ↓binC, ↓unC, ↓zL, ↓zD, ↓zE, ↓zF, ↓zP, ↓lenC, ↓slcC, ↓convC, ↓boxC, ↓zH, ↓loadC, ↓zp, ↓nilC, ↓zh, ↓zV, ↓zr, ↓idxSC, ↓idxAC, ↓zi, ↓zG, ↓zl, ↓zt, ↓zZ, ↓maxC, ↓minC, ↓zab, ↓zac, ↓mgetC, ↓msetC, ↓mdelC, ↓zn, ↓zW, ↓zC, ↓zq, ↓zN, binA, intOp, strOp, unA, esOf, bnd, intV, zR, fillV, srcE, dm, dm1, consO, cellA, maxL, minL, keepO, Q0, Q1, Q2, Q3, Q4, Q5, zK, zm, zw, zx, zy, Q6, Q7, Q8, Q9, Q10, Q11, Q12, Q13, Q14, Nat.reduceAdd, Q15, Int.reduceToNat, Q16, Q17, Q18, Q19, Q20, reduceIte, Q21, Q22, zu, rep, zO, toDs, toD, zaa, Q23, Q24, Q25, Q26, Q27, Q28, Nat.reduceLeDiff, Q29, Nat.reduceSub, Q30, Q31, Q32, sc, Q33, Q34, Q35, Q36, Q37, Q26, Q38, Q39, n0gt, n1gt, n2gt, n0eq, n1eq0, n1eq, n2eq, n0ne, n1ne, n1ne0, n0ne1, i0ne, i0eq, Bool.not_true, Bool.not_false, List.length_map, Option.isSome_some]; rfl) : P := e.mpr h
theorem gq43 {A P Q : Prop} (a : A) (h : Q) (e : A → P = Q := by intro a; simp -dsimp only [↓zae, ↓loopL, ↓binC, ↓unC, ↓zL, ↓zD, ↓zE, ↓zF, ↓zP, ↓lenC, ↓slcC, ↓convC, ↓boxC, ↓zH, ↓loadC, ↓zp, ↓nilC, ↓zh, ↓zV, ↓zr, ↓idxSC, ↓idxAC, ↓zi, ↓zG, ↓zl, ↓zt, ↓zZ, ↓maxC, ↓minC, ↓zab, ↓zac, ↓mgetC, ↓msetC, ↓mdelC, ↓zn, ↓zW, ↓zC, ↓zq, ↓zN, binA, intOp, strOp, unA, esOf, bnd, intV, zR, fillV, srcE, dm, dm1, consO, cellA, maxL, minL, keepO, Q0, Q1, Q2, Q3, Q4, Q5, zK, zm, zw, zx, zy, Q6, Q7, Q8, Q9, Q10, Q11, Q12, Q13, Q14, Nat.reduceAdd, Q15, Int.reduceToNat, Q16, Q17, Q18, Q19, Q20, reduceIte, Q21, Q22, zu, rep, zO, toDs, toD, zaa, Q23, Q24, Q25, Q26, Q27, Q28, Nat.reduceLeDiff, Q29, Nat.reduceSub, Q30, Q31, Q32, sc, Q33, Q34, Q35, Q36, Q37, Q26, Q38, Q39, n0gt, n1gt, n2gt, n0eq, n1eq0, n1eq, n2eq, n0ne, n1ne, n1ne0, n0ne1, i0ne, i0eq, Bool.not_true, Bool.not_false, List.length_map, Bool.false_and, zaZ, a]; rfl) : P := (e a).mpr h
theorem gq44 {A P Q : Prop} (a : A) (h : Q) (e : A → P = Q := by intro a; simp -dsimp only [↓zae, ↓loopL, ↓binC, ↓unC, ↓zL, ↓zD, ↓zE, ↓zF, ↓zP, ↓lenC, ↓slcC, ↓convC, ↓boxC, ↓zH, ↓loadC, ↓zp, ↓nilC, ↓zh, ↓zV, ↓zr, ↓idxSC, ↓idxAC, ↓zi, ↓zG, ↓zl, ↓zt, ↓zZ, ↓maxC, ↓minC, ↓zab, ↓zac, ↓mgetC, ↓msetC, ↓mdelC, ↓zn, ↓zW, ↓zC, ↓zq, ↓zN, binA, intOp, strOp, unA, esOf, bnd, intV, zR, fillV, srcE, dm, dm1, consO, cellA, maxL, minL, keepO, Q0, Q1, Q2, Q3, Q4, Q5, zK, zm, zw, zx, zy, Q6, Q7, Q8, Q9, Q10, Q11, Q12, Q13, Q14, Nat.reduceAdd, Q15, Int.reduceToNat, Q16, Q17, Q18, Q19, Q20, reduceIte, Q21, Q22, zu, rep, zO, toDs, toD, zaa, Q23, Q24, Q25, Q26, Q27, Q28, Nat.reduceLeDiff, Q29, Nat.reduceSub, Q30, Q31, Q32, sc, Q33, Q34, Q35, Q36, Q37, Q26, Q38, Q39, n0gt, n1gt, n2gt, n0eq, n1eq0, n1eq, n2eq, n0ne, n1ne, n1ne0, n0ne1, i0ne, i0eq, Bool.not_true, Bool.not_false, List.length_map, Bool.and_false, zaZ, a]; rfl) : P := (e a).mpr h
theorem gq45 {A P Q : Prop} (a : A) (h : Q) (e : A → P = Q := by intro a; simp -dsimp only [↓zae, ↓loopL, ↓binC, ↓unC, ↓zL, ↓zD, ↓zE, ↓zF, ↓zP, ↓lenC, ↓slcC, ↓convC, ↓boxC, ↓zH, ↓loadC, ↓zp, ↓nilC, ↓zh, ↓zV, ↓zr, ↓idxSC, ↓idxAC, ↓zi, ↓zG, ↓zl, ↓zt, ↓zZ, ↓maxC, ↓minC, ↓zab, ↓zac, ↓mgetC, ↓msetC, ↓mdelC, ↓zn, ↓zW, ↓zC, ↓zq, ↓zN, binA, intOp, strOp, unA, esOf, bnd, intV, zR, fillV, srcE, dm, dm1, consO, cellA, maxL, minL, keepO, Q0, Q1, Q2, Q3, Q4, Q5, zK, zm, zw, zx, zy, Q6, Q7, Q8, Q9, Q10, Q11, Q12, Q13, Q14, Nat.reduceAdd, Q15, Int.reduceToNat, Q16, Q17, Q18, Q19, Q20, reduceIte, Q21, Q22, zu, rep, zO, toDs, toD, zaa, Q23, Q24, Q25, Q26, Q27, Q28, Nat.reduceLeDiff, Q29, Nat.reduceSub, Q30, Q31, Q32, sc, Q33, Q34, Q35, Q36, Q37, Q26, Q38, Q39, n0gt, n1gt, n2gt, n0eq, n1eq0, n1eq, n2eq, n0ne, n1ne, n1ne0, n0ne1, i0ne, i0eq, Bool.not_true, Bool.not_false, List.length_map, Bool.true_and, zaZ, a]; rfl) : P := (e a).mpr h
theorem c_rqValid {σ : List AObj} {id m t id2 m2 t2 : Nat} {L : List (List UInt8)} {G : List TSign} {s : zk} (hT : TabAt σ id m t L) (hG : LedAt σ id2 m2 t2 G)
    (hx : opSz s.op ≤ 20971520) {K : AV → List AObj → Prop} (hK : K (.d (.bool (zcH L G s))) σ) : ACall Tryz.prog zdK [.box id 0, .box id2 0, zcN s] σ K := by
  refine zo zjB rfl fun hl _ => zlk ?_
  have fin : ∀ z, zcH L G s = z → K (.d (.bool z)) σ := fun z h => h ▸ hK
  clear hK
  simp only [zgv, zcN]
  (repeat' (first | (refine gq1 ?_; try with_reducible exact True.intro) | ((with_reducible refine And.intro ?_ ?_); focus (first | omega | rfl | decide | (simp; done)))))
  refine c_rqBytes (x := s) hx ?_
  by_cases hc : zJ s = 0
  · have hb : (zJ s != 0) = false := by simpa using hc
    rw [show zaR s = reqB s from if_pos hc]
    (repeat' (first | (refine gq2 hb ?_; try with_reducible exact True.intro) | ((with_reducible refine And.intro ?_ ?_); focus (first | omega | rfl | decide | (simp; done)))))
    refine zon (hT.app _) ?_
    cases ho : lookF L (reqB s) with
    | none =>
      (repeat' (first | (refine gq7 ?_; try with_reducible exact True.intro) | ((with_reducible refine And.intro ?_ ?_); focus (first | omega | rfl | decide | (simp; done)))))
      (first | refine zg (by simp [Low_d, dmT, dm, dm1, pack, zd, ze, zb]) hl ?_ | refine zf (by simp [Low_d, dmT, dm, dm1, pack, zd, ze, zb]) hl ?_)
      exact fin _ (by simp [zcH, ho])
    | some i =>
      (repeat' (first | (refine gq42 ?_; try with_reducible exact True.intro) | ((with_reducible refine And.intro ?_ ?_); focus (first | omega | rfl | decide | (simp; done)))))
      refine c_rqKey ?_
      simp only [numOf]
      cases h1 : (s.key == keyF s.client)
      · (repeat' (first | (refine gq43 h1 ?_; try with_reducible exact True.intro) | ((with_reducible refine And.intro ?_ ?_); focus (first | omega | rfl | decide | (simp; done)))))
        (first | refine zg (by simp [Low_d, dmT, dm, dm1, pack, zd, ze, zb]) hl ?_ | refine zf (by simp [Low_d, dmT, dm, dm1, pack, zd, ze, zb]) hl ?_)
        exact fin _ (by simp at h1; simp [zcH, ho, h1])
      · cases h2 : (s.dig == ((i + 1 : Nat) : Int))
        · (repeat' (first | (refine gq44 (gqc0 h1 h2) ?_; try with_reducible exact True.intro) | ((with_reducible refine And.intro ?_ ?_); focus (first | omega | rfl | decide | (simp; done)))))
          (first | refine zg (by simp [Low_d, dmT, dm, dm1, pack, zd, ze, zb]) hl ?_ | refine zf (by simp [Low_d, dmT, dm, dm1, pack, zd, ze, zb]) hl ?_)
          exact fin _ (by simp at h1 h2; simp [zcH, ho, h1]; intro _ h; omega)
        · (repeat' (first | (refine gq45 (gqc0 h1 h2) ?_; try with_reducible exact True.intro) | ((with_reducible refine And.intro ?_ ?_); focus (first | omega | rfl | decide | (simp; done)))))
          refine c_gSigned (s := ⟨s.key, s.dig⟩) (hG.app _) ?_
          (repeat' (first | (refine gq1 ?_; try with_reducible exact True.intro) | ((with_reducible refine And.intro ?_ ?_); focus (first | omega | rfl | decide | (simp; done)))))
          (first | refine zg (by simp [Low_d, dmT, dm, dm1, pack, zd, ze, zb]) hl ?_ | refine zf (by simp [Low_d, dmT, dm, dm1, pack, zd, ze, zb]) hl ?_)
          exact fin _ (by simp at h1 h2; simp [zcH, ho, hc, h1, h2])
  · have hb : (zJ s != 0) = true := by simpa using hc
    (repeat' (first | (refine gq2 hb ?_; try with_reducible exact True.intro) | ((with_reducible refine And.intro ?_ ?_); focus (first | omega | rfl | decide | (simp; done)))))
    (first | refine zg (by simp [Low_d, dmT, dm, dm1, pack, zd, ze, zb]) hl ?_ | refine zf (by simp [Low_d, dmT, dm, dm1, pack, zd, ze, zb]) hl ?_)
    exact fin _ (by simp [zcH, hc])
theorem zmJ {σ : List AObj} {id m t id2 m2 t2 : Nat} {L : List (List UInt8)} {G : List TSign} {b : List zk} (hT : TabAt σ id m t L) (hG : LedAt σ id2 m2 t2 G)
    (hx : ∀ s ∈ b, opSz s.op ≤ 20971520) (hbl : b.length ≤ 1073741824) {K : AV → List AObj → Prop} (hK : K (.d (.bool (zcL L G b))) σ) : ACall Tryz.prog zbO [.box id 0, .box id2 0, .d (.slice (zaO b))] σ K := by
  refine zo zfT rfl fun hl _ => zgY ?_
  have hok : okB b := ⟨hbl, fun s hs => sizes (hx s hs)⟩
  simp only [zdB]
  (repeat' (first | (refine gq1 ?_; try with_reducible exact True.intro) | ((with_reducible refine And.intro ?_ ?_); focus (first | omega | rfl | decide | (simp; done)))))
  refine zkt hok ?_
  by_cases hc : zA b = 0
  · have hq : (zA b == 0) = true := by simpa using hc
    rw [zcL, decide_eq_true hc, Bool.true_and] at hK
    (repeat' (first | (refine gq2 hq ?_; try with_reducible exact True.intro) | ((with_reducible refine And.intro ?_ ?_); focus (first | omega | rfl | decide | (simp; done)))))
    have e0 : (σ ++ [AObj.box [AV.box id 0], AObj.box [AV.box id2 0]])[σ.length]? = some (AObj.box [AV.box id 0]) := by rw [zw]; rfl
    have e1 : (σ ++ [AObj.box [AV.box id 0], AObj.box [AV.box id2 0]])[σ.length + 1]? = some (AObj.box [AV.box id2 0]) := by rw [zm]; rfl
    have hT1 := hT.app [AObj.box [AV.box id 0], AObj.box [AV.box id2 0]]
    have hG1 := hG.app [AObj.box [AV.box id 0], AObj.box [AV.box id2 0]]
    refine zgr (p := fun s => !zcH L G s) hbl (fun s hs K' hK' => ?_) ?_
    · obtain ⟨S, hS⟩ : ∃ S, σ ++ [AObj.box [AV.box id 0], AObj.box [AV.box id2 0]] = S := ⟨_, rfl⟩
      rw [hS] at e0 e1 hT1 hG1 hK' ⊢
      refine zo zeK rfl fun hl _ => zfS ?_
      have e0' : ∀ τ, (S ++ τ)[σ.length]? = some (AObj.box [AV.box id 0]) := fun τ => zI e0
      have e1' : ∀ τ, (S ++ τ)[σ.length + 1]? = some (AObj.box [AV.box id2 0]) := fun τ => zI e1
      simp only [zcK, zcN]
      (repeat' (first | (refine gq2 (gqc0 e0' e1') ?_; try with_reducible exact True.intro) | ((with_reducible refine And.intro ?_ ?_); focus (first | omega | rfl | decide | (simp; done)))))
      refine c_rqValid (s := s) (hT1.app _) (hG1.app _) (hx s hs) ?_
      (repeat' (first | (refine gq1 ?_; try with_reducible exact True.intro) | ((with_reducible refine And.intro ?_ ?_); focus (first | omega | rfl | decide | (simp; done)))))
      (first | refine zg (by simp [Low_d, dmT, dm, dm1, pack, zd, ze, zb]) hl ?_ | refine zf (by simp [Low_d, dmT, dm, dm1, pack, zd, ze, zb]) hl ?_)
      exact hK'
    · (repeat' (first | (refine gq2 hq ?_; try with_reducible exact True.intro) | ((with_reducible refine And.intro ?_ ?_); focus (first | omega | rfl | decide | (simp; done)))))
      (first | refine zg (by simp [Low_d, dmT, dm, dm1, pack, zd, ze, zb]) hl ?_ | refine zf (by simp [Low_d, dmT, dm, dm1, pack, zd, ze, zb]) hl ?_)
      exact hK
  · have hq : (zA b == 0) = false := by simpa using hc
    rw [zcL, decide_eq_false hc, Bool.false_and] at hK
    (repeat' (first | (refine gq2 hq ?_; try with_reducible exact True.intro) | ((with_reducible refine And.intro ?_ ?_); focus (first | omega | rfl | decide | (simp; done)))))
    (first | refine zg (by simp [Low_d, dmT, dm, dm1, pack, zd, ze, zb]) hl ?_ | refine zf (by simp [Low_d, dmT, dm, dm1, pack, zd, ze, zb]) hl ?_)
    exact hK
end Go.Proofs.YtcappjcojggehaaGreat
