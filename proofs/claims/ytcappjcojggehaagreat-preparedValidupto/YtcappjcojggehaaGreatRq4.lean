/- Contracts: whether what was sealed is valid; a batch's number. -/
import Derived.Test.YtcappjcojggehaaGreatRq3
import Derived.Test.YtcappjcojggehaaGreatPo3
set_option linter.all false
set_option maxRecDepth 100000
set_option linter.unusedSimpArgs false
set_option linter.unusedVariables false
namespace Go.Proofs.YtcappjcojggehaaGreat
open Go.AW

def zdD (L : List (List UInt8)) (G : List zR) (s : zf) : Bool := decide (zG s = 0) && match zcX L (zje s) with
  | some i => decide (s.key = znu s.client ∧ s.dig = ((i + 1 : Nat) : Int)) && decide ((⟨s.key, s.dig⟩ : zR) ∈ G)
  | none => false
def zdJ (L : List (List UInt8)) (G : List zR) (b : List zf) : Bool := decide (zA b = 0) && !(b.any fun s => !zdD L G s)
def digE (L : List (List UInt8)) (l : List zf) : Int := if zA l ≠ 0 then zA l else if zhs L (zdH l) = 0 then 6 else 0
def digD (L : List (List UInt8)) (l : List zf) : Int := if zA l ≠ 0 then 0 else zhs L (zdH l)
def digL (L : List (List UInt8)) (l : List zf) : List (List UInt8) := if zA l ≠ 0 then L else zjc L (zdH l)
theorem gq42 {P Q : Prop} (h : Q) (e : P = Q := by simp -dsimp only [↓zcS, ↓zal, ↓zaI, ↓zcT, ↓zcN, ↓zcL, ↓zcO, ↓zcM, ↓zaN, ↓zaJ, ↓zaO, ↓zaK, ↓zcP, ↓zaH, ↓zaP, ↓zaL, ↓zaQ, ↓zaM, ↓zcK, ↓zcQ, ↓zaG, ↓zaR, ↓zcH, ↓zcG, ↓zcJ, iN, bT, bF, eN, ↓zbI, ↓unC, ↓zJ, ↓zx, ↓zy, ↓zC, ↓zQ, ↓zaA, ↓zbD, ↓zaa, ↓zbg, ↓zU, ↓zl, ↓zu, ↓zba, ↓ze, ↓zY, ↓zH, ↓zap, ↓zaw, ↓zc, ↓zD, ↓zj, ↓zo, ↓zad, ↓zbM, ↓zbX, ↓zaf, ↓zaj, ↓zar, ↓zax, ↓zaC, ↓zh, ↓zZ, ↓zB, ↓zk, ↓zO, zbS, zaF, zaD, unA, zcd, bnd, zcp, zT, zag, zcs, dm, dm1, zN, zaq, zcv, zcu, zL, Q0, Q1, Q2, Q3, Q4, Q5, zI, zg, zr, zt, zw, Q6, Q7, Q8, Q9, Q10, Q11, Q12, Q13, Q14, Nat.reduceAdd, Q15, Int.reduceToNat, Q16, Q17, Q18, Q19, Q20, reduceIte, Q21, Q22, zq, rep, zP, zcI, toD, zae, Q23, Q24, Q25, Q26, Q27, Q28, Nat.reduceLeDiff, Q29, Nat.reduceSub, Q30, Q31, Q32, sc, Q33, Q34, Q35, Q36, Q37, Q26, Q38, Q39, zfN, zfK, zfH, zfO, zbV, zfL, zfI, zfM, zfJ, zbU, zbW, zfQ, zfR, Bool.not_true, Bool.not_false, List.length_map, Option.isSome_some]; rfl) : P := e.mpr h
theorem gq43 {A P Q : Prop} (a : A) (h : Q) (e : A → P = Q := by intro a; simp -dsimp only [↓zcS, ↓zal, ↓zaI, ↓zcT, ↓zcN, ↓zcL, ↓zcO, ↓zcM, ↓zaN, ↓zaJ, ↓zaO, ↓zaK, ↓zcP, ↓zaH, ↓zaP, ↓zaL, ↓zaQ, ↓zaM, ↓zcK, ↓zcQ, ↓zaG, ↓zaR, ↓zcH, ↓zcG, ↓zcJ, iN, bT, bF, eN, ↓zbI, ↓unC, ↓zJ, ↓zx, ↓zy, ↓zC, ↓zQ, ↓zaA, ↓zbD, ↓zaa, ↓zbg, ↓zU, ↓zl, ↓zu, ↓zba, ↓ze, ↓zY, ↓zH, ↓zap, ↓zaw, ↓zc, ↓zD, ↓zj, ↓zo, ↓zad, ↓zbM, ↓zbX, ↓zaf, ↓zaj, ↓zar, ↓zax, ↓zaC, ↓zh, ↓zZ, ↓zB, ↓zk, ↓zO, zbS, zaF, zaD, unA, zcd, bnd, zcp, zT, zag, zcs, dm, dm1, zN, zaq, zcv, zcu, zL, Q0, Q1, Q2, Q3, Q4, Q5, zI, zg, zr, zt, zw, Q6, Q7, Q8, Q9, Q10, Q11, Q12, Q13, Q14, Nat.reduceAdd, Q15, Int.reduceToNat, Q16, Q17, Q18, Q19, Q20, reduceIte, Q21, Q22, zq, rep, zP, zcI, toD, zae, Q23, Q24, Q25, Q26, Q27, Q28, Nat.reduceLeDiff, Q29, Nat.reduceSub, Q30, Q31, Q32, sc, Q33, Q34, Q35, Q36, Q37, Q26, Q38, Q39, zfN, zfK, zfH, zfO, zbV, zfL, zfI, zfM, zfJ, zbU, zbW, zfQ, zfR, Bool.not_true, Bool.not_false, List.length_map, Bool.false_and, zbH, a]; rfl) : P := (e a).mpr h
theorem gq44 {A P Q : Prop} (a : A) (h : Q) (e : A → P = Q := by intro a; simp -dsimp only [↓zcS, ↓zal, ↓zaI, ↓zcT, ↓zcN, ↓zcL, ↓zcO, ↓zcM, ↓zaN, ↓zaJ, ↓zaO, ↓zaK, ↓zcP, ↓zaH, ↓zaP, ↓zaL, ↓zaQ, ↓zaM, ↓zcK, ↓zcQ, ↓zaG, ↓zaR, ↓zcH, ↓zcG, ↓zcJ, iN, bT, bF, eN, ↓zbI, ↓unC, ↓zJ, ↓zx, ↓zy, ↓zC, ↓zQ, ↓zaA, ↓zbD, ↓zaa, ↓zbg, ↓zU, ↓zl, ↓zu, ↓zba, ↓ze, ↓zY, ↓zH, ↓zap, ↓zaw, ↓zc, ↓zD, ↓zj, ↓zo, ↓zad, ↓zbM, ↓zbX, ↓zaf, ↓zaj, ↓zar, ↓zax, ↓zaC, ↓zh, ↓zZ, ↓zB, ↓zk, ↓zO, zbS, zaF, zaD, unA, zcd, bnd, zcp, zT, zag, zcs, dm, dm1, zN, zaq, zcv, zcu, zL, Q0, Q1, Q2, Q3, Q4, Q5, zI, zg, zr, zt, zw, Q6, Q7, Q8, Q9, Q10, Q11, Q12, Q13, Q14, Nat.reduceAdd, Q15, Int.reduceToNat, Q16, Q17, Q18, Q19, Q20, reduceIte, Q21, Q22, zq, rep, zP, zcI, toD, zae, Q23, Q24, Q25, Q26, Q27, Q28, Nat.reduceLeDiff, Q29, Nat.reduceSub, Q30, Q31, Q32, sc, Q33, Q34, Q35, Q36, Q37, Q26, Q38, Q39, zfN, zfK, zfH, zfO, zbV, zfL, zfI, zfM, zfJ, zbU, zbW, zfQ, zfR, Bool.not_true, Bool.not_false, List.length_map, Bool.and_false, zbH, a]; rfl) : P := (e a).mpr h
theorem gq45 {A P Q : Prop} (a : A) (h : Q) (e : A → P = Q := by intro a; simp -dsimp only [↓zcS, ↓zal, ↓zaI, ↓zcT, ↓zcN, ↓zcL, ↓zcO, ↓zcM, ↓zaN, ↓zaJ, ↓zaO, ↓zaK, ↓zcP, ↓zaH, ↓zaP, ↓zaL, ↓zaQ, ↓zaM, ↓zcK, ↓zcQ, ↓zaG, ↓zaR, ↓zcH, ↓zcG, ↓zcJ, iN, bT, bF, eN, ↓zbI, ↓unC, ↓zJ, ↓zx, ↓zy, ↓zC, ↓zQ, ↓zaA, ↓zbD, ↓zaa, ↓zbg, ↓zU, ↓zl, ↓zu, ↓zba, ↓ze, ↓zY, ↓zH, ↓zap, ↓zaw, ↓zc, ↓zD, ↓zj, ↓zo, ↓zad, ↓zbM, ↓zbX, ↓zaf, ↓zaj, ↓zar, ↓zax, ↓zaC, ↓zh, ↓zZ, ↓zB, ↓zk, ↓zO, zbS, zaF, zaD, unA, zcd, bnd, zcp, zT, zag, zcs, dm, dm1, zN, zaq, zcv, zcu, zL, Q0, Q1, Q2, Q3, Q4, Q5, zI, zg, zr, zt, zw, Q6, Q7, Q8, Q9, Q10, Q11, Q12, Q13, Q14, Nat.reduceAdd, Q15, Int.reduceToNat, Q16, Q17, Q18, Q19, Q20, reduceIte, Q21, Q22, zq, rep, zP, zcI, toD, zae, Q23, Q24, Q25, Q26, Q27, Q28, Nat.reduceLeDiff, Q29, Nat.reduceSub, Q30, Q31, Q32, sc, Q33, Q34, Q35, Q36, Q37, Q26, Q38, Q39, zfN, zfK, zfH, zfO, zbV, zfL, zfI, zfM, zfJ, zbU, zbW, zfQ, zfR, Bool.not_true, Bool.not_false, List.length_map, Bool.true_and, zbH, a]; rfl) : P := (e a).mpr h
theorem c_rqValid {σ : List zb} {id m t id2 m2 t2 : Nat} {L : List (List UInt8)} {G : List zR} {s : zf} (hT : zcy σ id m t L) (hG : zcz σ id2 m2 t2 G)
    (hx : zfi s.op ≤ 20971520) {K : AV → List zb → Prop} (hK : K (.d (.bool (zdD L G s))) σ) : zK Tryz.prog zeC [.box id 0, .box id2 0, zdL s] σ K := by
  refine zi zhG.is rfl fun hl _ => zhG.goes ?_
  have fin : ∀ z, zdD L G s = z → K (.d (.bool z)) σ := fun z h => h ▸ hK
  clear hK
  simp only [zhT, iN, bT, bF, eN, zdL]
  (repeat' first | refine gq1 ?_ | with_reducible first | exact ⟨⟩ | refine zn ?_ | fail)
  refine c_rqBytes (x := s) hx ?_
  by_cases hc : zG s = 0
  · have hb : (zG s != 0) = false := by simpa using hc
    rw [show zbx s = zje s from if_pos hc]
    (repeat' first | refine gq2 hb ?_ | with_reducible first | exact ⟨⟩ | refine zn ?_ | fail)
    refine zoK (hT.app _) ?_
    cases ho : zcX L (zje s) with
    | none =>
      (repeat' first | refine gq7 ?_ | with_reducible first | exact ⟨⟩ | refine zn ?_ | fail)
      (first | refine zai hl ?_ | refine zah hl ?_)
      exact fin _ (by simp [zdD, ho])
    | some i =>
      (repeat' first | refine gq42 ?_ | with_reducible first | exact ⟨⟩ | refine zn ?_ | fail)
      refine c_rqKey ?_
      simp only [zmT]
      cases h1 : (s.key == znu s.client)
      · (repeat' first | refine gq43 h1 ?_ | with_reducible first | exact ⟨⟩ | refine zn ?_ | fail)
        (first | refine zai hl ?_ | refine zah hl ?_)
        exact fin _ (by simp at h1; simp [zdD, ho, h1])
      · cases h2 : (s.dig == ((i + 1 : Nat) : Int))
        · (repeat' first | refine gq44 (zp h1 h2) ?_ | with_reducible first | exact ⟨⟩ | refine zn ?_ | fail)
          (first | refine zai hl ?_ | refine zah hl ?_)
          exact fin _ (by simp at h1 h2; simp [zdD, ho, h1]; intro _ h; omega)
        · (repeat' first | refine gq45 (zp h1 h2) ?_ | with_reducible first | exact ⟨⟩ | refine zn ?_ | fail)
          refine c_gSigned (s := ⟨s.key, s.dig⟩) (hG.app _) ?_
          (repeat' first | refine gq1 ?_ | with_reducible first | exact ⟨⟩ | refine zn ?_ | fail)
          (first | refine zai hl ?_ | refine zah hl ?_)
          exact fin _ (by simp at h1 h2; simp [zdD, ho, hc, h1, h2])
  · have hb : (zG s != 0) = true := by simpa using hc
    (repeat' first | refine gq2 hb ?_ | with_reducible first | exact ⟨⟩ | refine zn ?_ | fail)
    (first | refine zai hl ?_ | refine zah hl ?_)
    exact fin _ (by simp [zdD, hc])
theorem zna {σ : List zb} {id m t id2 m2 t2 : Nat} {L : List (List UInt8)} {G : List zR} {b : List zf} (hT : zcy σ id m t L) (hG : zcz σ id2 m2 t2 G)
    (hx : ∀ s ∈ b, zfi s.op ≤ 20971520) (hbl : b.length ≤ 1073741824) {K : AV → List zb → Prop} (hK : K (.d (.bool (zdJ L G b))) σ) : zK Tryz.prog zcU [.box id 0, .box id2 0, .d (.slice (zbu b))] σ K := by
  refine zi zen.is rfl fun hl _ => zen.goes ?_
  have hok : okB b := ⟨hbl, fun s hs => zom (hx s hs)⟩
  simp only [zer, iN, bT, bF, eN]
  (repeat' first | refine gq1 ?_ | with_reducible first | exact ⟨⟩ | refine zn ?_ | fail)
  refine zla hok ?_
  by_cases hc : zA b = 0
  · have hq : (zA b == 0) = true := by simpa using hc
    rw [zdJ, decide_eq_true hc, Bool.true_and] at hK
    (repeat' first | refine gq2 hq ?_ | with_reducible first | exact ⟨⟩ | refine zn ?_ | fail)
    have e0 : (σ ++ [zb.box [AV.box id 0], zb.box [AV.box id2 0]])[σ.length]? = some (zb.box [AV.box id 0]) := by rw [zr]; rfl
    have e1 : (σ ++ [zb.box [AV.box id 0], zb.box [AV.box id2 0]])[σ.length + 1]? = some (zb.box [AV.box id2 0]) := by rw [zg]; rfl
    have hT1 := hT.app [zb.box [AV.box id 0], zb.box [AV.box id2 0]]
    have hG1 := hG.app [zb.box [AV.box id 0], zb.box [AV.box id2 0]]
    refine zhP (p := fun s => !zdD L G s) hbl (fun s hs K' hK' => ?_) ?_
    · obtain ⟨S, hS⟩ : ∃ S, σ ++ [zb.box [AV.box id 0], zb.box [AV.box id2 0]] = S := ⟨_, rfl⟩
      rw [hS] at e0 e1 hT1 hG1 hK' ⊢
      refine zi zdG.is rfl fun hl _ => zdG.goes ?_
      have e0' : ∀ τ, (S ++ τ)[σ.length]? = some (zb.box [AV.box id 0]) := fun τ => zE e0
      have e1' : ∀ τ, (S ++ τ)[σ.length + 1]? = some (zb.box [AV.box id2 0]) := fun τ => zE e1
      simp only [zdI, iN, bT, bF, eN, zdL]
      (repeat' first | refine gq2 (zp e0' e1') ?_ | with_reducible first | exact ⟨⟩ | refine zn ?_ | fail)
      refine c_rqValid (s := s) (hT1.app _) (hG1.app _) (hx s hs) ?_
      (repeat' first | refine gq1 ?_ | with_reducible first | exact ⟨⟩ | refine zn ?_ | fail)
      (first | refine zai hl ?_ | refine zah hl ?_)
      exact hK'
    · (repeat' first | refine gq2 hq ?_ | with_reducible first | exact ⟨⟩ | refine zn ?_ | fail)
      (first | refine zai hl ?_ | refine zah hl ?_)
      exact hK
  · have hq : (zA b == 0) = false := by simpa using hc
    rw [zdJ, decide_eq_false hc, Bool.false_and] at hK
    (repeat' first | refine gq2 hq ?_ | with_reducible first | exact ⟨⟩ | refine zn ?_ | fail)
    (first | refine zai hl ?_ | refine zah hl ?_)
    exact hK
end Go.Proofs.YtcappjcojggehaaGreat
