/- Contracts: whether what was sealed is valid; a batch's number. -/
import Derived.Test.YtcappjcojggehaaGreatRq3
import Derived.Test.YtcappjcojggehaaGreatSpPool
set_option linter.all false
set_option maxRecDepth 100000
set_option linter.unusedSimpArgs false
set_option linter.unusedVariables false
namespace Go.Proofs.YtcappjcojggehaaGreat
open Go.AW

def ziM (L : List (List UInt8)) (G : List zR) (s : zd) : Bool := decide (zI s = 0) && match zck L (zkt s) with
  | some i => decide (s.key = znf s.client ∧ s.dig = ((i + 1 : Nat) : Int)) && decide ((⟨s.key, s.dig⟩ : zR) ∈ G)
  | none => false
def zhj (L : List (List UInt8)) (G : List zR) (b : List zd) : Bool := decide (zD b = 0) && !(b.any fun s => !ziM L G s)
def digE (L : List (List UInt8)) (l : List zd) : Int := if zD l ≠ 0 then zD l else if zgg L (zei l) = 0 then 6 else 0
def digD (L : List (List UInt8)) (l : List zd) : Int := if zD l ≠ 0 then 0 else zgg L (zei l)
def digL (L : List (List UInt8)) (l : List zd) : List (List UInt8) := if zD l ≠ 0 then L else zhQ L (zei l)
theorem gq42 {P Q : Prop} (h : Q) (e : P = Q := by simp -dsimp only [↓zcI, ↓zai, ↓zaH, ↓zcJ, ↓zcE, ↓zcC, ↓zcF, ↓zcD, ↓zaM, ↓zaI, ↓zaN, ↓zaJ, ↓zcG, ↓zaG, ↓zaO, ↓zaK, ↓zaP, ↓zaL, ↓zcB, ↓zcH, ↓zaF, ↓zaQ, ↓zcy, ↓zcx, ↓zcA, iN, bT, bF, eN, ↓zbL, ↓unC, ↓zH, ↓zw, ↓zx, ↓zB, ↓zK, ↓zaz, ↓zbv, ↓zY, ↓zbh, ↓zP, ↓zr, ↓zp, ↓zbj, ↓zf, ↓zU, ↓zF, ↓zan, ↓zas, ↓zc, ↓zC, ↓zj, ↓zl, ↓zab, ↓zbK, ↓zbJ, ↓zae, ↓zah, ↓zam, ↓zav, ↓zaB, ↓zg, ↓zW, ↓zy, ↓zi, ↓zJ, zbM, zaE, zaD, unA, zbQ, bnd, zcb, zQ, zag, zcd, dm, dm1, zM, zao, zcr, zcq, zS, Q0, Q1, Q2, Q3, Q4, Q5, zG, zh, zn, zq, zt, Q6, Q7, Q8, Q9, Q10, Q11, Q12, Q13, Q14, Nat.reduceAdd, Q15, Int.reduceToNat, Q16, Q17, Q18, Q19, Q20, reduceIte, Q21, Q22, zm, rep, zL, zcz, toD, zac, Q23, Q24, Q25, Q26, Q27, Q28, Nat.reduceLeDiff, Q29, Nat.reduceSub, Q30, Q31, Q32, sc, Q33, Q34, Q35, Q36, Q37, Q26, Q38, Q39, zfa, zeX, zeU, zfb, zbC, zeY, zeV, zeZ, zeW, zbB, zbD, zfd, zfe, Bool.not_true, Bool.not_false, List.length_map, Option.isSome_some]; rfl) : P := e.mpr h
theorem gq43 {A P Q : Prop} (a : A) (h : Q) (e : A → P = Q := by intro a; simp -dsimp only [↓zcI, ↓zai, ↓zaH, ↓zcJ, ↓zcE, ↓zcC, ↓zcF, ↓zcD, ↓zaM, ↓zaI, ↓zaN, ↓zaJ, ↓zcG, ↓zaG, ↓zaO, ↓zaK, ↓zaP, ↓zaL, ↓zcB, ↓zcH, ↓zaF, ↓zaQ, ↓zcy, ↓zcx, ↓zcA, iN, bT, bF, eN, ↓zbL, ↓unC, ↓zH, ↓zw, ↓zx, ↓zB, ↓zK, ↓zaz, ↓zbv, ↓zY, ↓zbh, ↓zP, ↓zr, ↓zp, ↓zbj, ↓zf, ↓zU, ↓zF, ↓zan, ↓zas, ↓zc, ↓zC, ↓zj, ↓zl, ↓zab, ↓zbK, ↓zbJ, ↓zae, ↓zah, ↓zam, ↓zav, ↓zaB, ↓zg, ↓zW, ↓zy, ↓zi, ↓zJ, zbM, zaE, zaD, unA, zbQ, bnd, zcb, zQ, zag, zcd, dm, dm1, zM, zao, zcr, zcq, zS, Q0, Q1, Q2, Q3, Q4, Q5, zG, zh, zn, zq, zt, Q6, Q7, Q8, Q9, Q10, Q11, Q12, Q13, Q14, Nat.reduceAdd, Q15, Int.reduceToNat, Q16, Q17, Q18, Q19, Q20, reduceIte, Q21, Q22, zm, rep, zL, zcz, toD, zac, Q23, Q24, Q25, Q26, Q27, Q28, Nat.reduceLeDiff, Q29, Nat.reduceSub, Q30, Q31, Q32, sc, Q33, Q34, Q35, Q36, Q37, Q26, Q38, Q39, zfa, zeX, zeU, zfb, zbC, zeY, zeV, zeZ, zeW, zbB, zbD, zfd, zfe, Bool.not_true, Bool.not_false, List.length_map, Bool.false_and, zbx, a]; rfl) : P := (e a).mpr h
theorem gq44 {A P Q : Prop} (a : A) (h : Q) (e : A → P = Q := by intro a; simp -dsimp only [↓zcI, ↓zai, ↓zaH, ↓zcJ, ↓zcE, ↓zcC, ↓zcF, ↓zcD, ↓zaM, ↓zaI, ↓zaN, ↓zaJ, ↓zcG, ↓zaG, ↓zaO, ↓zaK, ↓zaP, ↓zaL, ↓zcB, ↓zcH, ↓zaF, ↓zaQ, ↓zcy, ↓zcx, ↓zcA, iN, bT, bF, eN, ↓zbL, ↓unC, ↓zH, ↓zw, ↓zx, ↓zB, ↓zK, ↓zaz, ↓zbv, ↓zY, ↓zbh, ↓zP, ↓zr, ↓zp, ↓zbj, ↓zf, ↓zU, ↓zF, ↓zan, ↓zas, ↓zc, ↓zC, ↓zj, ↓zl, ↓zab, ↓zbK, ↓zbJ, ↓zae, ↓zah, ↓zam, ↓zav, ↓zaB, ↓zg, ↓zW, ↓zy, ↓zi, ↓zJ, zbM, zaE, zaD, unA, zbQ, bnd, zcb, zQ, zag, zcd, dm, dm1, zM, zao, zcr, zcq, zS, Q0, Q1, Q2, Q3, Q4, Q5, zG, zh, zn, zq, zt, Q6, Q7, Q8, Q9, Q10, Q11, Q12, Q13, Q14, Nat.reduceAdd, Q15, Int.reduceToNat, Q16, Q17, Q18, Q19, Q20, reduceIte, Q21, Q22, zm, rep, zL, zcz, toD, zac, Q23, Q24, Q25, Q26, Q27, Q28, Nat.reduceLeDiff, Q29, Nat.reduceSub, Q30, Q31, Q32, sc, Q33, Q34, Q35, Q36, Q37, Q26, Q38, Q39, zfa, zeX, zeU, zfb, zbC, zeY, zeV, zeZ, zeW, zbB, zbD, zfd, zfe, Bool.not_true, Bool.not_false, List.length_map, Bool.and_false, zbx, a]; rfl) : P := (e a).mpr h
theorem gq45 {A P Q : Prop} (a : A) (h : Q) (e : A → P = Q := by intro a; simp -dsimp only [↓zcI, ↓zai, ↓zaH, ↓zcJ, ↓zcE, ↓zcC, ↓zcF, ↓zcD, ↓zaM, ↓zaI, ↓zaN, ↓zaJ, ↓zcG, ↓zaG, ↓zaO, ↓zaK, ↓zaP, ↓zaL, ↓zcB, ↓zcH, ↓zaF, ↓zaQ, ↓zcy, ↓zcx, ↓zcA, iN, bT, bF, eN, ↓zbL, ↓unC, ↓zH, ↓zw, ↓zx, ↓zB, ↓zK, ↓zaz, ↓zbv, ↓zY, ↓zbh, ↓zP, ↓zr, ↓zp, ↓zbj, ↓zf, ↓zU, ↓zF, ↓zan, ↓zas, ↓zc, ↓zC, ↓zj, ↓zl, ↓zab, ↓zbK, ↓zbJ, ↓zae, ↓zah, ↓zam, ↓zav, ↓zaB, ↓zg, ↓zW, ↓zy, ↓zi, ↓zJ, zbM, zaE, zaD, unA, zbQ, bnd, zcb, zQ, zag, zcd, dm, dm1, zM, zao, zcr, zcq, zS, Q0, Q1, Q2, Q3, Q4, Q5, zG, zh, zn, zq, zt, Q6, Q7, Q8, Q9, Q10, Q11, Q12, Q13, Q14, Nat.reduceAdd, Q15, Int.reduceToNat, Q16, Q17, Q18, Q19, Q20, reduceIte, Q21, Q22, zm, rep, zL, zcz, toD, zac, Q23, Q24, Q25, Q26, Q27, Q28, Nat.reduceLeDiff, Q29, Nat.reduceSub, Q30, Q31, Q32, sc, Q33, Q34, Q35, Q36, Q37, Q26, Q38, Q39, zfa, zeX, zeU, zfb, zbC, zeY, zeV, zeZ, zeW, zbB, zbD, zfd, zfe, Bool.not_true, Bool.not_false, List.length_map, Bool.true_and, zbx, a]; rfl) : P := (e a).mpr h
theorem c_rqValid {σ : List zb} {id m t id2 m2 t2 : Nat} {L : List (List UInt8)} {G : List zR} {s : zd} (hT : zcT σ id m t L) (hG : zcU σ id2 m2 t2 G)
    (hx : zfz s.op ≤ 20971520) {K : AV → List zb → Prop} (hK : K (.d (.bool (ziM L G s))) σ) : zN Tryz.prog zew [.box id 0, .box id2 0, zet s] σ K := by
  refine zk zhu.is rfl fun hl _ => zhu.goes ?_
  have fin : ∀ z, ziM L G s = z → K (.d (.bool z)) σ := fun z h => h ▸ hK
  clear hK
  simp only [zhF, iN, bT, bF, eN, zet]
  (repeat' first | refine gq1 ?_ | with_reducible first | exact ⟨⟩ | refine zA ?_ | fail)
  refine c_rqBytes (x := s) hx ?_
  by_cases hc : zI s = 0
  · have hb : (zI s != 0) = false := by simpa using hc
    rw [show zbG s = zkt s from if_pos hc]
    (repeat' first | refine gq2 hb ?_ | with_reducible first | exact ⟨⟩ | refine zA ?_ | fail)
    refine zou (hT.app _) ?_
    cases ho : zck L (zkt s) with
    | none =>
      (repeat' first | refine gq7 ?_ | with_reducible first | exact ⟨⟩ | refine zA ?_ | fail)
      (first | refine zar hl ?_ | refine zaq hl ?_)
      exact fin _ (by simp [ziM, ho])
    | some i =>
      (repeat' first | refine gq42 ?_ | with_reducible first | exact ⟨⟩ | refine zA ?_ | fail)
      refine c_rqKey ?_
      simp only [numOf]
      cases h1 : (s.key == znf s.client)
      · (repeat' first | refine gq43 h1 ?_ | with_reducible first | exact ⟨⟩ | refine zA ?_ | fail)
        (first | refine zar hl ?_ | refine zaq hl ?_)
        exact fin _ (by simp at h1; simp [ziM, ho, h1])
      · cases h2 : (s.dig == ((i + 1 : Nat) : Int))
        · (repeat' first | refine gq44 (zu h1 h2) ?_ | with_reducible first | exact ⟨⟩ | refine zA ?_ | fail)
          (first | refine zar hl ?_ | refine zaq hl ?_)
          exact fin _ (by simp at h1 h2; simp [ziM, ho, h1]; intro _ h; omega)
        · (repeat' first | refine gq45 (zu h1 h2) ?_ | with_reducible first | exact ⟨⟩ | refine zA ?_ | fail)
          refine c_gSigned (s := ⟨s.key, s.dig⟩) (hG.app _) ?_
          (repeat' first | refine gq1 ?_ | with_reducible first | exact ⟨⟩ | refine zA ?_ | fail)
          (first | refine zar hl ?_ | refine zaq hl ?_)
          exact fin _ (by simp at h1 h2; simp [ziM, ho, hc, h1, h2])
  · have hb : (zI s != 0) = true := by simpa using hc
    (repeat' first | refine gq2 hb ?_ | with_reducible first | exact ⟨⟩ | refine zA ?_ | fail)
    (first | refine zar hl ?_ | refine zaq hl ?_)
    exact fin _ (by simp [ziM, hc])
theorem zmK {σ : List zb} {id m t id2 m2 t2 : Nat} {L : List (List UInt8)} {G : List zR} {b : List zd} (hT : zcT σ id m t L) (hG : zcU σ id2 m2 t2 G)
    (hx : ∀ s ∈ b, zfz s.op ≤ 20971520) (hbl : b.length ≤ 1073741824) {K : AV → List zb → Prop} (hK : K (.d (.bool (zhj L G b))) σ) : zN Tryz.prog zcS [.box id 0, .box id2 0, .d (.slice (zbs b))] σ K := by
  refine zk zee.is rfl fun hl _ => zee.goes ?_
  have hok : okB b := ⟨hbl, fun s hs => sizes (hx s hs)⟩
  simp only [zej, iN, bT, bF, eN]
  (repeat' first | refine gq1 ?_ | with_reducible first | exact ⟨⟩ | refine zA ?_ | fail)
  refine zkG hok ?_
  by_cases hc : zD b = 0
  · have hq : (zD b == 0) = true := by simpa using hc
    rw [zhj, decide_eq_true hc, Bool.true_and] at hK
    (repeat' first | refine gq2 hq ?_ | with_reducible first | exact ⟨⟩ | refine zA ?_ | fail)
    have e0 : (σ ++ [zb.box [AV.box id 0], zb.box [AV.box id2 0]])[σ.length]? = some (zb.box [AV.box id 0]) := by rw [zn]; rfl
    have e1 : (σ ++ [zb.box [AV.box id 0], zb.box [AV.box id2 0]])[σ.length + 1]? = some (zb.box [AV.box id2 0]) := by rw [zh]; rfl
    have hT1 := hT.app [zb.box [AV.box id 0], zb.box [AV.box id2 0]]
    have hG1 := hG.app [zb.box [AV.box id 0], zb.box [AV.box id2 0]]
    refine zhC (p := fun s => !ziM L G s) hbl (fun s hs K' hK' => ?_) ?_
    · obtain ⟨S, hS⟩ : ∃ S, σ ++ [zb.box [AV.box id 0], zb.box [AV.box id2 0]] = S := ⟨_, rfl⟩
      rw [hS] at e0 e1 hT1 hG1 hK' ⊢
      refine zk zdB.is rfl fun hl _ => zdB.goes ?_
      have e0' : ∀ τ, (S ++ τ)[σ.length]? = some (zb.box [AV.box id 0]) := fun τ => zaa e0
      have e1' : ∀ τ, (S ++ τ)[σ.length + 1]? = some (zb.box [AV.box id2 0]) := fun τ => zaa e1
      simp only [zdC, iN, bT, bF, eN, zet]
      (repeat' first | refine gq2 (zu e0' e1') ?_ | with_reducible first | exact ⟨⟩ | refine zA ?_ | fail)
      refine c_rqValid (s := s) (hT1.app _) (hG1.app _) (hx s hs) ?_
      (repeat' first | refine gq1 ?_ | with_reducible first | exact ⟨⟩ | refine zA ?_ | fail)
      (first | refine zar hl ?_ | refine zaq hl ?_)
      exact hK'
    · (repeat' first | refine gq2 hq ?_ | with_reducible first | exact ⟨⟩ | refine zA ?_ | fail)
      (first | refine zar hl ?_ | refine zaq hl ?_)
      exact hK
  · have hq : (zD b == 0) = false := by simpa using hc
    rw [zhj, decide_eq_false hc, Bool.false_and] at hK
    (repeat' first | refine gq2 hq ?_ | with_reducible first | exact ⟨⟩ | refine zA ?_ | fail)
    (first | refine zar hl ?_ | refine zaq hl ?_)
    exact hK
end Go.Proofs.YtcappjcojggehaaGreat
