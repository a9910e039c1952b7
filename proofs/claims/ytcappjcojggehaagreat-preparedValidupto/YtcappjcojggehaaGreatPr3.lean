/- Contracts: certificates that are kept. -/
import Derived.Test.YtcappjcojggehaaGreatPr2
import Derived.Test.YtcappjcojggehaaGreatSpMap
import Derived.Test.YtcappjcojggehaaGreatOpS
set_option linter.all false
set_option maxRecDepth 100000
set_option linter.unusedSimpArgs false
set_option linter.unusedVariables false
namespace Go.Proofs.YtcappjcojggehaaGreat
open Go.AW

theorem c_clSign {σ : List zb} {l : List zR} (hn : l.length ≤ 1073741824) {K : AV → List zb → Prop} (hK : K (.d (.slice (zaV l))) σ) : zK Tryz.prog zbe [.d (.slice (zaV l))] σ K := by
  refine zi zbK.is rfl fun hl _ => zbK.goes ?_
  have hlen : (zaV l).length = l.length := List.length_map ..
  have h2 : ∀ e ∈ zaV l, e.length = 2 := zoy (f := zhu) (fun _ => rfl) l
  simp only [zbL, iN, bT, bF, eN, zad, zcd]
  obtain ⟨es, hes⟩ : ∃ es, zaV l = es := ⟨_, rfl⟩
  rw [hes] at hlen h2 hK ⊢
  cases es with
  | nil =>
    refine ⟨?_, ?_⟩
    · (repeat' first | refine gq1 ?_ | with_reducible first | exact ⟨⟩ | refine zn ?_ | fail)
      (first | refine zai hl ?_ | refine zah hl ?_)
      exact hK
    · (repeat' first | refine gq1 ?_ | with_reducible first | exact ⟨⟩ | refine zn ?_ | fail)
      (first | refine zai hl ?_ | refine zah hl ?_)
      exact hK
  | cons e es =>
    simp only [zJ, zk, zN, zag, rep, zj, zcI, zae, zo, zcs]
    refine ⟨h2, by simp, by rw [hlen]; simp; omega, ?_⟩
    (first | refine zai hl ?_ | refine zah hl ?_)
    exact hK
theorem c_prClone {σ : List zb} {p : zbN} (hp : zkG p) {K : AV → List zb → Prop} (hK : K (zjg p) σ) : zK Tryz.prog zef [zjg p] σ K := by
  refine zi zgQ.is rfl fun hl _ => zgQ.goes ?_
  simp only [zhe, iN, bT, bF, eN, zjg]
  (repeat' first | refine gq1 ?_ | with_reducible first | exact ⟨⟩ | refine zn ?_ | fail)
  refine c_clSign hp.signs ?_
  (repeat' first | refine gq1 ?_ | with_reducible first | exact ⟨⟩ | refine zn ?_ | fail)
  refine c_rqClone (b := p.batch) ⟨hp.batch, fun s hs => (zom (hp.ops s hs)).2.2⟩ ?_
  (repeat' first | refine gq1 ?_ | with_reducible first | exact ⟨⟩ | refine zn ?_ | fail)
  (first | refine zai hl ?_ | refine zah hl ?_)
  exact hK
def findP (s : Int) : List (Int × zbN) → Nat → Option (Nat × zbN)
  | [], _ => none
  | e :: r, i => if s = e.1 then some (i, e.2) else findP s r (i + 1)
abbrev hE (l : List (Int × zbN)) : List (AV × AV) := ents (l.map fun e => (e.1, zjg e.2))
theorem mfind_hE (s : Int) : ∀ (l : List (Int × zbN)) (i : Nat), zfP .int (.d (.int .i64 s)) (hE l) i = some ((findP s l i).map fun q => (q.1, zjg q.2))
  | [], _ => rfl
  | e :: r, i => by
    simp only [hE, ents, List.map_cons, zfP, zdC, if_true, findP]
    by_cases h : s = e.1
    · simp [h]
    · have : (s == e.1) = false := by simpa using h
      simp only [this, if_neg h]
      exact mfind_hE s r (i + 1)
structure zoj (σ : List zb) (h m : Nat) (l : List (Int × zbN)) : Prop where
  box : σ[h]? = some (.box [.map m])
  map : σ[m]? = some (.map (hE l))
theorem zoj.app {σ : List zb} {h m : Nat} {l : List (Int × zbN)} (H : zoj σ h m l) (τ : List zb) : zoj (σ ++ τ) h m l := ⟨zE H.box, zE H.map⟩
def inR (p : zbN) : Bool := !(decide (p.seq < 1)) && !(decide (p.seq > 9007199254740992))
def hOk (l : List (Int × zbN)) (p : zbN) : Bool := match findP p.seq l 0 with
  | some q => !(decide (q.2.view ≥ p.view))
  | none => true
def hPut (l : List (Int × zbN)) (p : zbN) : List (Int × zbN) := match findP p.seq l 0 with
  | some q => if q.2.view ≥ p.view then l else l.set q.1 (p.seq, p)
  | none => l ++ [(p.seq, p)]
theorem c_heNone {σ : List zb} {h m : Nat} {l : List (Int × zbN)} (H : zoj σ h m l) {K : AV → List zb → Prop} (hK : K (.d (.bool false)) σ) : zK Tryz.prog zbQ [.box h 0] σ K := by
  refine zi zep.is rfl fun hl _ => zep.goes ?_
  have hb := H.box
  simp only [zet, iN, bT, bF, eN]
  (repeat' first | refine gq2 hb ?_ | with_reducible first | exact ⟨⟩ | refine zn ?_ | fail)
  (first | refine zai hl ?_ | refine zah hl ?_)
  exact hK
theorem c_heLen {σ : List zb} {h m : Nat} {l : List (Int × zbN)} (H : zoj σ h m l) {K : AV → List zb → Prop} (hK : K (.d (.int .i64 l.length)) σ) : zK Tryz.prog zdf [.box h 0] σ K := by
  refine zi zeN.is rfl fun hl _ => zeN.goes ?_
  have hb := H.box
  have hm := H.map
  have hlen : (hE l).length = l.length := by simp [hE, ents]
  simp only [zeX, iN, bT, bF, eN]
  (repeat' first | refine gq1 ?_ | with_reducible first | exact ⟨⟩ | refine zn ?_ | fail)
  refine c_heNone H ?_
  (repeat' first | refine gq2 (zp hb (zp hm hlen)) ?_ | with_reducible first | exact ⟨⟩ | refine zn ?_ | fail)
  (first | refine zai hl ?_ | refine zah hl ?_)
  exact hK
theorem c_heNew {σ : List zb} {K : AV → List zb → Prop} (hK : K (.box (σ.length + 1) 0) (σ ++ [.map (hE []), .box [.map σ.length]])) : zK Tryz.prog zfy [] σ K := by
  refine zbw ziz.is rfl (fun s => List.range' σ.length 2) fun hl _ => ziz.goes ?_
  simp only [ziI, iN, bT, bF, eN]
  (repeat' first | refine gq1 ?_ | with_reducible first | exact ⟨⟩ | refine zn ?_ | fail)
  refine zdu (σ' := σ) (os := [.map (hE []), .box [.map σ.length]]) rfl rfl hl ?_ (.box _ _ (by simp)) hK
  intro x hx
  simp only [List.mem_cons, List.not_mem_nil, or_false] at hx
  rcases hx with rfl | rfl
  · intro e he
    simp [hE, ents] at he
  · intro c hc
    simp only [List.mem_cons, List.not_mem_nil, or_false] at hc
    subst hc
    exact .map _ (by simp)
theorem hE_set (l : List (Int × zbN)) (i : Nat) (p : zbN) : (hE l).set i (.d (.int .i64 p.seq), zjg p) = hE (l.set i (p.seq, p)) := by
  simp only [hE, ents, List.map_set]
theorem hE_add (l : List (Int × zbN)) (p : zbN) : hE l ++ [(.d (.int .i64 p.seq), zjg p)] = hE (l ++ [(p.seq, p)]) := by simp [hE, ents]
theorem lowHE (n : Nat) (l : List (Int × zbN)) : zoU n (.map (hE l)) := by
  intro e he
  simp only [hE, ents, List.map_map, List.mem_map] at he
  obtain ⟨x, _, rfl⟩ := he
  refine ⟨.d _, .agg _ fun c hc => ?_⟩
  simp only [List.mem_cons, List.not_mem_nil, or_false] at hc
  rcases hc with rfl | rfl | rfl | rfl | rfl | rfl | rfl <;> exact .d _
theorem gq62 {A P Q : Prop} (a : A) (h : Q) (e : A → P = Q := by intro a; simp -dsimp only [↓zcS, ↓zal, ↓zaI, ↓zcT, ↓zcN, ↓zcL, ↓zcO, ↓zcM, ↓zaN, ↓zaJ, ↓zaO, ↓zaK, ↓zcP, ↓zaH, ↓zaP, ↓zaL, ↓zaQ, ↓zaM, ↓zcK, ↓zcQ, ↓zaG, ↓zaR, ↓zcH, ↓zcG, ↓zcJ, iN, bT, bF, eN, ↓zbI, ↓unC, ↓zJ, ↓zx, ↓zy, ↓zC, ↓zQ, ↓zaA, ↓zbD, ↓zaa, ↓zbg, ↓zU, ↓zl, ↓zu, ↓zba, ↓ze, ↓zY, ↓zH, ↓zap, ↓zaw, ↓zc, ↓zD, ↓zj, ↓zo, ↓zad, ↓zbM, ↓zbX, ↓zaf, ↓zaj, ↓zar, ↓zax, ↓zaC, ↓zh, ↓zZ, ↓zB, ↓zk, ↓zO, zbS, zaF, zaD, unA, zcd, bnd, zcp, zT, zag, zcs, dm, dm1, zN, zaq, zcv, zcu, zL, Q0, Q1, Q2, Q3, Q4, Q5, zI, zg, zr, zt, zw, Q6, Q7, Q8, Q9, Q10, Q11, Q12, Q13, Q14, Nat.reduceAdd, Q15, Int.reduceToNat, Q16, Q17, Q18, Q19, Q20, reduceIte, Q21, Q22, zq, rep, zP, zcI, toD, zae, Q23, Q24, Q25, Q26, Q27, Q28, Nat.reduceLeDiff, Q29, Nat.reduceSub, Q30, Q31, Q32, sc, Q33, Q34, Q35, Q36, Q37, Q26, Q38, Q39, zfN, zfK, zfH, zfO, zbV, zfL, zfI, zfM, zfJ, zbU, zbW, zfQ, zfR, Bool.not_true, Bool.not_false, List.length_map, Option.map_none, zcq, zct, zar, mgetR, a]; rfl) : P := (e a).mpr h
theorem gq63 {A P Q : Prop} (a : A) (h : Q) (e : A → P = Q := by intro a; simp -dsimp only [↓zcS, ↓zal, ↓zaI, ↓zcT, ↓zcN, ↓zcL, ↓zcO, ↓zcM, ↓zaN, ↓zaJ, ↓zaO, ↓zaK, ↓zcP, ↓zaH, ↓zaP, ↓zaL, ↓zaQ, ↓zaM, ↓zcK, ↓zcQ, ↓zaG, ↓zaR, ↓zcH, ↓zcG, ↓zcJ, iN, bT, bF, eN, ↓zbI, ↓unC, ↓zJ, ↓zx, ↓zy, ↓zC, ↓zQ, ↓zaA, ↓zbD, ↓zaa, ↓zbg, ↓zU, ↓zl, ↓zu, ↓zba, ↓ze, ↓zY, ↓zH, ↓zap, ↓zaw, ↓zc, ↓zD, ↓zj, ↓zo, ↓zad, ↓zbM, ↓zbX, ↓zaf, ↓zaj, ↓zar, ↓zax, ↓zaC, ↓zh, ↓zZ, ↓zB, ↓zk, ↓zO, zbS, zaF, zaD, unA, zcd, bnd, zcp, zT, zag, zcs, dm, dm1, zN, zaq, zcv, zcu, zL, Q0, Q1, Q2, Q3, Q4, Q5, zI, zg, zr, zt, zw, Q6, Q7, Q8, Q9, Q10, Q11, Q12, Q13, Q14, Nat.reduceAdd, Q15, Int.reduceToNat, Q16, Q17, Q18, Q19, Q20, reduceIte, Q21, Q22, zq, rep, zP, zcI, toD, zae, Q23, Q24, Q25, Q26, Q27, Q28, Nat.reduceLeDiff, Q29, Nat.reduceSub, Q30, Q31, Q32, sc, Q33, Q34, Q35, Q36, Q37, Q26, Q38, Q39, zfN, zfK, zfH, zfO, zbV, zfL, zfI, zfM, zfJ, zbU, zbW, zfQ, zfR, Bool.not_true, Bool.not_false, List.length_map, Option.map_none, zct, zax, a]; rfl) : P := (e a).mpr h
theorem gq64 {A P Q : Prop} (a : A) (h : Q) (e : A → P = Q := by intro a; simp -dsimp only [↓zcS, ↓zal, ↓zaI, ↓zcT, ↓zcN, ↓zcL, ↓zcO, ↓zcM, ↓zaN, ↓zaJ, ↓zaO, ↓zaK, ↓zcP, ↓zaH, ↓zaP, ↓zaL, ↓zaQ, ↓zaM, ↓zcK, ↓zcQ, ↓zaG, ↓zaR, ↓zcH, ↓zcG, ↓zcJ, iN, bT, bF, eN, ↓zbI, ↓unC, ↓zJ, ↓zx, ↓zy, ↓zC, ↓zQ, ↓zaA, ↓zbD, ↓zaa, ↓zbg, ↓zU, ↓zl, ↓zu, ↓zba, ↓ze, ↓zY, ↓zH, ↓zap, ↓zaw, ↓zc, ↓zD, ↓zj, ↓zo, ↓zad, ↓zbM, ↓zbX, ↓zaf, ↓zaj, ↓zar, ↓zax, ↓zaC, ↓zh, ↓zZ, ↓zB, ↓zk, ↓zO, zbS, zaF, zaD, unA, zcd, bnd, zcp, zT, zag, zcs, dm, dm1, zN, zaq, zcv, zcu, zL, Q0, Q1, Q2, Q3, Q4, Q5, zI, zg, zr, zt, zw, Q6, Q7, Q8, Q9, Q10, Q11, Q12, Q13, Q14, Nat.reduceAdd, Q15, Int.reduceToNat, Q16, Q17, Q18, Q19, Q20, reduceIte, Q21, Q22, zq, rep, zP, zcI, toD, zae, Q23, Q24, Q25, Q26, Q27, Q28, Nat.reduceLeDiff, Q29, Nat.reduceSub, Q30, Q31, Q32, sc, Q33, Q34, Q35, Q36, Q37, Q26, Q38, Q39, zfN, zfK, zfH, zfO, zbV, zfL, zfI, zfM, zfJ, zbU, zbW, zfQ, zfR, Bool.not_true, Bool.not_false, List.length_map, Option.map_some, zcq, zct, zar, mgetR, a]; rfl) : P := (e a).mpr h
theorem gq65 {A P Q : Prop} (a : A) (h : Q) (e : A → P = Q := by intro a; simp -dsimp only [↓zcS, ↓zal, ↓zaI, ↓zcT, ↓zcN, ↓zcL, ↓zcO, ↓zcM, ↓zaN, ↓zaJ, ↓zaO, ↓zaK, ↓zcP, ↓zaH, ↓zaP, ↓zaL, ↓zaQ, ↓zaM, ↓zcK, ↓zcQ, ↓zaG, ↓zaR, ↓zcH, ↓zcG, ↓zcJ, iN, bT, bF, eN, ↓zbI, ↓unC, ↓zJ, ↓zx, ↓zy, ↓zC, ↓zQ, ↓zaA, ↓zbD, ↓zaa, ↓zbg, ↓zU, ↓zl, ↓zu, ↓zba, ↓ze, ↓zY, ↓zH, ↓zap, ↓zaw, ↓zc, ↓zD, ↓zj, ↓zo, ↓zad, ↓zbM, ↓zbX, ↓zaf, ↓zaj, ↓zar, ↓zax, ↓zaC, ↓zh, ↓zZ, ↓zB, ↓zk, ↓zO, zbS, zaF, zaD, unA, zcd, bnd, zcp, zT, zag, zcs, dm, dm1, zN, zaq, zcv, zcu, zL, Q0, Q1, Q2, Q3, Q4, Q5, zI, zg, zr, zt, zw, Q6, Q7, Q8, Q9, Q10, Q11, Q12, Q13, Q14, Nat.reduceAdd, Q15, Int.reduceToNat, Q16, Q17, Q18, Q19, Q20, reduceIte, Q21, Q22, zq, rep, zP, zcI, toD, zae, Q23, Q24, Q25, Q26, Q27, Q28, Nat.reduceLeDiff, Q29, Nat.reduceSub, Q30, Q31, Q32, sc, Q33, Q34, Q35, Q36, Q37, Q26, Q38, Q39, zfN, zfK, zfH, zfO, zbV, zfL, zfI, zfM, zfJ, zbU, zbW, zfQ, zfR, Bool.not_true, Bool.not_false, List.length_map, Option.map_some, zct, zax, a]; rfl) : P := (e a).mpr h
theorem c_hePut {σ : List zb} {h m : Nat} {l : List (Int × zbN)} {p : zbN} (H : zoj σ h m l) (hp : zkG p) {K : AV → List zb → Prop}
    (hK : K (.d (.bool (inR p && hOk l p))) (σ.set m (.map (hE (if inR p = true then hPut l p else l))))) :
    zK Tryz.prog zcg [.box h 0, zjg p] σ K := by
  refine zi zeM.is rfl fun hl _ => zeM.goes ?_
  have hb : ∀ τ, (σ ++ τ)[h]? = some (.box [.map m]) := fun τ => zE H.box
  have hm : ∀ τ, (σ ++ τ)[m]? = some (.map (hE l)) := fun τ => zE H.map
  have hsm : ∀ τ X, (σ ++ τ).set m X = σ.set m X ++ τ := fun τ X => zbO H.map
  have hf := mfind_hE p.seq l 0
  have hsame : σ.set m (.map (hE l)) = σ := zbE H.map
  simp only [zeW, iN, bT, bF, eN, zjg]
  (repeat' first | refine gq1 ?_ | with_reducible first | exact ⟨⟩ | refine zn ?_ | fail)
  refine c_heNone (H.app _) ?_
  cases h1 : decide (p.seq < 1)
  rotate_left
  · simp only [inR, h1, Bool.not_true, Bool.false_and, Bool.false_eq_true, if_false, hsame] at hK
    (repeat' first | refine gq2 h1 ?_ | with_reducible first | exact ⟨⟩ | refine zn ?_ | fail)
    (first | refine zai hl ?_ | refine zah hl ?_)
    exact hK
  cases h2 : decide (p.seq > 9007199254740992)
  rotate_left
  · simp only [inR, h2, Bool.not_true, Bool.and_false, Bool.false_and, Bool.false_eq_true, if_false, hsame] at hK
    (repeat' first | refine gq2 (zp h1 h2) ?_ | with_reducible first | exact ⟨⟩ | refine zn ?_ | fail)
    (first | refine zai hl ?_ | refine zah hl ?_)
    exact hK
  simp only [inR, h1, h2, Bool.not_false, Bool.true_and, if_true] at hK
  cases hq : findP p.seq l 0 with
  | none =>
    rw [hq] at hf
    simp only [hOk, hPut, hq] at hK
    (repeat' first | refine gq62 (zp h1 (zp h2 (zp hb (zp hm hf)))) ?_ | with_reducible first | exact ⟨⟩ | refine zn ?_ | fail)
    refine c_prClone (p := p) hp ?_
    (repeat' first | refine gq63 (zp hb (zp hm (zp hf hsm))) ?_ | with_reducible first | exact ⟨⟩ | refine zn ?_ | fail)
    rw [hE_add]
    exact ends_set (by simp [zhr, dmT, dm, dm1, zcV]) hl (lowHE _ _) hK
  | some q =>
    rw [hq] at hf
    simp only [hOk, hPut, hq] at hK
    cases h3 : decide (q.2.view ≥ p.view)
    · rw [h3, if_neg (by simpa using h3)] at hK
      (repeat' first | refine gq64 (zp h1 (zp h2 (zp hb (zp hm (zp hf h3))))) ?_ | with_reducible first | exact ⟨⟩ | refine zn ?_ | fail)
      refine c_prClone (p := p) hp ?_
      (repeat' first | refine gq65 (zp hb (zp hm (zp hf hsm))) ?_ | with_reducible first | exact ⟨⟩ | refine zn ?_ | fail)
      rw [hE_set]
      exact ends_set (by simp [zhr, dmT, dm, dm1, zcV]) hl (lowHE _ _) hK
    · rw [h3, if_pos (by simpa using h3), hsame] at hK
      (repeat' first | refine gq64 (zp h1 (zp h2 (zp hb (zp hm (zp hf h3))))) ?_ | with_reducible first | exact ⟨⟩ | refine zn ?_ | fail)
      (first | refine zai hl ?_ | refine zah hl ?_)
      exact hK
end Go.Proofs.YtcappjcojggehaaGreat
