/- Contracts: certificates that are kept. -/
import Derived.Test.YtcappjcojggehaaGreatPr2
import Derived.Test.YtcappjcojggehaaGreatSpMap
import Derived.Test.YtcappjcojggehaaGreatOpS
set_option linter.all false
set_option maxRecDepth 100000
set_option linter.unusedSimpArgs false
set_option linter.unusedVariables false
namespace Go.Proofs.YtcappjcojggehaaGreat
open Go.AW

theorem c_clSign {σ : List zb} {l : List zR} (hn : l.length ≤ 1073741824) {K : AV → List zb → Prop} (hK : K (.d (.slice (zaY l))) σ) : zN Tryz.prog zbg [.d (.slice (zaY l))] σ K := by
  refine zk zbO.is rfl fun hl _ => zbO.goes ?_
  have hlen : (zaY l).length = l.length := List.length_map ..
  have h2 : ∀ e ∈ zaY l, e.length = 2 := zjI (f := zia) (fun _ => rfl) l
  simp only [zbP, iN, bT, bF, eN, zab, zbQ]
  obtain ⟨es, hes⟩ : ∃ es, zaY l = es := ⟨_, rfl⟩
  rw [hes] at hlen h2 hK ⊢
  cases es with
  | nil =>
    refine ⟨?_, ?_⟩
    · (repeat' first | refine gq1 ?_ | with_reducible first | exact ⟨⟩ | refine zA ?_ | fail)
      (first | refine zar hl ?_ | refine zaq hl ?_)
      exact hK
    · (repeat' first | refine gq1 ?_ | with_reducible first | exact ⟨⟩ | refine zA ?_ | fail)
      (first | refine zar hl ?_ | refine zaq hl ?_)
      exact hK
  | cons e es =>
    simp only [zH, zi, zM, zag, rep, zj, zcz, zac, zl, zcd]
    refine ⟨h2, by simp, by rw [hlen]; simp; omega, ?_⟩
    (first | refine zar hl ?_ | refine zaq hl ?_)
    exact hK
theorem c_prClone {σ : List zb} {p : zcs} (hp : smallP p) {K : AV → List zb → Prop} (hK : K (zkT p) σ) : zN Tryz.prog zdZ [zkT p] σ K := by
  refine zk zgJ.is rfl fun hl _ => zgJ.goes ?_
  simp only [zgV, iN, bT, bF, eN, zkT]
  (repeat' first | refine gq1 ?_ | with_reducible first | exact ⟨⟩ | refine zA ?_ | fail)
  refine c_clSign hp.signs ?_
  (repeat' first | refine gq1 ?_ | with_reducible first | exact ⟨⟩ | refine zA ?_ | fail)
  refine c_rqClone (b := p.batch) ⟨hp.batch, fun s hs => (sizes (hp.ops s hs)).2.2⟩ ?_
  (repeat' first | refine gq1 ?_ | with_reducible first | exact ⟨⟩ | refine zA ?_ | fail)
  (first | refine zar hl ?_ | refine zaq hl ?_)
  exact hK
def findP (s : Int) : List (Int × zcs) → Nat → Option (Nat × zcs)
  | [], _ => none
  | e :: r, i => if s = e.1 then some (i, e.2) else findP s r (i + 1)
abbrev hE (l : List (Int × zcs)) : List (AV × AV) := ents (l.map fun e => (e.1, zkT e.2))
theorem mfind_hE (s : Int) : ∀ (l : List (Int × zcs)) (i : Nat), zfc .int (.d (.int .i64 s)) (hE l) i = some ((findP s l i).map fun q => (q.1, zkT q.2))
  | [], _ => rfl
  | e :: r, i => by
    simp only [hE, ents, List.map_cons, zfc, zdm, if_true, findP]
    by_cases h : s = e.1
    · simp [h]
    · have : (s == e.1) = false := by simpa using h
      simp only [this, if_neg h]
      exact mfind_hE s r (i + 1)
structure znZ (σ : List zb) (h m : Nat) (l : List (Int × zcs)) : Prop where
  box : σ[h]? = some (.box [.map m])
  map : σ[m]? = some (.map (hE l))
theorem znZ.app {σ : List zb} {h m : Nat} {l : List (Int × zcs)} (H : znZ σ h m l) (τ : List zb) : znZ (σ ++ τ) h m l := ⟨zaa H.box, zaa H.map⟩
def inR (p : zcs) : Bool := !(decide (p.seq < 1)) && !(decide (p.seq > 9007199254740992))
def hOk (l : List (Int × zcs)) (p : zcs) : Bool := match findP p.seq l 0 with
  | some q => !(decide (q.2.view ≥ p.view))
  | none => true
def hPut (l : List (Int × zcs)) (p : zcs) : List (Int × zcs) := match findP p.seq l 0 with
  | some q => if q.2.view ≥ p.view then l else l.set q.1 (p.seq, p)
  | none => l ++ [(p.seq, p)]
theorem c_heNone {σ : List zb} {h m : Nat} {l : List (Int × zcs)} (H : znZ σ h m l) {K : AV → List zb → Prop} (hK : K (.d (.bool false)) σ) : zN Tryz.prog zbT [.box h 0] σ K := by
  refine zk zeg.is rfl fun hl _ => zeg.goes ?_
  have hb := H.box
  simp only [zel, iN, bT, bF, eN]
  (repeat' first | refine gq2 hb ?_ | with_reducible first | exact ⟨⟩ | refine zA ?_ | fail)
  (first | refine zar hl ?_ | refine zaq hl ?_)
  exact hK
theorem c_heLen {σ : List zb} {h m : Nat} {l : List (Int × zcs)} (H : znZ σ h m l) {K : AV → List zb → Prop} (hK : K (.d (.int .i64 l.length)) σ) : zN Tryz.prog zdg [.box h 0] σ K := by
  refine zk zeG.is rfl fun hl _ => zeG.goes ?_
  have hb := H.box
  have hm := H.map
  have hlen : (hE l).length = l.length := by simp [hE, ents]
  simp only [zeP, iN, bT, bF, eN]
  (repeat' first | refine gq1 ?_ | with_reducible first | exact ⟨⟩ | refine zA ?_ | fail)
  refine c_heNone H ?_
  (repeat' first | refine gq2 (zu hb (zu hm hlen)) ?_ | with_reducible first | exact ⟨⟩ | refine zA ?_ | fail)
  (first | refine zar hl ?_ | refine zaq hl ?_)
  exact hK
theorem c_heNew {σ : List zb} {K : AV → List zb → Prop} (hK : K (.box (σ.length + 1) 0) (σ ++ [.map (hE []), .box [.map σ.length]])) : zN Tryz.prog zfx [] σ K := by
  refine zbu zij.is rfl (fun s => List.range' σ.length 2) fun hl _ => zij.goes ?_
  simp only [ziu, iN, bT, bF, eN]
  (repeat' first | refine gq1 ?_ | with_reducible first | exact ⟨⟩ | refine zA ?_ | fail)
  refine zdr (σ' := σ) (os := [.map (hE []), .box [.map σ.length]]) rfl rfl hl ?_ (.box _ _ (by simp)) hK
  intro x hx
  simp only [List.mem_cons, List.not_mem_nil, or_false] at hx
  rcases hx with rfl | rfl
  · intro e he
    simp [hE, ents] at he
  · intro c hc
    simp only [List.mem_cons, List.not_mem_nil, or_false] at hc
    subst hc
    exact .map _ (by simp)
theorem hE_set (l : List (Int × zcs)) (i : Nat) (p : zcs) : (hE l).set i (.d (.int .i64 p.seq), zkT p) = hE (l.set i (p.seq, p)) := by
  simp only [hE, ents, List.map_set]
theorem hE_add (l : List (Int × zcs)) (p : zcs) : hE l ++ [(.d (.int .i64 p.seq), zkT p)] = hE (l ++ [(p.seq, p)]) := by simp [hE, ents]
theorem lowHE (n : Nat) (l : List (Int × zcs)) : zoF n (.map (hE l)) := by
  intro e he
  simp only [hE, ents, List.map_map, List.mem_map] at he
  obtain ⟨x, _, rfl⟩ := he
  refine ⟨.d _, .agg _ fun c hc => ?_⟩
  simp only [List.mem_cons, List.not_mem_nil, or_false] at hc
  rcases hc with rfl | rfl | rfl | rfl | rfl | rfl | rfl <;> exact .d _
theorem gq62 {A P Q : Prop} (a : A) (h : Q) (e : A → P = Q := by intro a; simp -dsimp only [↓zcI, ↓zai, ↓zaH, ↓zcJ, ↓zcE, ↓zcC, ↓zcF, ↓zcD, ↓zaM, ↓zaI, ↓zaN, ↓zaJ, ↓zcG, ↓zaG, ↓zaO, ↓zaK, ↓zaP, ↓zaL, ↓zcB, ↓zcH, ↓zaF, ↓zaQ, ↓zcy, ↓zcx, ↓zcA, iN, bT, bF, eN, ↓zbL, ↓unC, ↓zH, ↓zw, ↓zx, ↓zB, ↓zK, ↓zaz, ↓zbv, ↓zY, ↓zbh, ↓zP, ↓zr, ↓zp, ↓zbj, ↓zf, ↓zU, ↓zF, ↓zan, ↓zas, ↓zc, ↓zC, ↓zj, ↓zl, ↓zab, ↓zbK, ↓zbJ, ↓zae, ↓zah, ↓zam, ↓zav, ↓zaB, ↓zg, ↓zW, ↓zy, ↓zi, ↓zJ, zbM, zaE, zaD, unA, zbQ, bnd, zcb, zQ, zag, zcd, dm, dm1, zM, zao, zcr, zcq, zS, Q0, Q1, Q2, Q3, Q4, Q5, zG, zh, zn, zq, zt, Q6, Q7, Q8, Q9, Q10, Q11, Q12, Q13, Q14, Nat.reduceAdd, Q15, Int.reduceToNat, Q16, Q17, Q18, Q19, Q20, reduceIte, Q21, Q22, zm, rep, zL, zcz, toD, zac, Q23, Q24, Q25, Q26, Q27, Q28, Nat.reduceLeDiff, Q29, Nat.reduceSub, Q30, Q31, Q32, sc, Q33, Q34, Q35, Q36, Q37, Q26, Q38, Q39, zfa, zeX, zeU, zfb, zbC, zeY, zeV, zeZ, zeW, zbB, zbD, zfd, zfe, Bool.not_true, Bool.not_false, List.length_map, Option.map_none, zby, zcc, zam, zlB, a]; rfl) : P := (e a).mpr h
theorem gq63 {A P Q : Prop} (a : A) (h : Q) (e : A → P = Q := by intro a; simp -dsimp only [↓zcI, ↓zai, ↓zaH, ↓zcJ, ↓zcE, ↓zcC, ↓zcF, ↓zcD, ↓zaM, ↓zaI, ↓zaN, ↓zaJ, ↓zcG, ↓zaG, ↓zaO, ↓zaK, ↓zaP, ↓zaL, ↓zcB, ↓zcH, ↓zaF, ↓zaQ, ↓zcy, ↓zcx, ↓zcA, iN, bT, bF, eN, ↓zbL, ↓unC, ↓zH, ↓zw, ↓zx, ↓zB, ↓zK, ↓zaz, ↓zbv, ↓zY, ↓zbh, ↓zP, ↓zr, ↓zp, ↓zbj, ↓zf, ↓zU, ↓zF, ↓zan, ↓zas, ↓zc, ↓zC, ↓zj, ↓zl, ↓zab, ↓zbK, ↓zbJ, ↓zae, ↓zah, ↓zam, ↓zav, ↓zaB, ↓zg, ↓zW, ↓zy, ↓zi, ↓zJ, zbM, zaE, zaD, unA, zbQ, bnd, zcb, zQ, zag, zcd, dm, dm1, zM, zao, zcr, zcq, zS, Q0, Q1, Q2, Q3, Q4, Q5, zG, zh, zn, zq, zt, Q6, Q7, Q8, Q9, Q10, Q11, Q12, Q13, Q14, Nat.reduceAdd, Q15, Int.reduceToNat, Q16, Q17, Q18, Q19, Q20, reduceIte, Q21, Q22, zm, rep, zL, zcz, toD, zac, Q23, Q24, Q25, Q26, Q27, Q28, Nat.reduceLeDiff, Q29, Nat.reduceSub, Q30, Q31, Q32, sc, Q33, Q34, Q35, Q36, Q37, Q26, Q38, Q39, zfa, zeX, zeU, zfb, zbC, zeY, zeV, zeZ, zeW, zbB, zbD, zfd, zfe, Bool.not_true, Bool.not_false, List.length_map, Option.map_none, zcc, zav, a]; rfl) : P := (e a).mpr h
theorem gq64 {A P Q : Prop} (a : A) (h : Q) (e : A → P = Q := by intro a; simp -dsimp only [↓zcI, ↓zai, ↓zaH, ↓zcJ, ↓zcE, ↓zcC, ↓zcF, ↓zcD, ↓zaM, ↓zaI, ↓zaN, ↓zaJ, ↓zcG, ↓zaG, ↓zaO, ↓zaK, ↓zaP, ↓zaL, ↓zcB, ↓zcH, ↓zaF, ↓zaQ, ↓zcy, ↓zcx, ↓zcA, iN, bT, bF, eN, ↓zbL, ↓unC, ↓zH, ↓zw, ↓zx, ↓zB, ↓zK, ↓zaz, ↓zbv, ↓zY, ↓zbh, ↓zP, ↓zr, ↓zp, ↓zbj, ↓zf, ↓zU, ↓zF, ↓zan, ↓zas, ↓zc, ↓zC, ↓zj, ↓zl, ↓zab, ↓zbK, ↓zbJ, ↓zae, ↓zah, ↓zam, ↓zav, ↓zaB, ↓zg, ↓zW, ↓zy, ↓zi, ↓zJ, zbM, zaE, zaD, unA, zbQ, bnd, zcb, zQ, zag, zcd, dm, dm1, zM, zao, zcr, zcq, zS, Q0, Q1, Q2, Q3, Q4, Q5, zG, zh, zn, zq, zt, Q6, Q7, Q8, Q9, Q10, Q11, Q12, Q13, Q14, Nat.reduceAdd, Q15, Int.reduceToNat, Q16, Q17, Q18, Q19, Q20, reduceIte, Q21, Q22, zm, rep, zL, zcz, toD, zac, Q23, Q24, Q25, Q26, Q27, Q28, Nat.reduceLeDiff, Q29, Nat.reduceSub, Q30, Q31, Q32, sc, Q33, Q34, Q35, Q36, Q37, Q26, Q38, Q39, zfa, zeX, zeU, zfb, zbC, zeY, zeV, zeZ, zeW, zbB, zbD, zfd, zfe, Bool.not_true, Bool.not_false, List.length_map, Option.map_some, zby, zcc, zam, zlB, a]; rfl) : P := (e a).mpr h
theorem gq65 {A P Q : Prop} (a : A) (h : Q) (e : A → P = Q := by intro a; simp -dsimp only [↓zcI, ↓zai, ↓zaH, ↓zcJ, ↓zcE, ↓zcC, ↓zcF, ↓zcD, ↓zaM, ↓zaI, ↓zaN, ↓zaJ, ↓zcG, ↓zaG, ↓zaO, ↓zaK, ↓zaP, ↓zaL, ↓zcB, ↓zcH, ↓zaF, ↓zaQ, ↓zcy, ↓zcx, ↓zcA, iN, bT, bF, eN, ↓zbL, ↓unC, ↓zH, ↓zw, ↓zx, ↓zB, ↓zK, ↓zaz, ↓zbv, ↓zY, ↓zbh, ↓zP, ↓zr, ↓zp, ↓zbj, ↓zf, ↓zU, ↓zF, ↓zan, ↓zas, ↓zc, ↓zC, ↓zj, ↓zl, ↓zab, ↓zbK, ↓zbJ, ↓zae, ↓zah, ↓zam, ↓zav, ↓zaB, ↓zg, ↓zW, ↓zy, ↓zi, ↓zJ, zbM, zaE, zaD, unA, zbQ, bnd, zcb, zQ, zag, zcd, dm, dm1, zM, zao, zcr, zcq, zS, Q0, Q1, Q2, Q3, Q4, Q5, zG, zh, zn, zq, zt, Q6, Q7, Q8, Q9, Q10, Q11, Q12, Q13, Q14, Nat.reduceAdd, Q15, Int.reduceToNat, Q16, Q17, Q18, Q19, Q20, reduceIte, Q21, Q22, zm, rep, zL, zcz, toD, zac, Q23, Q24, Q25, Q26, Q27, Q28, Nat.reduceLeDiff, Q29, Nat.reduceSub, Q30, Q31, Q32, sc, Q33, Q34, Q35, Q36, Q37, Q26, Q38, Q39, zfa, zeX, zeU, zfb, zbC, zeY, zeV, zeZ, zeW, zbB, zbD, zfd, zfe, Bool.not_true, Bool.not_false, List.length_map, Option.map_some, zcc, zav, a]; rfl) : P := (e a).mpr h
theorem c_hePut {σ : List zb} {h m : Nat} {l : List (Int × zcs)} {p : zcs} (H : znZ σ h m l) (hp : smallP p) {K : AV → List zb → Prop}
    (hK : K (.d (.bool (inR p && hOk l p))) (σ.set m (.map (hE (if inR p = true then hPut l p else l))))) :
    zN Tryz.prog zcg [.box h 0, zkT p] σ K := by
  refine zk zeF.is rfl fun hl _ => zeF.goes ?_
  have hb : ∀ τ, (σ ++ τ)[h]? = some (.box [.map m]) := fun τ => zaa H.box
  have hm : ∀ τ, (σ ++ τ)[m]? = some (.map (hE l)) := fun τ => zaa H.map
  have hsm : ∀ τ X, (σ ++ τ).set m X = σ.set m X ++ τ := fun τ X => zbR H.map
  have hf := mfind_hE p.seq l 0
  have hsame : σ.set m (.map (hE l)) = σ := zbF H.map
  simp only [zeO, iN, bT, bF, eN, zkT]
  (repeat' first | refine gq1 ?_ | with_reducible first | exact ⟨⟩ | refine zA ?_ | fail)
  refine c_heNone (H.app _) ?_
  cases h1 : decide (p.seq < 1)
  rotate_left
  · simp only [inR, h1, Bool.not_true, Bool.false_and, Bool.false_eq_true, if_false, hsame] at hK
    (repeat' first | refine gq2 h1 ?_ | with_reducible first | exact ⟨⟩ | refine zA ?_ | fail)
    (first | refine zar hl ?_ | refine zaq hl ?_)
    exact hK
  cases h2 : decide (p.seq > 9007199254740992)
  rotate_left
  · simp only [inR, h2, Bool.not_true, Bool.and_false, Bool.false_and, Bool.false_eq_true, if_false, hsame] at hK
    (repeat' first | refine gq2 (zu h1 h2) ?_ | with_reducible first | exact ⟨⟩ | refine zA ?_ | fail)
    (first | refine zar hl ?_ | refine zaq hl ?_)
    exact hK
  simp only [inR, h1, h2, Bool.not_false, Bool.true_and, if_true] at hK
  cases hq : findP p.seq l 0 with
  | none =>
    rw [hq] at hf
    simp only [hOk, hPut, hq] at hK
    (repeat' first | refine gq62 (zu h1 (zu h2 (zu hb (zu hm hf)))) ?_ | with_reducible first | exact ⟨⟩ | refine zA ?_ | fail)
    refine c_prClone (p := p) hp ?_
    (repeat' first | refine gq63 (zu hb (zu hm (zu hf hsm))) ?_ | with_reducible first | exact ⟨⟩ | refine zA ?_ | fail)
    rw [hE_add]
    exact ends_set (by simp [zhi, dmT, dm, dm1, zcW]) hl (lowHE _ _) hK
  | some q =>
    rw [hq] at hf
    simp only [hOk, hPut, hq] at hK
    cases h3 : decide (q.2.view ≥ p.view)
    · rw [h3, if_neg (by simpa using h3)] at hK
      (repeat' first | refine gq64 (zu h1 (zu h2 (zu hb (zu hm (zu hf h3))))) ?_ | with_reducible first | exact ⟨⟩ | refine zA ?_ | fail)
      refine c_prClone (p := p) hp ?_
      (repeat' first | refine gq65 (zu hb (zu hm (zu hf hsm))) ?_ | with_reducible first | exact ⟨⟩ | refine zA ?_ | fail)
      rw [hE_set]
      exact ends_set (by simp [zhi, dmT, dm, dm1, zcW]) hl (lowHE _ _) hK
    · rw [h3, if_pos (by simpa using h3), hsame] at hK
      (repeat' first | refine gq64 (zu h1 (zu h2 (zu hb (zu hm (zu hf h3))))) ?_ | with_reducible first | exact ⟨⟩ | refine zA ?_ | fail)
      (first | refine zar hl ?_ | refine zaq hl ?_)
      exact hK
end Go.Proofs.YtcappjcojggehaaGreat
