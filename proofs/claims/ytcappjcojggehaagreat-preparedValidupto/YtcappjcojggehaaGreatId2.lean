/- Contracts: the program's tables and ledgers. -/
import Derived.Test.YtcappjcojggehaaGreatId1
set_option linter.all false
set_option maxRecDepth 100000
set_option linter.unusedSimpArgs false
set_option linter.unusedVariables false
namespace Go.Proofs.YtcappjcojggehaaGreat
open Go.AW

theorem gq1 {P Q : Prop} (h : Q) (e : P = Q := by simp -dsimp only [↓zcS, ↓zal, ↓zaI, ↓zcT, ↓zcN, ↓zcL, ↓zcO, ↓zcM, ↓zaN, ↓zaJ, ↓zaO, ↓zaK, ↓zcP, ↓zaH, ↓zaP, ↓zaL, ↓zaQ, ↓zaM, ↓zcK, ↓zcQ, ↓zaG, ↓zaR, ↓zcH, ↓zcG, ↓zcJ, iN, bT, bF, eN, ↓zbI, ↓unC, ↓zJ, ↓zx, ↓zy, ↓zC, ↓zQ, ↓zaA, ↓zbD, ↓zaa, ↓zbg, ↓zU, ↓zl, ↓zu, ↓zba, ↓ze, ↓zY, ↓zH, ↓zap, ↓zaw, ↓zc, ↓zD, ↓zj, ↓zo, ↓zad, ↓zbM, ↓zbX, ↓zaf, ↓zaj, ↓zar, ↓zax, ↓zaC, ↓zh, ↓zZ, ↓zB, ↓zk, ↓zO, zbS, zaF, zaD, unA, zcd, bnd, zcp, zT, zag, zcs, dm, dm1, zN, zaq, zcv, zcu, zL, Q0, Q1, Q2, Q3, Q4, Q5, zI, zg, zr, zt, zw, Q6, Q7, Q8, Q9, Q10, Q11, Q12, Q13, Q14, Nat.reduceAdd, Q15, Int.reduceToNat, Q16, Q17, Q18, Q19, Q20, reduceIte, Q21, Q22, zq, rep, zP, zcI, toD, zae, Q23, Q24, Q25, Q26, Q27, Q28, Nat.reduceLeDiff, Q29, Nat.reduceSub, Q30, Q31, Q32, sc, Q33, Q34, Q35, Q36, Q37, Q26, Q38, Q39, zfN, zfK, zfH, zfO, zbV, zfL, zfI, zfM, zfJ, zbU, zbW, zfQ, zfR, Bool.not_true, Bool.not_false, List.length_map]; rfl) : P := e.mpr h
theorem znS {σ : List zb} {K : AV → List zb → Prop} (hK : K (.box (σ.length + 1) 0) (σ ++ tabO σ.length [])) : zK Tryz.prog zdb [] σ K := by
  refine zK.weaken ?_
  refine zbw zgV.is rfl (fun s => List.range' σ.length 2) fun hl _ => zgV.goes ?_
  simp only [zhj, iN, bT, bF, eN]
  (repeat' first | refine gq1 ?_ | with_reducible first | exact ⟨⟩ | refine zn ?_ | fail)
  refine zdu (σ' := σ) (os := [.map [], .box [.exact [], .map σ.length]]) rfl rfl hl ?_ (.box _ _ (by simp)) ?_
  · intro x hx
    simp only [List.mem_cons, List.not_mem_nil, or_false] at hx
    rcases hx with rfl | rfl
    · intro e he; cases he
    · intro c hc
      simp only [List.mem_cons, List.not_mem_nil, or_false] at hc
      rcases hc with rfl | rfl
      · exact .exact _
      · exact .map _ (by simp)
  · refine ⟨.box (σ.length + 1) 0, σ ++ tabO σ.length [], ?_, hK⟩
    refine .tokB (σ.length + 1) 0 [.exact [], .map σ.length] [] 1 (by rw [zg]; rfl) rfl (by simp) ?_
    have e : (σ ++ [zb.map [], zb.box [AV.exact [], AV.map σ.length]]).set (σ.length + 1) (.box ([AV.exact [], AV.map σ.length].set 0 (.own (σ ++ [zb.map [], zb.box [AV.exact [], AV.map σ.length]]).length []))) ++ [.tok 1 0] = σ ++ tabO σ.length [] := by
      rw [zt]; simp [tabO]; rfl
    rw [List.length_nil, e]
    exact .refl _ _
theorem zmu {σ : List zb} {K : AV → List zb → Prop} (hK : K (.box (σ.length + 1) 0) (σ ++ ledO σ.length [])) : zK Tryz.prog zcD [] σ K := by
  refine zK.weaken ?_
  refine zbw zgb.is rfl (fun s => List.range' σ.length 2) fun hl _ => zgb.goes ?_
  simp only [zgl, iN, bT, bF, eN]
  (repeat' first | refine gq1 ?_ | with_reducible first | exact ⟨⟩ | refine zn ?_ | fail)
  refine zdu (σ' := σ) (os := [.map [], .box [.exact [], .map σ.length]]) rfl rfl hl ?_ (.box _ _ (by simp)) ?_
  · intro x hx
    simp only [List.mem_cons, List.not_mem_nil, or_false] at hx
    rcases hx with rfl | rfl
    · intro e he; cases he
    · intro c hc
      simp only [List.mem_cons, List.not_mem_nil, or_false] at hc
      rcases hc with rfl | rfl
      · exact .exact _
      · exact .map _ (by simp)
  · refine ⟨.box (σ.length + 1) 0, σ ++ ledO σ.length [], ?_, hK⟩
    refine .tokB (σ.length + 1) 0 [.exact [], .map σ.length] [] 2 (by rw [zg]; rfl) rfl (by simp) ?_
    have e : (σ ++ [zb.map [], zb.box [AV.exact [], AV.map σ.length]]).set (σ.length + 1) (.box ([AV.exact [], AV.map σ.length].set 0 (.own (σ ++ [zb.map [], zb.box [AV.exact [], AV.map σ.length]]).length []))) ++ [.tok 2 0] = σ ++ ledO σ.length [] := by
      rw [zt]; simp [ledO]; rfl
    rw [List.length_nil, e]
    exact .refl _ _
theorem gq2 {A P Q : Prop} (a : A) (h : Q) (e : A → P = Q := by intro a; simp -dsimp only [↓zcS, ↓zal, ↓zaI, ↓zcT, ↓zcN, ↓zcL, ↓zcO, ↓zcM, ↓zaN, ↓zaJ, ↓zaO, ↓zaK, ↓zcP, ↓zaH, ↓zaP, ↓zaL, ↓zaQ, ↓zaM, ↓zcK, ↓zcQ, ↓zaG, ↓zaR, ↓zcH, ↓zcG, ↓zcJ, iN, bT, bF, eN, ↓zbI, ↓unC, ↓zJ, ↓zx, ↓zy, ↓zC, ↓zQ, ↓zaA, ↓zbD, ↓zaa, ↓zbg, ↓zU, ↓zl, ↓zu, ↓zba, ↓ze, ↓zY, ↓zH, ↓zap, ↓zaw, ↓zc, ↓zD, ↓zj, ↓zo, ↓zad, ↓zbM, ↓zbX, ↓zaf, ↓zaj, ↓zar, ↓zax, ↓zaC, ↓zh, ↓zZ, ↓zB, ↓zk, ↓zO, zbS, zaF, zaD, unA, zcd, bnd, zcp, zT, zag, zcs, dm, dm1, zN, zaq, zcv, zcu, zL, Q0, Q1, Q2, Q3, Q4, Q5, zI, zg, zr, zt, zw, Q6, Q7, Q8, Q9, Q10, Q11, Q12, Q13, Q14, Nat.reduceAdd, Q15, Int.reduceToNat, Q16, Q17, Q18, Q19, Q20, reduceIte, Q21, Q22, zq, rep, zP, zcI, toD, zae, Q23, Q24, Q25, Q26, Q27, Q28, Nat.reduceLeDiff, Q29, Nat.reduceSub, Q30, Q31, Q32, sc, Q33, Q34, Q35, Q36, Q37, Q26, Q38, Q39, zfN, zfK, zfH, zfO, zbV, zfL, zfI, zfM, zfJ, zbU, zbW, zfQ, zfR, Bool.not_true, Bool.not_false, List.length_map, a]; rfl) : P := (e a).mpr h
theorem zoJ {σ : List zb} {id m t : Nat} {l : List (List UInt8)} (hT : zcy σ id m t l) {K : AV → List zb → Prop} (hK : K (.d (.bool false)) σ) : zK Tryz.prog zbr [.box id 0] σ K := by
  refine zi zfo.is rfl fun hl _ => zfo.goes ?_
  have hb := hT.box
  simp only [zft, iN, bT, bF, eN]
  (repeat' first | refine gq2 hb ?_ | with_reducible first | exact ⟨⟩ | refine zn ?_ | fail)
  (first | refine zai hl ?_ | refine zah hl ?_)
  exact hK
theorem zoP {σ : List zb} {id m t : Nat} {g : List zR} (hG : zcz σ id m t g) {K : AV → List zb → Prop} (hK : K (.d (.bool false)) σ) : zK Tryz.prog zbj [.box id 0] σ K := by
  refine zi zeQ.is rfl fun hl _ => zeQ.goes ?_
  have hb := hG.box
  simp only [zfa, iN, bT, bF, eN]
  (repeat' first | refine gq2 hb ?_ | with_reducible first | exact ⟨⟩ | refine zn ?_ | fail)
  (first | refine zai hl ?_ | refine zah hl ?_)
  exact hK
theorem zp {A B : Prop} (a : A) (b : B) : A ∧ B := ⟨a, b⟩
theorem gq3 {A P Q : Prop} (a : A) (h : Q) (e : A → P = Q := by intro a; simp -dsimp only [↓zcS, ↓zal, ↓zaI, ↓zcT, ↓zcN, ↓zcL, ↓zcO, ↓zcM, ↓zaN, ↓zaJ, ↓zaO, ↓zaK, ↓zcP, ↓zaH, ↓zaP, ↓zaL, ↓zaQ, ↓zaM, ↓zcK, ↓zcQ, ↓zaG, ↓zaR, ↓zcH, ↓zcG, ↓zcJ, iN, bT, bF, eN, ↓zbI, ↓unC, ↓zJ, ↓zx, ↓zy, ↓zC, ↓zQ, ↓zaA, ↓zbD, ↓zaa, ↓zbg, ↓zU, ↓zl, ↓zu, ↓zba, ↓ze, ↓zY, ↓zH, ↓zap, ↓zaw, ↓zc, ↓zD, ↓zj, ↓zo, ↓zad, ↓zbM, ↓zbX, ↓zaf, ↓zaj, ↓zar, ↓zax, ↓zaC, ↓zh, ↓zZ, ↓zB, ↓zk, ↓zO, zbS, zaF, zaD, unA, zcd, bnd, zcp, zT, zag, zcs, dm, dm1, zN, zaq, zcv, zcu, zL, Q0, Q1, Q2, Q3, Q4, Q5, zI, zg, zr, zt, zw, Q6, Q7, Q8, Q9, Q10, Q11, Q12, Q13, Q14, Nat.reduceAdd, Q15, Int.reduceToNat, Q16, Q17, Q18, Q19, Q20, reduceIte, Q21, Q22, zq, rep, zP, zcI, toD, zae, Q23, Q24, Q25, Q26, Q27, Q28, Nat.reduceLeDiff, Q29, Nat.reduceSub, Q30, Q31, Q32, sc, Q33, Q34, Q35, Q36, Q37, Q26, Q38, Q39, zfN, zfK, zfH, zfO, zbV, zfL, zfI, zfM, zfJ, zbU, zbW, zfQ, zfR, Bool.not_true, Bool.not_false, List.length_map, zgF, zcq, zct, zar, mgetR, a]; rfl) : P := (e a).mpr h
theorem zoK {σ : List zb} {id m t : Nat} {l : List (List UInt8)} {b : List UInt8} (hT : zcy σ id m t l) {K : AV → List zb → Prop} (hK : K (.tup [.d (.int .i64 (zmT (zcX l b))), .d (.bool (zcX l b).isSome)]) σ) :
    zK Tryz.prog zbs [.box id 0, .d (.slice (bcs b))] σ K := by
  refine zi zfp.is rfl fun hl _ => zfp.goes ?_
  have hb := hT.box
  have hm := hT.map
  have hf := mfind_tab l b
  simp only [zfu, iN, bT, bF, eN]
  (repeat' first | refine gq1 ?_ | with_reducible first | exact ⟨⟩ | refine zn ?_ | fail)
  refine zoJ hT ?_
  cases ho : zcX l b with
  | none =>
    rw [ho] at hf hK
    simp only [Option.map_none] at hf
    (repeat' first | refine gq3 (zp hb (zp hm hf)) ?_ | with_reducible first | exact ⟨⟩ | refine zn ?_ | fail)
    (first | refine zai hl ?_ | refine zah hl ?_)
    exact hK
  | some k =>
    rw [ho] at hf hK
    simp only [Option.map_some] at hf
    (repeat' first | refine gq3 (zp hb (zp hm hf)) ?_ | with_reducible first | exact ⟨⟩ | refine zn ?_ | fail)
    (first | refine zai hl ?_ | refine zah hl ?_)
    exact hK
theorem c_tLen {σ : List zb} {id m t : Nat} {l : List (List UInt8)} (hT : zcy σ id m t l) {K : AV → List zb → Prop} (hK : K (.d (.int .i64 l.length)) σ) : zK Tryz.prog zdQ [.box id 0] σ K := by
  refine zi zga.is rfl fun hl _ => zga.goes ?_
  have hb := hT.box
  simp only [zgk, iN, bT, bF, eN]
  (repeat' first | refine gq1 ?_ | with_reducible first | exact ⟨⟩ | refine zn ?_ | fail)
  refine zoJ hT ?_
  (repeat' first | refine gq2 hb ?_ | with_reducible first | exact ⟨⟩ | refine zn ?_ | fail)
  (first | refine zai hl ?_ | refine zah hl ?_)
  exact hK
theorem c_gLen {σ : List zb} {id m t : Nat} {g : List zR} (hG : zcz σ id m t g) {K : AV → List zb → Prop} (hK : K (.d (.int .i64 g.length)) σ) : zK Tryz.prog zdt [.box id 0] σ K := by
  refine zi zfq.is rfl fun hl _ => zfq.goes ?_
  have hb := hG.box
  simp only [zfv, iN, bT, bF, eN]
  (repeat' first | refine gq1 ?_ | with_reducible first | exact ⟨⟩ | refine zn ?_ | fail)
  refine zoP hG ?_
  (repeat' first | refine gq2 hb ?_ | with_reducible first | exact ⟨⟩ | refine zn ?_ | fail)
  (first | refine zai hl ?_ | refine zah hl ?_)
  exact hK
theorem gq4 {A P Q : Prop} (a : A) (h : Q) (e : A → P = Q := by intro a; simp -dsimp only [↓zcS, ↓zal, ↓zaI, ↓zcT, ↓zcN, ↓zcL, ↓zcO, ↓zcM, ↓zaN, ↓zaJ, ↓zaO, ↓zaK, ↓zcP, ↓zaH, ↓zaP, ↓zaL, ↓zaQ, ↓zaM, ↓zcK, ↓zcQ, ↓zaG, ↓zaR, ↓zcH, ↓zcG, ↓zcJ, iN, bT, bF, eN, ↓zbI, ↓unC, ↓zJ, ↓zx, ↓zy, ↓zC, ↓zQ, ↓zaA, ↓zbD, ↓zaa, ↓zbg, ↓zU, ↓zl, ↓zu, ↓zba, ↓ze, ↓zY, ↓zH, ↓zap, ↓zaw, ↓zc, ↓zD, ↓zj, ↓zo, ↓zad, ↓zbM, ↓zbX, ↓zaf, ↓zaj, ↓zar, ↓zax, ↓zaC, ↓zh, ↓zZ, ↓zB, ↓zk, ↓zO, zbS, zaF, zaD, unA, zcd, bnd, zcp, zT, zag, zcs, dm, dm1, zN, zaq, zcv, zcu, zL, Q0, Q1, Q2, Q3, Q4, Q5, zI, zg, zr, zt, zw, Q6, Q7, Q8, Q9, Q10, Q11, Q12, Q13, Q14, Nat.reduceAdd, Q15, Int.reduceToNat, Q16, Q17, Q18, Q19, Q20, reduceIte, Q21, Q22, zq, rep, zP, zcI, toD, zae, Q23, Q24, Q25, Q26, Q27, Q28, Nat.reduceLeDiff, Q29, Nat.reduceSub, Q30, Q31, Q32, sc, Q33, Q34, Q35, Q36, Q37, Q26, Q38, Q39, zfN, zfK, zfH, zfO, zbV, zfL, zfI, zfM, zfJ, zbU, zbW, zfQ, zfR, Bool.not_true, Bool.not_false, List.length_map, zcq, zbH, zct, zar, mgetR, a]; rfl) : P := (e a).mpr h
theorem c_gSigned {σ : List zb} {id m t : Nat} {g : List zR} {s : zR} (hG : zcz σ id m t g) {K : AV → List zb → Prop} (hK : K (.d (.bool (decide (s ∈ g)))) σ) :
    zK Tryz.prog zbF [.box id 0, .agg [.d (.int .i64 s.key), .d (.int .i64 s.dig)]] σ K := by
  refine zi zea.is rfl fun hl _ => zea.goes ?_
  have hb : ∀ τ, (σ ++ τ)[id]? = _ := fun τ => zE hG.box
  have hm : ∀ τ, (σ ++ τ)[m]? = _ := fun τ => zE hG.map
  simp only [zeb, iN, bT, bF, eN]
  (repeat' first | refine gq1 ?_ | with_reducible first | exact ⟨⟩ | refine zn ?_ | fail)
  refine zoP (hG.app _) ?_
  by_cases hs : s ∈ g
  · obtain ⟨k, hf⟩ := zjn hs
    rw [decide_eq_true hs] at hK
    (repeat' first | refine gq4 (zp hb (zp hm hf)) ?_ | with_reducible first | exact ⟨⟩ | refine zn ?_ | fail)
    (first | refine zai hl ?_ | refine zah hl ?_)
    exact hK
  · have hf := zkN hs
    rw [decide_eq_false hs] at hK
    (repeat' first | refine gq4 (zp hb (zp hm hf)) ?_ | with_reducible first | exact ⟨⟩ | refine zn ?_ | fail)
    (first | refine zai hl ?_ | refine zah hl ?_)
    exact hK
theorem gq5 {A P Q : Prop} (a : A) (h : Q) (e : A → P = Q := by intro a; simp -dsimp only [↓zcS, ↓zal, ↓zaI, ↓zcT, ↓zcN, ↓zcL, ↓zcO, ↓zcM, ↓zaN, ↓zaJ, ↓zaO, ↓zaK, ↓zcP, ↓zaH, ↓zaP, ↓zaL, ↓zaQ, ↓zaM, ↓zcK, ↓zcQ, ↓zaG, ↓zaR, ↓zcH, ↓zcG, ↓zcJ, iN, bT, bF, eN, ↓zbI, ↓unC, ↓zJ, ↓zx, ↓zy, ↓zC, ↓zQ, ↓zaA, ↓zbD, ↓zaa, ↓zbg, ↓zU, ↓zl, ↓zu, ↓zba, ↓ze, ↓zY, ↓zH, ↓zap, ↓zaw, ↓zc, ↓zD, ↓zj, ↓zo, ↓zad, ↓zbM, ↓zbX, ↓zaf, ↓zaj, ↓zar, ↓zax, ↓zaC, ↓zh, ↓zZ, ↓zB, ↓zk, ↓zO, zbS, zaF, zaD, unA, zcd, bnd, zcp, zT, zag, zcs, dm, dm1, zN, zaq, zcv, zcu, zL, Q0, Q1, Q2, Q3, Q4, Q5, zI, zg, zr, zt, zw, Q6, Q7, Q8, Q9, Q10, Q11, Q12, Q13, Q14, Nat.reduceAdd, Q15, Int.reduceToNat, Q16, Q17, Q18, Q19, Q20, reduceIte, Q21, Q22, zq, rep, zP, zcI, toD, zae, Q23, Q24, Q25, Q26, Q27, Q28, Nat.reduceLeDiff, Q29, Nat.reduceSub, Q30, Q31, Q32, sc, Q33, Q34, Q35, Q36, Q37, Q26, Q38, Q39, zfN, zfK, zfH, zfO, zbV, zfL, zfI, zfM, zfJ, zbU, zbW, zfQ, zfR, Bool.not_true, Bool.not_false, List.length_map, zca, zgF, zct, zax, a]; rfl) : P := (e a).mpr h
theorem c_tSum {σ : List zb} {id m t : Nat} {l : List (List UInt8)} {b : List UInt8} (hT : zcy σ id m t l) (hbl : b.length ≤ 1073741824) (hll : l.length ≤ 1048576) {K : AV → List zb → Prop}
    (hK : K (.d (.int .i64 (zhs l b))) (putTab σ id m t (zjc l b))) : zK Tryz.prog zcC [.box id 0, .d (.slice (bcs b))] σ K := by
  refine zi zfZ.is rfl fun hl _ => zfZ.goes ?_
  have hb := hT.box
  have hm := hT.map
  have ht := hT.tok
  have hf := mfind_tab l b
  obtain ⟨n1, n2, n3⟩ := hT.ne
  have hlen : (zjW l).length = l.length := List.length_map ..
  simp only [zgj, iN, bT, bF, eN]
  (repeat' first | refine gq1 ?_ | with_reducible first | exact ⟨⟩ | refine zn ?_ | fail)
  refine zoJ hT ?_
  cases ho : zcX l b with
  | some k =>
    rw [ho] at hf
    simp only [zhs, zjc, ho] at hK
    rw [hT.self] at hK
    simp only [Option.map_some] at hf
    (repeat' first | refine gq3 (zp hb (zp hm hf)) ?_ | with_reducible first | exact ⟨⟩ | refine zn ?_ | fail)
    (first | refine zai hl ?_ | refine zah hl ?_)
    exact hK
  | none =>
    rw [ho] at hf
    simp only [zhs, zjc, ho] at hK
    simp only [Option.map_none] at hf
    by_cases hfull : l.length ≥ 1048576
    · rw [if_pos hfull, if_pos hfull, hT.self] at hK
      have hd : decide ((l.length : Int) ≥ 1048576) = true := by simp; omega
      (repeat' first | refine gq3 (zp hb (zp hm (zp hf (zp hlen hd)))) ?_ | with_reducible first | exact ⟨⟩ | refine zn ?_ | fail)
      (first | refine zai hl ?_ | refine zah hl ?_)
      exact hK
    · rw [if_neg hfull, if_neg hfull] at hK
      have hd : decide ((l.length : Int) ≥ 1048576) = false := by simp; omega
      have g1 : ∀ τ, (σ ++ τ)[id]? = some (.box [.own t (zjW l), .map m]) := fun τ => zE hb
      have g2 : ∀ τ, (σ ++ τ)[t]? = some (.tok 1 l.length) := fun τ => zE ht
      have s1 : ∀ X τ, (σ ++ τ).set t X = σ.set t X ++ τ := fun X τ => zbO ht
      have hb' : ∀ X, (σ.set t X)[id]? = some (.box [.own t (zjW l), .map m]) := fun X => by rw [List.getElem?_set_ne (Ne.symm n2)]; exact hb
      have g3 : ∀ X τ, (σ.set t X ++ τ)[id]? = some (.box [.own t (zjW l), .map m]) := fun X τ => zE (hb' X)
      have s2 : ∀ X Y τ, (σ.set t X ++ τ).set id Y = (σ.set t X).set id Y ++ τ := fun X Y τ => zbO (hb' X)
      have g4 : ∀ X Y τ, ((σ.set t X).set id Y ++ τ)[id]? = some Y := fun X Y τ => zE (zfl (hb' X))
      have hm' : ∀ X Y, ((σ.set t X).set id Y)[m]? = some (.map (tabM l)) := fun X Y => by rw [List.getElem?_set_ne n1, List.getElem?_set_ne (Ne.symm n3)]; exact hm
      have g5 : ∀ X Y τ, ((σ.set t X).set id Y ++ τ)[m]? = some (.map (tabM l)) := fun X Y τ => zE (hm' X Y)
      have s3 : ∀ X Y Z τ, ((σ.set t X).set id Y ++ τ).set m Z = ((σ.set t X).set id Y).set m Z ++ τ := fun X Y Z τ => zbO (hm' X Y)
      (repeat' first | refine gq3 (zp hb (zp hm (zp hf (zp hlen hd)))) ?_ | with_reducible first | exact ⟨⟩ | refine zn ?_ | fail)
      refine zcE zdT (by rw [zca]; omega) ?_
      (repeat' first | refine gq5 (zp g1 (zp g2 (zp s1 (zp g3 (zp s2 (zp g4 (zp g5 (zp s3 (zp hf hlen))))))))) ?_ | with_reducible first | exact ⟨⟩ | refine zn ?_ | fail)
      refine ⟨hb.symm, by simp, by omega, ?_⟩
      have e : putTab σ id m t (l ++ [b]) = ((σ.set t (zb.tok 1 (l.length + 1))).set id (zb.box [AV.own t (zjW l ++ [[D.slice (bcs b)]]), AV.map m])).set m (zb.map (tabM l ++ [(AV.d (D.str b), AV.d (D.int IntKind.i64 ((l.length + 1 : Nat) : Int)))])) := by
        simp [putTab, tabM_add, zjW]
        rw [← tabM_add]; simp
      rw [← e]
      exact zfm (putTab_len ..) (by simp [zhr, dmT, dm, dm1, zcV]) (hT.lows hl _) hK
end Go.Proofs.YtcappjcojggehaaGreat
