/- Contracts: the program's tables and ledgers. -/
import Derived.Test.YtcappjcojggehaaGreatId1
set_option linter.all false
set_option maxRecDepth 100000
set_option linter.unusedSimpArgs false
set_option linter.unusedVariables false
namespace Go.Proofs.YtcappjcojggehaaGreat
open Go.AW

theorem gq1 {P Q : Prop} (h : Q) (e : P = Q := by simp -dsimp only [↓zcI, ↓zai, ↓zaH, ↓zcJ, ↓zcE, ↓zcC, ↓zcF, ↓zcD, ↓zaM, ↓zaI, ↓zaN, ↓zaJ, ↓zcG, ↓zaG, ↓zaO, ↓zaK, ↓zaP, ↓zaL, ↓zcB, ↓zcH, ↓zaF, ↓zaQ, ↓zcy, ↓zcx, ↓zcA, iN, bT, bF, eN, ↓zbL, ↓unC, ↓zH, ↓zw, ↓zx, ↓zB, ↓zK, ↓zaz, ↓zbv, ↓zY, ↓zbh, ↓zP, ↓zr, ↓zp, ↓zbj, ↓zf, ↓zU, ↓zF, ↓zan, ↓zas, ↓zc, ↓zC, ↓zj, ↓zl, ↓zab, ↓zbK, ↓zbJ, ↓zae, ↓zah, ↓zam, ↓zav, ↓zaB, ↓zg, ↓zW, ↓zy, ↓zi, ↓zJ, zbM, zaE, zaD, unA, zbQ, bnd, zcb, zQ, zag, zcd, dm, dm1, zM, zao, zcr, zcq, zS, Q0, Q1, Q2, Q3, Q4, Q5, zG, zh, zn, zq, zt, Q6, Q7, Q8, Q9, Q10, Q11, Q12, Q13, Q14, Nat.reduceAdd, Q15, Int.reduceToNat, Q16, Q17, Q18, Q19, Q20, reduceIte, Q21, Q22, zm, rep, zL, zcz, toD, zac, Q23, Q24, Q25, Q26, Q27, Q28, Nat.reduceLeDiff, Q29, Nat.reduceSub, Q30, Q31, Q32, sc, Q33, Q34, Q35, Q36, Q37, Q26, Q38, Q39, zfa, zeX, zeU, zfb, zbC, zeY, zeV, zeZ, zeW, zbB, zbD, zfd, zfe, Bool.not_true, Bool.not_false, List.length_map]; rfl) : P := e.mpr h
theorem znG {σ : List zb} {K : AV → List zb → Prop} (hK : K (.box (σ.length + 1) 0) (σ ++ tabO σ.length [])) : zN Tryz.prog zdb [] σ K := by
  refine zN.weaken ?_
  refine zbu zgN.is rfl (fun s => List.range' σ.length 2) fun hl _ => zgN.goes ?_
  simp only [zgZ, iN, bT, bF, eN]
  (repeat' first | refine gq1 ?_ | with_reducible first | exact ⟨⟩ | refine zA ?_ | fail)
  refine zdr (σ' := σ) (os := [.map [], .box [.exact [], .map σ.length]]) rfl rfl hl ?_ (.box _ _ (by simp)) ?_
  · intro x hx
    simp only [List.mem_cons, List.not_mem_nil, or_false] at hx
    rcases hx with rfl | rfl
    · intro e he; cases he
    · intro c hc
      simp only [List.mem_cons, List.not_mem_nil, or_false] at hc
      rcases hc with rfl | rfl
      · exact .exact _
      · exact .map _ (by simp)
  · refine ⟨.box (σ.length + 1) 0, σ ++ tabO σ.length [], ?_, hK⟩
    refine .tokB (σ.length + 1) 0 [.exact [], .map σ.length] [] 1 (by rw [zh]; rfl) rfl (by simp) ?_
    have e : (σ ++ [zb.map [], zb.box [AV.exact [], AV.map σ.length]]).set (σ.length + 1) (.box ([AV.exact [], AV.map σ.length].set 0 (.own (σ ++ [zb.map [], zb.box [AV.exact [], AV.map σ.length]]).length []))) ++ [.tok 1 0] = σ ++ tabO σ.length [] := by
      rw [zq]; simp [tabO]; rfl
    rw [List.length_nil, e]
    exact .refl _ _
theorem zmh {σ : List zb} {K : AV → List zb → Prop} (hK : K (.box (σ.length + 1) 0) (σ ++ ledO σ.length [])) : zN Tryz.prog zcO [] σ K := by
  refine zN.weaken ?_
  refine zbu zfS.is rfl (fun s => List.range' σ.length 2) fun hl _ => zfS.goes ?_
  simp only [zgd, iN, bT, bF, eN]
  (repeat' first | refine gq1 ?_ | with_reducible first | exact ⟨⟩ | refine zA ?_ | fail)
  refine zdr (σ' := σ) (os := [.map [], .box [.exact [], .map σ.length]]) rfl rfl hl ?_ (.box _ _ (by simp)) ?_
  · intro x hx
    simp only [List.mem_cons, List.not_mem_nil, or_false] at hx
    rcases hx with rfl | rfl
    · intro e he; cases he
    · intro c hc
      simp only [List.mem_cons, List.not_mem_nil, or_false] at hc
      rcases hc with rfl | rfl
      · exact .exact _
      · exact .map _ (by simp)
  · refine ⟨.box (σ.length + 1) 0, σ ++ ledO σ.length [], ?_, hK⟩
    refine .tokB (σ.length + 1) 0 [.exact [], .map σ.length] [] 2 (by rw [zh]; rfl) rfl (by simp) ?_
    have e : (σ ++ [zb.map [], zb.box [AV.exact [], AV.map σ.length]]).set (σ.length + 1) (.box ([AV.exact [], AV.map σ.length].set 0 (.own (σ ++ [zb.map [], zb.box [AV.exact [], AV.map σ.length]]).length []))) ++ [.tok 2 0] = σ ++ ledO σ.length [] := by
      rw [zq]; simp [ledO]; rfl
    rw [List.length_nil, e]
    exact .refl _ _
theorem gq2 {A P Q : Prop} (a : A) (h : Q) (e : A → P = Q := by intro a; simp -dsimp only [↓zcI, ↓zai, ↓zaH, ↓zcJ, ↓zcE, ↓zcC, ↓zcF, ↓zcD, ↓zaM, ↓zaI, ↓zaN, ↓zaJ, ↓zcG, ↓zaG, ↓zaO, ↓zaK, ↓zaP, ↓zaL, ↓zcB, ↓zcH, ↓zaF, ↓zaQ, ↓zcy, ↓zcx, ↓zcA, iN, bT, bF, eN, ↓zbL, ↓unC, ↓zH, ↓zw, ↓zx, ↓zB, ↓zK, ↓zaz, ↓zbv, ↓zY, ↓zbh, ↓zP, ↓zr, ↓zp, ↓zbj, ↓zf, ↓zU, ↓zF, ↓zan, ↓zas, ↓zc, ↓zC, ↓zj, ↓zl, ↓zab, ↓zbK, ↓zbJ, ↓zae, ↓zah, ↓zam, ↓zav, ↓zaB, ↓zg, ↓zW, ↓zy, ↓zi, ↓zJ, zbM, zaE, zaD, unA, zbQ, bnd, zcb, zQ, zag, zcd, dm, dm1, zM, zao, zcr, zcq, zS, Q0, Q1, Q2, Q3, Q4, Q5, zG, zh, zn, zq, zt, Q6, Q7, Q8, Q9, Q10, Q11, Q12, Q13, Q14, Nat.reduceAdd, Q15, Int.reduceToNat, Q16, Q17, Q18, Q19, Q20, reduceIte, Q21, Q22, zm, rep, zL, zcz, toD, zac, Q23, Q24, Q25, Q26, Q27, Q28, Nat.reduceLeDiff, Q29, Nat.reduceSub, Q30, Q31, Q32, sc, Q33, Q34, Q35, Q36, Q37, Q26, Q38, Q39, zfa, zeX, zeU, zfb, zbC, zeY, zeV, zeZ, zeW, zbB, zbD, zfd, zfe, Bool.not_true, Bool.not_false, List.length_map, a]; rfl) : P := (e a).mpr h
theorem c_tNone {σ : List zb} {id m t : Nat} {l : List (List UInt8)} (hT : zcT σ id m t l) {K : AV → List zb → Prop} (hK : K (.d (.bool false)) σ) : zN Tryz.prog zbH [.box id 0] σ K := by
  refine zk zfo.is rfl fun hl _ => zfo.goes ?_
  have hb := hT.box
  simp only [zfs, iN, bT, bF, eN]
  (repeat' first | refine gq2 hb ?_ | with_reducible first | exact ⟨⟩ | refine zA ?_ | fail)
  (first | refine zar hl ?_ | refine zaq hl ?_)
  exact hK
theorem c_gNone {σ : List zb} {id m t : Nat} {g : List zR} (hG : zcU σ id m t g) {K : AV → List zb → Prop} (hK : K (.d (.bool false)) σ) : zN Tryz.prog zbw [.box id 0] σ K := by
  refine zk zeI.is rfl fun hl _ => zeI.goes ?_
  have hb := hG.box
  simp only [zeR, iN, bT, bF, eN]
  (repeat' first | refine gq2 hb ?_ | with_reducible first | exact ⟨⟩ | refine zA ?_ | fail)
  (first | refine zar hl ?_ | refine zaq hl ?_)
  exact hK
theorem zu {A B : Prop} (a : A) (b : B) : A ∧ B := ⟨a, b⟩
theorem gq3 {A P Q : Prop} (a : A) (h : Q) (e : A → P = Q := by intro a; simp -dsimp only [↓zcI, ↓zai, ↓zaH, ↓zcJ, ↓zcE, ↓zcC, ↓zcF, ↓zcD, ↓zaM, ↓zaI, ↓zaN, ↓zaJ, ↓zcG, ↓zaG, ↓zaO, ↓zaK, ↓zaP, ↓zaL, ↓zcB, ↓zcH, ↓zaF, ↓zaQ, ↓zcy, ↓zcx, ↓zcA, iN, bT, bF, eN, ↓zbL, ↓unC, ↓zH, ↓zw, ↓zx, ↓zB, ↓zK, ↓zaz, ↓zbv, ↓zY, ↓zbh, ↓zP, ↓zr, ↓zp, ↓zbj, ↓zf, ↓zU, ↓zF, ↓zan, ↓zas, ↓zc, ↓zC, ↓zj, ↓zl, ↓zab, ↓zbK, ↓zbJ, ↓zae, ↓zah, ↓zam, ↓zav, ↓zaB, ↓zg, ↓zW, ↓zy, ↓zi, ↓zJ, zbM, zaE, zaD, unA, zbQ, bnd, zcb, zQ, zag, zcd, dm, dm1, zM, zao, zcr, zcq, zS, Q0, Q1, Q2, Q3, Q4, Q5, zG, zh, zn, zq, zt, Q6, Q7, Q8, Q9, Q10, Q11, Q12, Q13, Q14, Nat.reduceAdd, Q15, Int.reduceToNat, Q16, Q17, Q18, Q19, Q20, reduceIte, Q21, Q22, zm, rep, zL, zcz, toD, zac, Q23, Q24, Q25, Q26, Q27, Q28, Nat.reduceLeDiff, Q29, Nat.reduceSub, Q30, Q31, Q32, sc, Q33, Q34, Q35, Q36, Q37, Q26, Q38, Q39, zfa, zeX, zeU, zfb, zbC, zeY, zeV, zeZ, zeW, zbB, zbD, zfd, zfe, Bool.not_true, Bool.not_false, List.length_map, zgz, zby, zcc, zam, zlB, a]; rfl) : P := (e a).mpr h
theorem zou {σ : List zb} {id m t : Nat} {l : List (List UInt8)} {b : List UInt8} (hT : zcT σ id m t l) {K : AV → List zb → Prop} (hK : K (.tup [.d (.int .i64 (numOf (zck l b))), .d (.bool (zck l b).isSome)]) σ) :
    zN Tryz.prog zbq [.box id 0, .d (.slice (bcs b))] σ K := by
  refine zk zfp.is rfl fun hl _ => zfp.goes ?_
  have hb := hT.box
  have hm := hT.map
  have hf := mfind_tab l b
  simp only [zft, iN, bT, bF, eN]
  (repeat' first | refine gq1 ?_ | with_reducible first | exact ⟨⟩ | refine zA ?_ | fail)
  refine c_tNone hT ?_
  cases ho : zck l b with
  | none =>
    rw [ho] at hf hK
    simp only [Option.map_none] at hf
    (repeat' first | refine gq3 (zu hb (zu hm hf)) ?_ | with_reducible first | exact ⟨⟩ | refine zA ?_ | fail)
    (first | refine zar hl ?_ | refine zaq hl ?_)
    exact hK
  | some k =>
    rw [ho] at hf hK
    simp only [Option.map_some] at hf
    (repeat' first | refine gq3 (zu hb (zu hm hf)) ?_ | with_reducible first | exact ⟨⟩ | refine zA ?_ | fail)
    (first | refine zar hl ?_ | refine zaq hl ?_)
    exact hK
theorem gq4 {A P Q : Prop} (a : A) (h : Q) (e : A → P = Q := by intro a; simp -dsimp only [↓zcI, ↓zai, ↓zaH, ↓zcJ, ↓zcE, ↓zcC, ↓zcF, ↓zcD, ↓zaM, ↓zaI, ↓zaN, ↓zaJ, ↓zcG, ↓zaG, ↓zaO, ↓zaK, ↓zaP, ↓zaL, ↓zcB, ↓zcH, ↓zaF, ↓zaQ, ↓zcy, ↓zcx, ↓zcA, iN, bT, bF, eN, ↓zbL, ↓unC, ↓zH, ↓zw, ↓zx, ↓zB, ↓zK, ↓zaz, ↓zbv, ↓zY, ↓zbh, ↓zP, ↓zr, ↓zp, ↓zbj, ↓zf, ↓zU, ↓zF, ↓zan, ↓zas, ↓zc, ↓zC, ↓zj, ↓zl, ↓zab, ↓zbK, ↓zbJ, ↓zae, ↓zah, ↓zam, ↓zav, ↓zaB, ↓zg, ↓zW, ↓zy, ↓zi, ↓zJ, zbM, zaE, zaD, unA, zbQ, bnd, zcb, zQ, zag, zcd, dm, dm1, zM, zao, zcr, zcq, zS, Q0, Q1, Q2, Q3, Q4, Q5, zG, zh, zn, zq, zt, Q6, Q7, Q8, Q9, Q10, Q11, Q12, Q13, Q14, Nat.reduceAdd, Q15, Int.reduceToNat, Q16, Q17, Q18, Q19, Q20, reduceIte, Q21, Q22, zm, rep, zL, zcz, toD, zac, Q23, Q24, Q25, Q26, Q27, Q28, Nat.reduceLeDiff, Q29, Nat.reduceSub, Q30, Q31, Q32, sc, Q33, Q34, Q35, Q36, Q37, Q26, Q38, Q39, zfa, zeX, zeU, zfb, zbC, zeY, zeV, zeZ, zeW, zbB, zbD, zfd, zfe, Bool.not_true, Bool.not_false, List.length_map, zby, zbx, zcc, zam, zlB, a]; rfl) : P := (e a).mpr h
theorem c_gSigned {σ : List zb} {id m t : Nat} {g : List zR} {s : zR} (hG : zcU σ id m t g) {K : AV → List zb → Prop} (hK : K (.d (.bool (decide (s ∈ g)))) σ) :
    zN Tryz.prog zbI [.box id 0, .agg [.d (.int .i64 s.key), .d (.int .i64 s.dig)]] σ K := by
  refine zk zdT.is rfl fun hl _ => zdT.goes ?_
  have hb : ∀ τ, (σ ++ τ)[id]? = _ := fun τ => zaa hG.box
  have hm : ∀ τ, (σ ++ τ)[m]? = _ := fun τ => zaa hG.map
  simp only [zdU, iN, bT, bF, eN]
  (repeat' first | refine gq1 ?_ | with_reducible first | exact ⟨⟩ | refine zA ?_ | fail)
  refine c_gNone (hG.app _) ?_
  by_cases hs : s ∈ g
  · obtain ⟨k, hf⟩ := ziX hs
    rw [decide_eq_true hs] at hK
    (repeat' first | refine gq4 (zu hb (zu hm hf)) ?_ | with_reducible first | exact ⟨⟩ | refine zA ?_ | fail)
    (first | refine zar hl ?_ | refine zaq hl ?_)
    exact hK
  · have hf := zku hs
    rw [decide_eq_false hs] at hK
    (repeat' first | refine gq4 (zu hb (zu hm hf)) ?_ | with_reducible first | exact ⟨⟩ | refine zA ?_ | fail)
    (first | refine zar hl ?_ | refine zaq hl ?_)
    exact hK
theorem gq5 {A P Q : Prop} (a : A) (h : Q) (e : A → P = Q := by intro a; simp -dsimp only [↓zcI, ↓zai, ↓zaH, ↓zcJ, ↓zcE, ↓zcC, ↓zcF, ↓zcD, ↓zaM, ↓zaI, ↓zaN, ↓zaJ, ↓zcG, ↓zaG, ↓zaO, ↓zaK, ↓zaP, ↓zaL, ↓zcB, ↓zcH, ↓zaF, ↓zaQ, ↓zcy, ↓zcx, ↓zcA, iN, bT, bF, eN, ↓zbL, ↓unC, ↓zH, ↓zw, ↓zx, ↓zB, ↓zK, ↓zaz, ↓zbv, ↓zY, ↓zbh, ↓zP, ↓zr, ↓zp, ↓zbj, ↓zf, ↓zU, ↓zF, ↓zan, ↓zas, ↓zc, ↓zC, ↓zj, ↓zl, ↓zab, ↓zbK, ↓zbJ, ↓zae, ↓zah, ↓zam, ↓zav, ↓zaB, ↓zg, ↓zW, ↓zy, ↓zi, ↓zJ, zbM, zaE, zaD, unA, zbQ, bnd, zcb, zQ, zag, zcd, dm, dm1, zM, zao, zcr, zcq, zS, Q0, Q1, Q2, Q3, Q4, Q5, zG, zh, zn, zq, zt, Q6, Q7, Q8, Q9, Q10, Q11, Q12, Q13, Q14, Nat.reduceAdd, Q15, Int.reduceToNat, Q16, Q17, Q18, Q19, Q20, reduceIte, Q21, Q22, zm, rep, zL, zcz, toD, zac, Q23, Q24, Q25, Q26, Q27, Q28, Nat.reduceLeDiff, Q29, Nat.reduceSub, Q30, Q31, Q32, sc, Q33, Q34, Q35, Q36, Q37, Q26, Q38, Q39, zfa, zeX, zeU, zfb, zbC, zeY, zeV, zeZ, zeW, zbB, zbD, zfd, zfe, Bool.not_true, Bool.not_false, List.length_map, zbY, zgz, zcc, zav, a]; rfl) : P := (e a).mpr h
theorem c_tSum {σ : List zb} {id m t : Nat} {l : List (List UInt8)} {b : List UInt8} (hT : zcT σ id m t l) (hbl : b.length ≤ 1073741824) (hll : l.length ≤ 1048576) {K : AV → List zb → Prop}
    (hK : K (.d (.int .i64 (zgg l b))) (putTab σ id m t (zhQ l b))) : zN Tryz.prog zcN [.box id 0, .d (.slice (bcs b))] σ K := by
  refine zk zfR.is rfl fun hl _ => zfR.goes ?_
  have hb := hT.box
  have hm := hT.map
  have ht := hT.tok
  have hf := mfind_tab l b
  obtain ⟨n1, n2, n3⟩ := hT.ne
  have hlen : (zkQ l).length = l.length := List.length_map ..
  simp only [zgc, iN, bT, bF, eN]
  (repeat' first | refine gq1 ?_ | with_reducible first | exact ⟨⟩ | refine zA ?_ | fail)
  refine c_tNone hT ?_
  cases ho : zck l b with
  | some k =>
    rw [ho] at hf
    simp only [zgg, zhQ, ho] at hK
    rw [hT.self] at hK
    simp only [Option.map_some] at hf
    (repeat' first | refine gq3 (zu hb (zu hm hf)) ?_ | with_reducible first | exact ⟨⟩ | refine zA ?_ | fail)
    (first | refine zar hl ?_ | refine zaq hl ?_)
    exact hK
  | none =>
    rw [ho] at hf
    simp only [zgg, zhQ, ho] at hK
    simp only [Option.map_none] at hf
    by_cases hfull : l.length ≥ 1048576
    · rw [if_pos hfull, if_pos hfull, hT.self] at hK
      have hd : decide ((l.length : Int) ≥ 1048576) = true := by simp; omega
      (repeat' first | refine gq3 (zu hb (zu hm (zu hf (zu hlen hd)))) ?_ | with_reducible first | exact ⟨⟩ | refine zA ?_ | fail)
      (first | refine zar hl ?_ | refine zaq hl ?_)
      exact hK
    · rw [if_neg hfull, if_neg hfull] at hK
      have hd : decide ((l.length : Int) ≥ 1048576) = false := by simp; omega
      have g1 : ∀ τ, (σ ++ τ)[id]? = some (.box [.own t (zkQ l), .map m]) := fun τ => zaa hb
      have g2 : ∀ τ, (σ ++ τ)[t]? = some (.tok 1 l.length) := fun τ => zaa ht
      have s1 : ∀ X τ, (σ ++ τ).set t X = σ.set t X ++ τ := fun X τ => zbR ht
      have hb' : ∀ X, (σ.set t X)[id]? = some (.box [.own t (zkQ l), .map m]) := fun X => by rw [List.getElem?_set_ne (Ne.symm n2)]; exact hb
      have g3 : ∀ X τ, (σ.set t X ++ τ)[id]? = some (.box [.own t (zkQ l), .map m]) := fun X τ => zaa (hb' X)
      have s2 : ∀ X Y τ, (σ.set t X ++ τ).set id Y = (σ.set t X).set id Y ++ τ := fun X Y τ => zbR (hb' X)
      have g4 : ∀ X Y τ, ((σ.set t X).set id Y ++ τ)[id]? = some Y := fun X Y τ => zaa (zfl (hb' X))
      have hm' : ∀ X Y, ((σ.set t X).set id Y)[m]? = some (.map (tabM l)) := fun X Y => by rw [List.getElem?_set_ne n1, List.getElem?_set_ne (Ne.symm n3)]; exact hm
      have g5 : ∀ X Y τ, ((σ.set t X).set id Y ++ τ)[m]? = some (.map (tabM l)) := fun X Y τ => zaa (hm' X Y)
      have s3 : ∀ X Y Z τ, ((σ.set t X).set id Y ++ τ).set m Z = ((σ.set t X).set id Y).set m Z ++ τ := fun X Y Z τ => zbR (hm' X Y)
      (repeat' first | refine gq3 (zu hb (zu hm (zu hf (zu hlen hd)))) ?_ | with_reducible first | exact ⟨⟩ | refine zA ?_ | fail)
      refine zcP zdK (by rw [zbY]; omega) ?_
      (repeat' first | refine gq5 (zu g1 (zu g2 (zu s1 (zu g3 (zu s2 (zu g4 (zu g5 (zu s3 (zu hf hlen))))))))) ?_ | with_reducible first | exact ⟨⟩ | refine zA ?_ | fail)
      refine ⟨hb.symm, by simp, by omega, ?_⟩
      have e : putTab σ id m t (l ++ [b]) = ((σ.set t (zb.tok 1 (l.length + 1))).set id (zb.box [AV.own t (zkQ l ++ [[D.slice (bcs b)]]), AV.map m])).set m (zb.map (tabM l ++ [(AV.d (D.str b), AV.d (D.int IntKind.i64 ((l.length + 1 : Nat) : Int)))])) := by
        simp [putTab, tabM_add, zkQ]
        rw [← tabM_add]; simp
      rw [← e]
      exact zfm (putTab_len ..) (by simp [zhi, dmT, dm, dm1, zcW]) (hT.lows hl _) hK
end Go.Proofs.YtcappjcojggehaaGreat
