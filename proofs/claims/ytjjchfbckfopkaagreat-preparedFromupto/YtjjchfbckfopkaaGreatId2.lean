/- Contracts: the program's tables and ledgers. -/
import Derived.Test.YtjjchfbckfopkaaGreatId1
set_option linter.all false
set_option maxRecDepth 100000
set_option linter.unusedSimpArgs false
set_option linter.unusedVariables false
namespace Go.Proofs.YtjjchfbckfopkaaGreat
open Go.AW

theorem gq1 {P Q : Prop} (h : Q) (e : Hd Q → P := by intro h; (repeat' first | simp -dsimp only [↓zex, ↓zav, ↓zbj, ↓zey, ↓zer, ↓zep, ↓zes, ↓zeq, ↓zbo, ↓zbk, ↓zbp, ↓zbl, ↓zet, ↓zbh, ↓zbq, ↓zbm, ↓zbr, ↓zbn, ↓zem, ↓zew, ↓zbg, ↓zbt, ↓zeh, ↓zeg, ↓zel, iN, bT, bF, eN, ↓zcm, ↓unC, ↓zU, ↓zE, ↓zF, ↓zK, ↓zab, ↓zaA, ↓zct, ↓zY, ↓zbd, ↓zX, ↓zj, ↓zq, ↓zbI, ↓zf, ↓zac, ↓zJ, ↓zaB, ↓zaK, ↓zd, ↓zD, ↓zn, ↓zr, ↓zal, ↓zcE, ↓zcM, ↓zak, ↓zas, ↓zaG, ↓zaM, ↓zaS, ↓zl, ↓zae, ↓zG, ↓zo, ↓zZ, zcK, zbc, zba, unA, zcS, bnd, zdq, zaa, zai, zdr, dm, dm1, zP, zaC, zdL, zdK, zT, Q0, Q1, Q2, Q3, Q4, Q5, zS, zh, zm, zw, zA, Q6, Q7, Q8, Q9, Q10, Q11, Q12, Q13, Q14, Nat.reduceAdd, Q15, Int.reduceToNat, Q16, Q17, Q18, Q19, Q20, reduceIte, Q21, Q22, zx, rep, zV, zei, toD, zaf, Q23, Q24, Q25, Q26, Q27, Q28, Nat.reduceLeDiff, Q29, Nat.reduceSub, Q30, Q31, Q32, sc, Q33, Q34, Q35, Q36, Q37, Q26, Q38, Q39, zlI, zlF, zlC, zlJ, zeI, zlG, zlD, zlH, zlE, zeH, zeJ, zlL, zlM, Bool.not_true, Bool.not_false, List.length_map] | with_reducible refine zlY ?_ | fail); exact h.go) : P := e ⟨h⟩
theorem zoE {σ : List zb} {K : AV → List zb → Prop} (hK : K (.box (σ.length + 1) 0) (σ ++ tabO σ.length [])) : zp Tryz.prog zdf [] σ K := by
  refine zp.weaken ?_
  refine zbD zgM.is rfl (fun s => List.range' σ.length 2) fun hl _ => zgM.goes ?_
  simp only [zha, iN, bT, bF, eN]
  refine gq1 ?_
  refine zdC (σ' := σ) (os := [.map [], .box [.exact [], .map σ.length]]) rfl rfl hl ?_ (.box _ _ (by simp)) ?_
  · intro x hx
    simp only [List.mem_cons, List.not_mem_nil, or_false] at hx
    rcases hx with rfl | rfl
    · intro e he; cases he
    · intro c hc
      simp only [List.mem_cons, List.not_mem_nil, or_false] at hc
      rcases hc with rfl | rfl
      · exact .exact _
      · exact .map _ (by simp)
  · refine ⟨.box (σ.length + 1) 0, σ ++ tabO σ.length [], ?_, hK⟩
    refine .tokB (σ.length + 1) 0 [.exact [], .map σ.length] [] 1 (by rw [zh]; rfl) rfl (by simp) ?_
    have e : (σ ++ [zb.map [], zb.box [AV.exact [], AV.map σ.length]]).set (σ.length + 1) (.box ([AV.exact [], AV.map σ.length].set 0 (.own (σ ++ [zb.map [], zb.box [AV.exact [], AV.map σ.length]]).length []))) ++ [.tok 1 0] = σ ++ tabO σ.length [] := by
      rw [zw]; simp [tabO]; rfl
    rw [List.length_nil, e]
    exact .refl _ _
theorem znq {σ : List zb} {K : AV → List zb → Prop} (hK : K (.box (σ.length + 1) 0) (σ ++ ledO σ.length [])) : zp Tryz.prog zcH [] σ K := by
  refine zp.weaken ?_
  refine zbD zgj.is rfl (fun s => List.range' σ.length 2) fun hl _ => zgj.goes ?_
  simp only [zgs, iN, bT, bF, eN]
  refine gq1 ?_
  refine zdC (σ' := σ) (os := [.map [], .box [.exact [], .map σ.length]]) rfl rfl hl ?_ (.box _ _ (by simp)) ?_
  · intro x hx
    simp only [List.mem_cons, List.not_mem_nil, or_false] at hx
    rcases hx with rfl | rfl
    · intro e he; cases he
    · intro c hc
      simp only [List.mem_cons, List.not_mem_nil, or_false] at hc
      rcases hc with rfl | rfl
      · exact .exact _
      · exact .map _ (by simp)
  · refine ⟨.box (σ.length + 1) 0, σ ++ ledO σ.length [], ?_, hK⟩
    refine .tokB (σ.length + 1) 0 [.exact [], .map σ.length] [] 2 (by rw [zh]; rfl) rfl (by simp) ?_
    have e : (σ ++ [zb.map [], zb.box [AV.exact [], AV.map σ.length]]).set (σ.length + 1) (.box ([AV.exact [], AV.map σ.length].set 0 (.own (σ ++ [zb.map [], zb.box [AV.exact [], AV.map σ.length]]).length []))) ++ [.tok 2 0] = σ ++ ledO σ.length [] := by
      rw [zw]; simp [ledO]; rfl
    rw [List.length_nil, e]
    exact .refl _ _
theorem gq2 {A P Q : Prop} (a : A) (h : Q) (e : A → Hd Q → P := by intro a h; (repeat' first | simp -dsimp only [↓zex, ↓zav, ↓zbj, ↓zey, ↓zer, ↓zep, ↓zes, ↓zeq, ↓zbo, ↓zbk, ↓zbp, ↓zbl, ↓zet, ↓zbh, ↓zbq, ↓zbm, ↓zbr, ↓zbn, ↓zem, ↓zew, ↓zbg, ↓zbt, ↓zeh, ↓zeg, ↓zel, iN, bT, bF, eN, ↓zcm, ↓unC, ↓zU, ↓zE, ↓zF, ↓zK, ↓zab, ↓zaA, ↓zct, ↓zY, ↓zbd, ↓zX, ↓zj, ↓zq, ↓zbI, ↓zf, ↓zac, ↓zJ, ↓zaB, ↓zaK, ↓zd, ↓zD, ↓zn, ↓zr, ↓zal, ↓zcE, ↓zcM, ↓zak, ↓zas, ↓zaG, ↓zaM, ↓zaS, ↓zl, ↓zae, ↓zG, ↓zo, ↓zZ, zcK, zbc, zba, unA, zcS, bnd, zdq, zaa, zai, zdr, dm, dm1, zP, zaC, zdL, zdK, zT, Q0, Q1, Q2, Q3, Q4, Q5, zS, zh, zm, zw, zA, Q6, Q7, Q8, Q9, Q10, Q11, Q12, Q13, Q14, Nat.reduceAdd, Q15, Int.reduceToNat, Q16, Q17, Q18, Q19, Q20, reduceIte, Q21, Q22, zx, rep, zV, zei, toD, zaf, Q23, Q24, Q25, Q26, Q27, Q28, Nat.reduceLeDiff, Q29, Nat.reduceSub, Q30, Q31, Q32, sc, Q33, Q34, Q35, Q36, Q37, Q26, Q38, Q39, zlI, zlF, zlC, zlJ, zeI, zlG, zlD, zlH, zlE, zeH, zeJ, zlL, zlM, Bool.not_true, Bool.not_false, List.length_map, a] | with_reducible refine zlY ?_ | fail); exact h.go) : P := e a ⟨h⟩
theorem c_tNone {σ : List zb} {id m t : Nat} {l : List (List UInt8)} (hT : zcW σ id m t l) {K : AV → List zb → Prop} (hK : K (.d (.bool false)) σ) : zp Tryz.prog zbN [.box id 0] σ K := by
  refine zil zjK fun hl => ?_
  have hb := hT.box
  simp only [zfN, iN, bT, bF, eN]
  refine gq2 hb ?_
  refine zad hl ?_
  exact hK
theorem c_gNone {σ : List zb} {id m t : Nat} {g : List zM} (hG : zcY σ id m t g) {K : AV → List zb → Prop} (hK : K (.d (.bool false)) σ) : zp Tryz.prog zbF [.box id 0] σ K := by
  refine zil zja fun hl => ?_
  have hb := hG.box
  simp only [zfx, iN, bT, bF, eN]
  refine gq2 hb ?_
  refine zad hl ?_
  exact hK
theorem zi {A B : Prop} (a : A) (b : B) : A ∧ B := ⟨a, b⟩
theorem gq3 {A P Q : Prop} (a : A) (h : Q) (e : A → Hd Q → P := by intro a h; (repeat' first | simp -dsimp only [↓zex, ↓zav, ↓zbj, ↓zey, ↓zer, ↓zep, ↓zes, ↓zeq, ↓zbo, ↓zbk, ↓zbp, ↓zbl, ↓zet, ↓zbh, ↓zbq, ↓zbm, ↓zbr, ↓zbn, ↓zem, ↓zew, ↓zbg, ↓zbt, ↓zeh, ↓zeg, ↓zel, iN, bT, bF, eN, ↓zcm, ↓unC, ↓zU, ↓zE, ↓zF, ↓zK, ↓zab, ↓zaA, ↓zct, ↓zY, ↓zbd, ↓zX, ↓zj, ↓zq, ↓zbI, ↓zf, ↓zac, ↓zJ, ↓zaB, ↓zaK, ↓zd, ↓zD, ↓zn, ↓zr, ↓zal, ↓zcE, ↓zcM, ↓zak, ↓zas, ↓zaG, ↓zaM, ↓zaS, ↓zl, ↓zae, ↓zG, ↓zo, ↓zZ, zcK, zbc, zba, unA, zcS, bnd, zdq, zaa, zai, zdr, dm, dm1, zP, zaC, zdL, zdK, zT, Q0, Q1, Q2, Q3, Q4, Q5, zS, zh, zm, zw, zA, Q6, Q7, Q8, Q9, Q10, Q11, Q12, Q13, Q14, Nat.reduceAdd, Q15, Int.reduceToNat, Q16, Q17, Q18, Q19, Q20, reduceIte, Q21, Q22, zx, rep, zV, zei, toD, zaf, Q23, Q24, Q25, Q26, Q27, Q28, Nat.reduceLeDiff, Q29, Nat.reduceSub, Q30, Q31, Q32, sc, Q33, Q34, Q35, Q36, Q37, Q26, Q38, Q39, zlI, zlF, zlC, zlJ, zeI, zlG, zlD, zlH, zlE, zeH, zeJ, zlL, zlM, Bool.not_true, Bool.not_false, List.length_map, Bool.and_false, Bool.and_self, Bool.false_and, Bool.not_false, Bool.not_true, Bool.true_and, Int.toNat_natCast, Int.toNat_zero, List.drop_zero, List.length_map, List.length_nil, List.nil_append, List.take_length, Nat.sub_zero, Nat.zero_add, Option.isSome_none, Option.isSome_some, Option.map_none, Option.map_some, zaq, beq_self_eq_true, bne_self_eq_false, zfp, zcB, zdp, zaG, mgetR, zaM, a] | with_reducible refine zlY ?_ | fail); exact h.go) : P := e a ⟨h⟩
theorem zpL {σ : List zb} {id m t : Nat} {l : List (List UInt8)} {b : List UInt8} (hT : zcW σ id m t l) {K : AV → List zb → Prop} (hK : K (.tup [.d (.int .i64 (zpn (zdM l b))), .d (.bool (zdM l b).isSome)]) σ) :
    zp Tryz.prog zbv [.box id 0, .d (.slice (bcs b))] σ K := by
  refine zgK zjL fun hl => ?_
  have hb := hT.box
  have hm := hT.map
  have hf := mfind_tab l b
  simp only [zfO, iN, bT, bF, eN]
  refine gq1 ?_
  refine c_tNone hT ?_
  cases ho : zdM l b with
  | none =>
    rw [ho] at hf hK
    simp only [Option.map_none] at hf
    refine gq3 (zi hb (zi hm hf)) ?_
    refine zad hl ?_
    exact hK
  | some k =>
    rw [ho] at hf hK
    simp only [Option.map_some] at hf
    refine gq3 (zi hb (zi hm hf)) ?_
    refine zad hl ?_
    exact hK
theorem gq4 {A P Q : Prop} (a : A) (h : Q) (e : A → Hd Q → P := by intro a h; (repeat' first | simp -dsimp only [↓zex, ↓zav, ↓zbj, ↓zey, ↓zer, ↓zep, ↓zes, ↓zeq, ↓zbo, ↓zbk, ↓zbp, ↓zbl, ↓zet, ↓zbh, ↓zbq, ↓zbm, ↓zbr, ↓zbn, ↓zem, ↓zew, ↓zbg, ↓zbt, ↓zeh, ↓zeg, ↓zel, iN, bT, bF, eN, ↓zcm, ↓unC, ↓zU, ↓zE, ↓zF, ↓zK, ↓zab, ↓zaA, ↓zct, ↓zY, ↓zbd, ↓zX, ↓zj, ↓zq, ↓zbI, ↓zf, ↓zac, ↓zJ, ↓zaB, ↓zaK, ↓zd, ↓zD, ↓zn, ↓zr, ↓zal, ↓zcE, ↓zcM, ↓zak, ↓zas, ↓zaG, ↓zaM, ↓zaS, ↓zl, ↓zae, ↓zG, ↓zo, ↓zZ, zcK, zbc, zba, unA, zcS, bnd, zdq, zaa, zai, zdr, dm, dm1, zP, zaC, zdL, zdK, zT, Q0, Q1, Q2, Q3, Q4, Q5, zS, zh, zm, zw, zA, Q6, Q7, Q8, Q9, Q10, Q11, Q12, Q13, Q14, Nat.reduceAdd, Q15, Int.reduceToNat, Q16, Q17, Q18, Q19, Q20, reduceIte, Q21, Q22, zx, rep, zV, zei, toD, zaf, Q23, Q24, Q25, Q26, Q27, Q28, Nat.reduceLeDiff, Q29, Nat.reduceSub, Q30, Q31, Q32, sc, Q33, Q34, Q35, Q36, Q37, Q26, Q38, Q39, zlI, zlF, zlC, zlJ, zeI, zlG, zlD, zlH, zlE, zeH, zeJ, zlL, zlM, Bool.not_true, Bool.not_false, List.length_map, Bool.and_false, Bool.and_self, Bool.false_and, Bool.not_false, Bool.not_true, Bool.true_and, Int.toNat_natCast, Int.toNat_zero, List.drop_zero, List.length_map, List.length_nil, List.nil_append, List.take_length, Nat.sub_zero, Nat.zero_add, Option.isSome_none, Option.isSome_some, Option.map_none, Option.map_some, zaq, beq_self_eq_true, bne_self_eq_false, zfp, zbs, zcB, zbw, zdp, zaG, mgetR, zaM, zpn, opA, zeU, zej, zao, a] | with_reducible refine zlY ?_ | fail); exact h.go) : P := e a ⟨h⟩
theorem c_gSigned {σ : List zb} {id m t : Nat} {g : List zM} {s : zM} (hG : zcY σ id m t g) {K : AV → List zb → Prop} (hK : K (.d (.bool (decide (s ∈ g)))) σ) :
    zp Tryz.prog zbO [.box id 0, .agg [.d (.int .i64 s.key), .d (.int .i64 s.dig)]] σ K := by
  refine zgK zhC fun hl => ?_
  have hb : ∀ τ, (σ ++ τ)[id]? = _ := fun τ => zk hG.box
  have hm : ∀ τ, (σ ++ τ)[m]? = _ := fun τ => zk hG.map
  simp only [zeB, iN, bT, bF, eN]
  refine gq1 ?_
  refine c_gNone (hG.app _) ?_
  by_cases hs : s ∈ g
  · obtain ⟨k, hf⟩ := zjB hs
    rw [decide_eq_true hs] at hK
    refine gq4 (zi hb (zi hm hf)) ?_
    refine zad hl ?_
    exact hK
  · have hf := zlf hs
    rw [decide_eq_false hs] at hK
    refine gq4 (zi hb (zi hm hf)) ?_
    refine zad hl ?_
    exact hK
theorem c_tSum {σ : List zb} {id m t : Nat} {l : List (List UInt8)} {b : List UInt8} (hT : zcW σ id m t l) (hbl : b.length ≤ 1073741824) (hll : l.length ≤ 1048576) {K : AV → List zb → Prop}
    (hK : K (.d (.int .i64 (zhk l b))) (putTab σ id m t (zjn l b))) : zp Tryz.prog zcG [.box id 0, .d (.slice (bcs b))] σ K := by
  refine zgK zkM fun hl => ?_
  have hb := hT.box
  have hm := hT.map
  have ht := hT.tok
  have hf := mfind_tab l b
  obtain ⟨n1, n2, n3⟩ := hT.ne
  have hlen : (zly l).length = l.length := List.length_map ..
  simp only [zgr, iN, bT, bF, eN]
  refine gq1 ?_
  refine c_tNone hT ?_
  cases ho : zdM l b with
  | some k =>
    rw [ho] at hf
    simp only [zhk, zjn, ho] at hK
    rw [hT.self] at hK
    simp only [Option.map_some] at hf
    refine gq3 (zi hb (zi hm hf)) ?_
    refine zad hl ?_
    exact hK
  | none =>
    rw [ho] at hf
    simp only [zhk, zjn, ho] at hK
    simp only [Option.map_none] at hf
    by_cases hfull : l.length ≥ 1048576
    · rw [if_pos hfull, if_pos hfull, hT.self] at hK
      have hd : decide ((l.length : Int) ≥ 1048576) = true := by simp; omega
      refine gq3 (zi hb (zi hm (zi hf (zi hlen hd)))) ?_
      refine zad hl ?_
      exact hK
    · rw [if_neg hfull, if_neg hfull] at hK
      have hd : decide ((l.length : Int) ≥ 1048576) = false := by simp; omega
      have g1 : ∀ τ, (σ ++ τ)[id]? = some (.box [.own t (zly l), .map m]) := fun τ => zk hb
      have g2 : ∀ τ, (σ ++ τ)[t]? = some (.tok 1 l.length) := fun τ => zk ht
      have s1 : ∀ X τ, (σ ++ τ).set t X = σ.set t X ++ τ := fun X τ => zbU ht
      have hb' : ∀ X, (σ.set t X)[id]? = some (.box [.own t (zly l), .map m]) := fun X => by rw [List.getElem?_set_ne (Ne.symm n2)]; exact hb
      have g3 : ∀ X τ, (σ.set t X ++ τ)[id]? = some (.box [.own t (zly l), .map m]) := fun X τ => zk (hb' X)
      have s2 : ∀ X Y τ, (σ.set t X ++ τ).set id Y = (σ.set t X).set id Y ++ τ := fun X Y τ => zbU (hb' X)
      have g4 : ∀ X Y τ, ((σ.set t X).set id Y ++ τ)[id]? = some Y := fun X Y τ => zk (zfG (hb' X))
      have hm' : ∀ X Y, ((σ.set t X).set id Y)[m]? = some (.map (tabM l)) := fun X Y => by rw [List.getElem?_set_ne n1, List.getElem?_set_ne (Ne.symm n3)]; exact hm
      have g5 : ∀ X Y τ, ((σ.set t X).set id Y ++ τ)[m]? = some (.map (tabM l)) := fun X Y τ => zk (hm' X Y)
      have s3 : ∀ X Y Z τ, ((σ.set t X).set id Y ++ τ).set m Z = ((σ.set t X).set id Y).set m Z ++ τ := fun X Y Z τ => zbU (hm' X Y)
      refine gq3 (zi hb (zi hm (zi hf (zi hlen hd)))) ?_
      refine zcJ zeb (by rw [zaq]; omega) ?_
      refine gq3 (zi g1 (zi g2 (zi s1 (zi g3 (zi s2 (zi g4 (zi g5 (zi s3 (zi hf hlen))))))))) ?_
      refine ⟨hb.symm, by simp, by omega, ?_⟩
      have e : putTab σ id m t (l ++ [b]) = ((σ.set t (zb.tok 1 (l.length + 1))).set id (zb.box [AV.own t (zly l ++ [[D.slice (bcs b)]]), AV.map m])).set m (zb.map (tabM l ++ [(AV.d (D.str b), AV.d (D.int IntKind.i64 ((l.length + 1 : Nat) : Int)))])) := by
        simp [putTab, tabM_add, zly]
        rw [← tabM_add]; simp
      rw [← e]
      exact zfH (putTab_len ..) (by simp [zfT, dmT, dm, dm1, zcf]) (hT.lows hl _) hK
end Go.Proofs.YtjjchfbckfopkaaGreat
