/- Contracts: the program's tables and ledgers. -/
import Derived.Test.YtpgahkdjkanblaaGreatWr4
set_option linter.all false
set_option maxRecDepth 100000
set_option linter.unusedSimpArgs false
set_option linter.unusedVariables false
namespace Go.Proofs.YtpgahkdjkanblaaGreat
open Go.AW

theorem ztG {P Q : Prop} (h : Q) (e : Hd Q → P := by intro h; (repeat' first | simp -dsimp only [↓zfa, ↓zat, ↓zbt, ↓zfb, ↓zeW, ↓zeU, ↓zeX, ↓zeV, ↓zby, ↓zbu, ↓zbz, ↓zbv, ↓zeY, ↓zbs, ↓zbA, ↓zbw, ↓zbB, ↓zbx, ↓zeT, ↓zeZ, ↓zbr, ↓zbC, ↓zeQ, ↓zeP, ↓zeS, iN, bT, bF, eN, ↓zcO, ↓unC, ↓zP, ↓zG, ↓zH, ↓zK, ↓zW, ↓zaz, ↓zdn, ↓zau, ↓zbf, ↓zQ, ↓zg, ↓zf, ↓zbY, ↓zb, ↓zae, ↓zL, ↓zaN, ↓zaO, ↓zc, ↓zB, ↓zj, ↓zE, ↓zY, ↓zdz, ↓zdA, ↓zam, ↓zap, ↓zaK, ↓zaV, ↓zbj, ↓zm, ↓zai, ↓zJ, ↓zr, ↓zT, zdD, zbo, zbk, unA, zcZ, bnd, zdZ, zac, zR, zdT, dm, dm1, zI, zan, zeq, zep, zZ, Q0, Q1, Q2, Q3, Q4, Q5, zX, zn, zo, zF, zA, Q6, Q7, Q8, Q9, Q10, Q11, Q12, Q13, Q14, Nat.reduceAdd, Q15, Int.reduceToNat, Q16, Q17, Q18, Q19, Q20, reduceIte, Q21, Q22, zw, rep, zU, zeo, toD, zaa, Q23, Q24, Q25, Q26, Q27, Q28, Nat.reduceLeDiff, Q29, Nat.reduceSub, Q30, Q31, Q32, sc, Q33, Q34, Q35, Q36, Q37, Q26, Q38, Q39, zlJ, zlG, zlD, zlK, zeM, zlH, zlE, zlI, zlF, zeL, zeN, zlL, zlM, Bool.not_true, Bool.not_false, List.length_map] | with_reducible refine zmc ?_ | fail); exact h.go) : P := e ⟨h⟩
theorem zue {σ : List zd} {K : KT} (hK : K (.box (σ.length + 1) 0) (σ ++ zrH σ.length [])) : zl Tryz.prog zij [] σ K := by
  refine zl.weaken ?_
  refine zcm zlY.is rfl (fun s => List.range' σ.length 2) fun hl _ => zlY.goes ?_
  simp only [zmo, iN, bT, bF, eN]
  refine ztG ?_
  refine zdN (σ' := σ) (os := [.map [], .box [.exact [], .map σ.length]]) rfl rfl hl ?_ (.box _ _ (by simp)) ?_
  · intro x hx
    simp only [List.mem_cons, List.not_mem_nil, or_false] at hx
    rcases hx with rfl | rfl
    · intro e he; cases he
    · intro c hc
      simp only [List.mem_cons, List.not_mem_nil, or_false] at hc
      rcases hc with rfl | rfl
      · exact .exact _
      · exact .map _ (by simp)
  · refine ⟨.box (σ.length + 1) 0, σ ++ zrH σ.length [], ?_, hK⟩
    refine .tokB (σ.length + 1) 0 [.exact [], .map σ.length] [] 1 (by rw [zn]; rfl) rfl (by simp) ?_
    have e : (σ ++ [zd.map [], zd.box [AV.exact [], AV.map σ.length]]).set (σ.length + 1) (.box ([AV.exact [], AV.map σ.length].set 0 (.own (σ ++ [zd.map [], zd.box [AV.exact [], AV.map σ.length]]).length []))) ++ [.tok 1 0] = σ ++ zrH σ.length [] := by
      rw [zF]; simp [zrH]; rfl
    rw [List.length_nil, e]
    exact .refl _ _
theorem zoH {σ : List zd} {K : KT} (hK : K (.box (σ.length + 1) 0) (σ ++ ledO σ.length [])) : zl Tryz.prog zfv [] σ K := by
  refine zl.weaken ?_
  refine zcm zkO.is rfl (fun s => List.range' σ.length 2) fun hl _ => zkO.goes ?_
  simp only [zlc, iN, bT, bF, eN]
  refine ztG ?_
  refine zdN (σ' := σ) (os := [.map [], .box [.exact [], .map σ.length]]) rfl rfl hl ?_ (.box _ _ (by simp)) ?_
  · intro x hx
    simp only [List.mem_cons, List.not_mem_nil, or_false] at hx
    rcases hx with rfl | rfl
    · intro e he; cases he
    · intro c hc
      simp only [List.mem_cons, List.not_mem_nil, or_false] at hc
      rcases hc with rfl | rfl
      · exact .exact _
      · exact .map _ (by simp)
  · refine ⟨.box (σ.length + 1) 0, σ ++ ledO σ.length [], ?_, hK⟩
    refine .tokB (σ.length + 1) 0 [.exact [], .map σ.length] [] 2 (by rw [zn]; rfl) rfl (by simp) ?_
    have e : (σ ++ [zd.map [], zd.box [AV.exact [], AV.map σ.length]]).set (σ.length + 1) (.box ([AV.exact [], AV.map σ.length].set 0 (.own (σ ++ [zd.map [], zd.box [AV.exact [], AV.map σ.length]]).length []))) ++ [.tok 2 0] = σ ++ ledO σ.length [] := by
      rw [zF]; simp [ledO]; rfl
    rw [List.length_nil, e]
    exact .refl _ _
theorem zjJ {A P Q : Prop} (a : A) (h : Q) (e : A → Hd Q → P := by intro a h; (repeat' first | simp -dsimp only [↓zfa, ↓zat, ↓zbt, ↓zfb, ↓zeW, ↓zeU, ↓zeX, ↓zeV, ↓zby, ↓zbu, ↓zbz, ↓zbv, ↓zeY, ↓zbs, ↓zbA, ↓zbw, ↓zbB, ↓zbx, ↓zeT, ↓zeZ, ↓zbr, ↓zbC, ↓zeQ, ↓zeP, ↓zeS, iN, bT, bF, eN, ↓zcO, ↓unC, ↓zP, ↓zG, ↓zH, ↓zK, ↓zW, ↓zaz, ↓zdn, ↓zau, ↓zbf, ↓zQ, ↓zg, ↓zf, ↓zbY, ↓zb, ↓zae, ↓zL, ↓zaN, ↓zaO, ↓zc, ↓zB, ↓zj, ↓zE, ↓zY, ↓zdz, ↓zdA, ↓zam, ↓zap, ↓zaK, ↓zaV, ↓zbj, ↓zm, ↓zai, ↓zJ, ↓zr, ↓zT, zdD, zbo, zbk, unA, zcZ, bnd, zdZ, zac, zR, zdT, dm, dm1, zI, zan, zeq, zep, zZ, Q0, Q1, Q2, Q3, Q4, Q5, zX, zn, zo, zF, zA, Q6, Q7, Q8, Q9, Q10, Q11, Q12, Q13, Q14, Nat.reduceAdd, Q15, Int.reduceToNat, Q16, Q17, Q18, Q19, Q20, reduceIte, Q21, Q22, zw, rep, zU, zeo, toD, zaa, Q23, Q24, Q25, Q26, Q27, Q28, Nat.reduceLeDiff, Q29, Nat.reduceSub, Q30, Q31, Q32, sc, Q33, Q34, Q35, Q36, Q37, Q26, Q38, Q39, zlJ, zlG, zlD, zlK, zeM, zlH, zlE, zlI, zlF, zeL, zeN, zlL, zlM, Bool.not_true, Bool.not_false, List.length_map, a] | with_reducible refine zmc ?_ | fail); exact h.go) : P := e a ⟨h⟩
theorem zuY {σ : List zd} {id m t : Nat} {l : List (List UInt8)} (hT : zdG σ id m t l) {K : KT} (hK : K (.d (.bool false)) σ) : zl Tryz.prog zcS [.box id 0] σ K := by
  refine ze zjX.is rfl fun hl _ => zjX.goes ?_
  have hb := hT.box
  simp only [zkk, iN, bT, bF, eN]
  refine zjJ hb ?_
  refine zV hl ?_
  exact hK
theorem zvc {σ : List zd} {id m t : Nat} {g : List zt} (hG : zdu σ id m t g) {K : KT} (hK : K (.d (.bool false)) σ) : zl Tryz.prog zcv [.box id 0] σ K := by
  refine ze zjo.is rfl fun hl _ => zjo.goes ?_
  have hb := hG.box
  simp only [zjG, iN, bT, bF, eN]
  refine zjJ hb ?_
  refine zV hl ?_
  exact hK
theorem zcs {A B : Prop} (a : A) (b : B) : A ∧ B := ⟨a, b⟩
theorem gq58 {A P Q : Prop} (a : A) (h : Q) (e : A → Hd Q → P := by intro a h; (repeat' first | simp -dsimp only [↓zfa, ↓zat, ↓zbt, ↓zfb, ↓zeW, ↓zeU, ↓zeX, ↓zeV, ↓zby, ↓zbu, ↓zbz, ↓zbv, ↓zeY, ↓zbs, ↓zbA, ↓zbw, ↓zbB, ↓zbx, ↓zeT, ↓zeZ, ↓zbr, ↓zbC, ↓zeQ, ↓zeP, ↓zeS, iN, bT, bF, eN, ↓zcO, ↓unC, ↓zP, ↓zG, ↓zH, ↓zK, ↓zW, ↓zaz, ↓zdn, ↓zau, ↓zbf, ↓zQ, ↓zg, ↓zf, ↓zbY, ↓zb, ↓zae, ↓zL, ↓zaN, ↓zaO, ↓zc, ↓zB, ↓zj, ↓zE, ↓zY, ↓zdz, ↓zdA, ↓zam, ↓zap, ↓zaK, ↓zaV, ↓zbj, ↓zm, ↓zai, ↓zJ, ↓zr, ↓zT, zdD, zbo, zbk, unA, zcZ, bnd, zdZ, zac, zR, zdT, dm, dm1, zI, zan, zeq, zep, zZ, Q0, Q1, Q2, Q3, Q4, Q5, zX, zn, zo, zF, zA, Q6, Q7, Q8, Q9, Q10, Q11, Q12, Q13, Q14, Nat.reduceAdd, Q15, Int.reduceToNat, Q16, Q17, Q18, Q19, Q20, reduceIte, Q21, Q22, zw, rep, zU, zeo, toD, zaa, Q23, Q24, Q25, Q26, Q27, Q28, Nat.reduceLeDiff, Q29, Nat.reduceSub, Q30, Q31, Q32, sc, Q33, Q34, Q35, Q36, Q37, Q26, Q38, Q39, zlJ, zlG, zlD, zlK, zeM, zlH, zlE, zlI, zlF, zeL, zeN, zlL, zlM, Bool.not_true, Bool.not_false, List.length_map, zhr, zej, zdB, zfp, zaK, zuH, zaV, a] | with_reducible refine zmc ?_ | fail); exact h.go) : P := e a ⟨h⟩
theorem zqF {σ : List zd} {id m t : Nat} {l : List (List UInt8)} {b : List UInt8} (hT : zdG σ id m t l) {K : KT} (hK : K (.tup [.d (.int .i64 (numOf (zff l b))), .d (.bool (zff l b).isSome)]) σ) :
    zl Tryz.prog zcg [.box id 0, .d (.slice (bcs b))] σ K := by
  refine ze zjY.is rfl fun hl _ => zjY.goes ?_
  have hb := hT.box
  have hm := hT.map
  have hf := mfind_tab l b
  simp only [zkl, iN, bT, bF, eN]
  refine ztG ?_
  refine zuY hT ?_
  cases ho : zff l b with
  | none =>
    rw [ho] at hf hK
    simp only [Option.map_none] at hf
    refine gq58 (zcs hb (zcs hm hf)) ?_
    refine zV hl ?_
    exact hK
  | some k =>
    rw [ho] at hf hK
    simp only [Option.map_some] at hf
    refine gq58 (zcs hb (zcs hm hf)) ?_
    refine zV hl ?_
    exact hK
theorem c_tLen {σ : List zd} {id m t : Nat} {l : List (List UInt8)} (hT : zdG σ id m t l) {K : KT} (hK : K (.d (.int .i64 l.length)) σ) : zl Tryz.prog zfu [.box id 0] σ K := by
  refine ze zkN.is rfl fun hl _ => zkN.goes ?_
  have hb := hT.box
  simp only [zlb, iN, bT, bF, eN]
  refine ztG ?_
  refine zuY hT ?_
  refine zjJ hb ?_
  refine zV hl ?_
  exact hK
theorem c_gLen {σ : List zd} {id m t : Nat} {g : List zt} (hG : zdu σ id m t g) {K : KT} (hK : K (.d (.int .i64 g.length)) σ) : zl Tryz.prog zgs [.box id 0] σ K := by
  refine ze zjZ.is rfl fun hl _ => zjZ.goes ?_
  have hb := hG.box
  simp only [zkm, iN, bT, bF, eN]
  refine ztG ?_
  refine zvc hG ?_
  refine zjJ hb ?_
  refine zV hl ?_
  exact hK
theorem c_gSigned {σ : List zd} {id m t : Nat} {g : List zt} {s : zt} (hG : zdu σ id m t g) {K : KT} (hK : K (.d (.bool (decide (s ∈ g)))) σ) :
    zl Tryz.prog zdM [.box id 0, .agg [.d (.int .i64 s.key), .d (.int .i64 s.dig)]] σ K := by
  refine ze zhS.is rfl fun hl _ => zhS.goes ?_
  have hb : ∀ τ, (σ ++ τ)[id]? = _ := fun τ => zM hG.box
  have hm : ∀ τ, (σ ++ τ)[m]? = _ := fun τ => zM hG.map
  simp only [zhZ, iN, bT, bF, eN]
  refine ztG ?_
  refine zvc (hG.app _) ?_
  by_cases hs : s ∈ g
  · obtain ⟨k, hf⟩ := zpg hs
    rw [decide_eq_true hs] at hK
    refine gq58 (zcs hb (zcs hm hf)) ?_
    refine zV hl ?_
    exact hK
  · have hf := zqY hs
    rw [decide_eq_false hs] at hK
    refine gq58 (zcs hb (zcs hm hf)) ?_
    refine zV hl ?_
    exact hK
theorem gq59 {A P Q : Prop} (a : A) (h : Q) (e : A → Hd Q → P := by intro a h; (repeat' first | simp -dsimp only [↓zfa, ↓zat, ↓zbt, ↓zfb, ↓zeW, ↓zeU, ↓zeX, ↓zeV, ↓zby, ↓zbu, ↓zbz, ↓zbv, ↓zeY, ↓zbs, ↓zbA, ↓zbw, ↓zbB, ↓zbx, ↓zeT, ↓zeZ, ↓zbr, ↓zbC, ↓zeQ, ↓zeP, ↓zeS, iN, bT, bF, eN, ↓zcO, ↓unC, ↓zP, ↓zG, ↓zH, ↓zK, ↓zW, ↓zaz, ↓zdn, ↓zau, ↓zbf, ↓zQ, ↓zg, ↓zf, ↓zbY, ↓zb, ↓zae, ↓zL, ↓zaN, ↓zaO, ↓zc, ↓zB, ↓zj, ↓zE, ↓zY, ↓zdz, ↓zdA, ↓zam, ↓zap, ↓zaK, ↓zaV, ↓zbj, ↓zm, ↓zai, ↓zJ, ↓zr, ↓zT, zdD, zbo, zbk, unA, zcZ, bnd, zdZ, zac, zR, zdT, dm, dm1, zI, zan, zeq, zep, zZ, Q0, Q1, Q2, Q3, Q4, Q5, zX, zn, zo, zF, zA, Q6, Q7, Q8, Q9, Q10, Q11, Q12, Q13, Q14, Nat.reduceAdd, Q15, Int.reduceToNat, Q16, Q17, Q18, Q19, Q20, reduceIte, Q21, Q22, zw, rep, zU, zeo, toD, zaa, Q23, Q24, Q25, Q26, Q27, Q28, Nat.reduceLeDiff, Q29, Nat.reduceSub, Q30, Q31, Q32, sc, Q33, Q34, Q35, Q36, Q37, Q26, Q38, Q39, zlJ, zlG, zlD, zlK, zeM, zlH, zlE, zlI, zlF, zeL, zeN, zlL, zlM, Bool.not_true, Bool.not_false, List.length_map, zem, zhr, zfp, zaV, a] | with_reducible refine zmc ?_ | fail); exact h.go) : P := e a ⟨h⟩
theorem c_tSum {σ : List zd} {id m t : Nat} {l : List (List UInt8)} {b : List UInt8} (hT : zdG σ id m t l) (hbl : b.length ≤ 1073741824) (hll : l.length ≤ 1048576) {K : KT}
    (hK : K (.d (.int .i64 (znL l b))) (putTab σ id m t (zib l b))) : zl Tryz.prog zeh [.box id 0, .d (.slice (bcs b))] σ K := by
  refine ze zkM.is rfl fun hl _ => zkM.goes ?_
  have hb := hT.box
  have hm := hT.map
  have ht := hT.tok
  have hf := mfind_tab l b
  obtain ⟨n1, n2, n3⟩ := hT.ne
  have hlen : (zkw l).length = l.length := List.length_map ..
  simp only [zla, iN, bT, bF, eN]
  refine ztG ?_
  refine zuY hT ?_
  cases ho : zff l b with
  | some k =>
    rw [ho] at hf
    simp only [znL, zib, ho] at hK
    rw [hT.self] at hK
    simp only [Option.map_some] at hf
    refine gq58 (zcs hb (zcs hm hf)) ?_
    refine zV hl ?_
    exact hK
  | none =>
    rw [ho] at hf
    simp only [znL, zib, ho] at hK
    simp only [Option.map_none] at hf
    by_cases hfull : l.length ≥ 1048576
    · rw [if_pos hfull, if_pos hfull, hT.self] at hK
      have hd : decide ((l.length : Int) ≥ 1048576) = true := by simp; omega
      refine gq58 (zcs hb (zcs hm (zcs hf (zcs hlen hd)))) ?_
      refine zV hl ?_
      exact hK
    · rw [if_neg hfull, if_neg hfull] at hK
      have hd : decide ((l.length : Int) ≥ 1048576) = false := by simp; omega
      have g1 : ∀ τ, (σ ++ τ)[id]? = some (.box [.own t (zkw l), .map m]) := fun τ => zM hb
      have g2 : ∀ τ, (σ ++ τ)[t]? = some (.tok 1 l.length) := fun τ => zM ht
      have s1 : ∀ X τ, (σ ++ τ).set t X = σ.set t X ++ τ := fun X τ => zea ht
      have hb' : ∀ X, (σ.set t X)[id]? = some (.box [.own t (zkw l), .map m]) := fun X => by rw [List.getElem?_set_ne (Ne.symm n2)]; exact hb
      have g3 : ∀ X τ, (σ.set t X ++ τ)[id]? = some (.box [.own t (zkw l), .map m]) := fun X τ => zM (hb' X)
      have s2 : ∀ X Y τ, (σ.set t X ++ τ).set id Y = (σ.set t X).set id Y ++ τ := fun X Y τ => zea (hb' X)
      have g4 : ∀ X Y τ, ((σ.set t X).set id Y ++ τ)[id]? = some Y := fun X Y τ => zM (zcL (hb' X))
      have hm' : ∀ X Y, ((σ.set t X).set id Y)[m]? = some (.map (tabM l)) := fun X Y => by rw [List.getElem?_set_ne n1, List.getElem?_set_ne (Ne.symm n3)]; exact hm
      have g5 : ∀ X Y τ, ((σ.set t X).set id Y ++ τ)[m]? = some (.map (tabM l)) := fun X Y τ => zM (hm' X Y)
      have s3 : ∀ X Y Z τ, ((σ.set t X).set id Y ++ τ).set m Z = ((σ.set t X).set id Y).set m Z ++ τ := fun X Y Z τ => zea (hm' X Y)
      refine gq58 (zcs hb (zcs hm (zcs hf (zcs hlen hd)))) ?_
      refine zfz zht (by rw [zem]; omega) ?_
      refine gq59 (zcs g1 (zcs g2 (zcs s1 (zcs g3 (zcs s2 (zcs g4 (zcs g5 (zcs s3 (zcs hf hlen))))))))) ?_
      refine ⟨hb.symm, by simp, by omega, ?_⟩
      have e : putTab σ id m t (l ++ [b]) = ((σ.set t (zd.tok 1 (l.length + 1))).set id (zd.box [AV.own t (zkw l ++ [[D.slice (bcs b)]]), AV.map m])).set m (zd.map (tabM l ++ [(AV.d (D.str b), AV.d (D.int IntKind.i64 ((l.length + 1 : Nat) : Int)))])) := by
        simp [putTab, tabM_add, zkw]
        rw [← tabM_add]; simp
      rw [← e]
      exact zfx (znx ..) (by simp [zjI, dmT, dm, dm1, zdy]) (hT.lows hl _) hK
end Go.Proofs.YtpgahkdjkanblaaGreat
