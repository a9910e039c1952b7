/- Contracts: the program's tables and ledgers. -/
import Derived.Test.YtpgahkdjkanblaaGreatWr2
set_option linter.all false
set_option maxRecDepth 100000
set_option linter.unusedSimpArgs false
set_option linter.unusedVariables false
namespace Go.Proofs.YtpgahkdjkanblaaGreat
open Go.AW

theorem zwa {P Q : Prop} (h : Q) (e : Hd Q → P := by intro h; (repeat' first | simp -dsimp only [↓zey, ↓zay, ↓zbs, ↓zez, ↓zeu, ↓zes, ↓zev, ↓zet, ↓zbx, ↓zbt, ↓zby, ↓zbu, ↓zew, ↓zbr, ↓zbz, ↓zbv, ↓zbA, ↓zbw, ↓zer, ↓zex, ↓zbp, ↓zbB, ↓zep, ↓zeo, ↓zeq, iN, bT, bF, eN, ↓zcv, ↓unC, ↓zU, ↓zI, ↓zJ, ↓zM, ↓zX, ↓zal, ↓zcX, ↓zai, ↓zaJ, ↓zW, ↓zg, ↓zn, ↓zbP, ↓zb, ↓zaf, ↓zD, ↓zaI, ↓zaQ, ↓zd, ↓zF, ↓zj, ↓zG, ↓zam, ↓zdc, ↓zdj, ↓zak, ↓zau, ↓zaL, ↓zaY, ↓zbh, ↓zo, ↓zaj, ↓zK, ↓zr, ↓zV, zdk, zbn, zbk, unA, zdu, bnd, zdG, zae, zO, zdW, dm, dm1, zR, zaF, zea, zdZ, zw, Q0, Q1, Q2, Q3, Q4, Q5, zY, zC, zt, zN, zE, Q6, Q7, Q8, Q9, Q10, Q11, Q12, Q13, Q14, Nat.reduceAdd, Q15, Int.reduceToNat, Q16, Q17, Q18, Q19, Q20, reduceIte, Q21, Q22, zA, rep, zZ, zeB, toD, zap, Q23, Q24, Q25, Q26, Q27, Q28, Nat.reduceLeDiff, Q29, Nat.reduceSub, Q30, Q31, Q32, sc, Q33, Q34, Q35, Q36, Q37, Q26, Q38, Q39, zpZ, zpW, zpT, zqa, zgd, zpX, zpU, zpY, zpV, zgc, zge, zqb, zqc, Bool.not_true, Bool.not_false, List.length_map] | with_reducible refine zqd ?_ | fail); exact h.go) : P := e ⟨h⟩
theorem zvk {σ : List zf} {K : KT} (hK : K (.box (σ.length + 1) 0) (σ ++ zrV σ.length [])) : zm Tryz.prog zhC [] σ K := by
  refine zm.weaken ?_
  refine zcl zlu.is rfl (fun s => List.range' σ.length 2) fun hl _ => zlu.goes ?_
  simp only [zlM, iN, bT, bF, eN]
  refine zwa ?_
  refine zfW (σ' := σ) (os := [.map [], .box [.exact [], .map σ.length]]) rfl rfl hl ?_ (.box _ _ (by simp)) ?_
  · intro x hx
    simp only [List.mem_cons, List.not_mem_nil, or_false] at hx
    rcases hx with rfl | rfl
    · intro e he; cases he
    · intro c hc
      simp only [List.mem_cons, List.not_mem_nil, or_false] at hc
      rcases hc with rfl | rfl
      · exact .exact _
      · exact .map _ (by simp)
  · refine ⟨.box (σ.length + 1) 0, σ ++ zrV σ.length [], ?_, hK⟩
    refine .tokB (σ.length + 1) 0 [.exact [], .map σ.length] [] 1 (by rw [zC]; rfl) rfl (by simp) ?_
    have e : (σ ++ [zf.map [], zf.box [AV.exact [], AV.map σ.length]]).set (σ.length + 1) (.box ([AV.exact [], AV.map σ.length].set 0 (.own (σ ++ [zf.map [], zf.box [AV.exact [], AV.map σ.length]]).length []))) ++ [.tok 1 0] = σ ++ zrV σ.length [] := by
      rw [zN]; simp [zrV]; rfl
    rw [List.length_nil, e]
    exact .refl _ _
theorem zoy {σ : List zf} {K : KT} (hK : K (.box (σ.length + 1) 0) (σ ++ ledO σ.length [])) : zm Tryz.prog zeM [] σ K := by
  refine zm.weaken ?_
  refine zcl zkn.is rfl (fun s => List.range' σ.length 2) fun hl _ => zkn.goes ?_
  simp only [zkC, iN, bT, bF, eN]
  refine zwa ?_
  refine zfW (σ' := σ) (os := [.map [], .box [.exact [], .map σ.length]]) rfl rfl hl ?_ (.box _ _ (by simp)) ?_
  · intro x hx
    simp only [List.mem_cons, List.not_mem_nil, or_false] at hx
    rcases hx with rfl | rfl
    · intro e he; cases he
    · intro c hc
      simp only [List.mem_cons, List.not_mem_nil, or_false] at hc
      rcases hc with rfl | rfl
      · exact .exact _
      · exact .map _ (by simp)
  · refine ⟨.box (σ.length + 1) 0, σ ++ ledO σ.length [], ?_, hK⟩
    refine .tokB (σ.length + 1) 0 [.exact [], .map σ.length] [] 2 (by rw [zC]; rfl) rfl (by simp) ?_
    have e : (σ ++ [zf.map [], zf.box [AV.exact [], AV.map σ.length]]).set (σ.length + 1) (.box ([AV.exact [], AV.map σ.length].set 0 (.own (σ ++ [zf.map [], zf.box [AV.exact [], AV.map σ.length]]).length []))) ++ [.tok 2 0] = σ ++ ledO σ.length [] := by
      rw [zN]; simp [ledO]; rfl
    rw [List.length_nil, e]
    exact .refl _ _
theorem ziy {A P Q : Prop} (a : A) (h : Q) (e : A → Hd Q → P := by intro a h; (repeat' first | simp -dsimp only [↓zey, ↓zay, ↓zbs, ↓zez, ↓zeu, ↓zes, ↓zev, ↓zet, ↓zbx, ↓zbt, ↓zby, ↓zbu, ↓zew, ↓zbr, ↓zbz, ↓zbv, ↓zbA, ↓zbw, ↓zer, ↓zex, ↓zbp, ↓zbB, ↓zep, ↓zeo, ↓zeq, iN, bT, bF, eN, ↓zcv, ↓unC, ↓zU, ↓zI, ↓zJ, ↓zM, ↓zX, ↓zal, ↓zcX, ↓zai, ↓zaJ, ↓zW, ↓zg, ↓zn, ↓zbP, ↓zb, ↓zaf, ↓zD, ↓zaI, ↓zaQ, ↓zd, ↓zF, ↓zj, ↓zG, ↓zam, ↓zdc, ↓zdj, ↓zak, ↓zau, ↓zaL, ↓zaY, ↓zbh, ↓zo, ↓zaj, ↓zK, ↓zr, ↓zV, zdk, zbn, zbk, unA, zdu, bnd, zdG, zae, zO, zdW, dm, dm1, zR, zaF, zea, zdZ, zw, Q0, Q1, Q2, Q3, Q4, Q5, zY, zC, zt, zN, zE, Q6, Q7, Q8, Q9, Q10, Q11, Q12, Q13, Q14, Nat.reduceAdd, Q15, Int.reduceToNat, Q16, Q17, Q18, Q19, Q20, reduceIte, Q21, Q22, zA, rep, zZ, zeB, toD, zap, Q23, Q24, Q25, Q26, Q27, Q28, Nat.reduceLeDiff, Q29, Nat.reduceSub, Q30, Q31, Q32, sc, Q33, Q34, Q35, Q36, Q37, Q26, Q38, Q39, zpZ, zpW, zpT, zqa, zgd, zpX, zpU, zpY, zpV, zgc, zge, zqb, zqc, Bool.not_true, Bool.not_false, List.length_map, a] | with_reducible refine zqd ?_ | fail); exact h.go) : P := e a ⟨h⟩
theorem zwg {σ : List zf} {id m t : Nat} {l : List (List UInt8)} (hT : zed σ id m t l) {K : KT} (hK : K (.d (.bool false)) σ) : zm Tryz.prog zcz [.box id 0] σ K := by
  refine zc zjt.is rfl fun hl _ => zjt.goes ?_
  have hb := hT.box
  simp only [zjI, iN, bT, bF, eN]
  refine ziy hb ?_
  refine zq hl ?_
  exact hK
theorem zws {σ : List zf} {id m t : Nat} {g : List zP} (hG : zee σ id m t g) {K : KT} (hK : K (.d (.bool false)) σ) : zm Tryz.prog zcj [.box id 0] σ K := by
  refine zc ziJ.is rfl fun hl _ => ziJ.goes ?_
  have hb := hG.box
  simp only [ziX, iN, bT, bF, eN]
  refine ziy hb ?_
  refine zq hl ?_
  exact hK
theorem zcc {A B : Prop} (a : A) (b : B) : A ∧ B := ⟨a, b⟩
theorem gq65 {A P Q : Prop} (a : A) (h : Q) (e : A → Hd Q → P := by intro a h; (repeat' first | simp -dsimp only [↓zey, ↓zay, ↓zbs, ↓zez, ↓zeu, ↓zes, ↓zev, ↓zet, ↓zbx, ↓zbt, ↓zby, ↓zbu, ↓zew, ↓zbr, ↓zbz, ↓zbv, ↓zbA, ↓zbw, ↓zer, ↓zex, ↓zbp, ↓zbB, ↓zep, ↓zeo, ↓zeq, iN, bT, bF, eN, ↓zcv, ↓unC, ↓zU, ↓zI, ↓zJ, ↓zM, ↓zX, ↓zal, ↓zcX, ↓zai, ↓zaJ, ↓zW, ↓zg, ↓zn, ↓zbP, ↓zb, ↓zaf, ↓zD, ↓zaI, ↓zaQ, ↓zd, ↓zF, ↓zj, ↓zG, ↓zam, ↓zdc, ↓zdj, ↓zak, ↓zau, ↓zaL, ↓zaY, ↓zbh, ↓zo, ↓zaj, ↓zK, ↓zr, ↓zV, zdk, zbn, zbk, unA, zdu, bnd, zdG, zae, zO, zdW, dm, dm1, zR, zaF, zea, zdZ, zw, Q0, Q1, Q2, Q3, Q4, Q5, zY, zC, zt, zN, zE, Q6, Q7, Q8, Q9, Q10, Q11, Q12, Q13, Q14, Nat.reduceAdd, Q15, Int.reduceToNat, Q16, Q17, Q18, Q19, Q20, reduceIte, Q21, Q22, zA, rep, zZ, zeB, toD, zap, Q23, Q24, Q25, Q26, Q27, Q28, Nat.reduceLeDiff, Q29, Nat.reduceSub, Q30, Q31, Q32, sc, Q33, Q34, Q35, Q36, Q37, Q26, Q38, Q39, zpZ, zpW, zpT, zqa, zgd, zpX, zpU, zpY, zpV, zgc, zge, zqb, zqc, Bool.not_true, Bool.not_false, List.length_map, zfu, zdC, zcU, zeG, zaL, zvY, zaY, a] | with_reducible refine zqd ?_ | fail); exact h.go) : P := e a ⟨h⟩
theorem ztd {σ : List zf} {id m t : Nat} {l : List (List UInt8)} {b : List UInt8} (hT : zed σ id m t l) {K : KT} (hK : K (.tup [.d (.int .i64 (zvT (zen l b))), .d (.bool (zen l b).isSome)]) σ) :
    zm Tryz.prog zcA [.box id 0, .d (.slice (bcs b))] σ K := by
  refine zc zju.is rfl fun hl _ => zju.goes ?_
  have hb := hT.box
  have hm := hT.map
  have hf := mfind_tab l b
  simp only [zjJ, iN, bT, bF, eN]
  refine zwa ?_
  refine zwg hT ?_
  cases ho : zen l b with
  | none =>
    rw [ho] at hf hK
    simp only [Option.map_none] at hf
    refine gq65 (zcc hb (zcc hm hf)) ?_
    refine zq hl ?_
    exact hK
  | some k =>
    rw [ho] at hf hK
    simp only [Option.map_some] at hf
    refine gq65 (zcc hb (zcc hm hf)) ?_
    refine zq hl ?_
    exact hK
theorem c_tLen {σ : List zf} {id m t : Nat} {l : List (List UInt8)} (hT : zed σ id m t l) {K : KT} (hK : K (.d (.int .i64 l.length)) σ) : zm Tryz.prog zeL [.box id 0] σ K := by
  refine zc zkm.is rfl fun hl _ => zkm.goes ?_
  have hb := hT.box
  simp only [zkB, iN, bT, bF, eN]
  refine zwa ?_
  refine zwg hT ?_
  refine ziy hb ?_
  refine zq hl ?_
  exact hK
theorem c_gLen {σ : List zf} {id m t : Nat} {g : List zP} (hG : zee σ id m t g) {K : KT} (hK : K (.d (.int .i64 g.length)) σ) : zm Tryz.prog zel [.box id 0] σ K := by
  refine zc zjv.is rfl fun hl _ => zjv.goes ?_
  have hb := hG.box
  simp only [zjK, iN, bT, bF, eN]
  refine zwa ?_
  refine zws hG ?_
  refine ziy hb ?_
  refine zq hl ?_
  exact hK
theorem c_gSigned {σ : List zf} {id m t : Nat} {g : List zP} {s : zP} (hG : zee σ id m t g) {K : KT} (hK : K (.d (.bool (decide (s ∈ g)))) σ) :
    zm Tryz.prog zdg [.box id 0, .agg [.d (.int .i64 s.key), .d (.int .i64 s.dig)]] σ K := by
  refine zc zho.is rfl fun hl _ => zho.goes ?_
  have hb : ∀ τ, (σ ++ τ)[id]? = _ := fun τ => zx hG.box
  have hm : ∀ τ, (σ ++ τ)[m]? = _ := fun τ => zx hG.map
  simp only [zhu, iN, bT, bF, eN]
  refine zwa ?_
  refine zws (hG.app _) ?_
  by_cases hs : s ∈ g
  · obtain ⟨k, hf⟩ := zoT hs
    rw [decide_eq_true hs] at hK
    refine gq65 (zcc hb (zcc hm hf)) ?_
    refine zq hl ?_
    exact hK
  · have hf := zrb hs
    rw [decide_eq_false hs] at hK
    refine gq65 (zcc hb (zcc hm hf)) ?_
    refine zq hl ?_
    exact hK
theorem gq66 {A P Q : Prop} (a : A) (h : Q) (e : A → Hd Q → P := by intro a h; (repeat' first | simp -dsimp only [↓zey, ↓zay, ↓zbs, ↓zez, ↓zeu, ↓zes, ↓zev, ↓zet, ↓zbx, ↓zbt, ↓zby, ↓zbu, ↓zew, ↓zbr, ↓zbz, ↓zbv, ↓zbA, ↓zbw, ↓zer, ↓zex, ↓zbp, ↓zbB, ↓zep, ↓zeo, ↓zeq, iN, bT, bF, eN, ↓zcv, ↓unC, ↓zU, ↓zI, ↓zJ, ↓zM, ↓zX, ↓zal, ↓zcX, ↓zai, ↓zaJ, ↓zW, ↓zg, ↓zn, ↓zbP, ↓zb, ↓zaf, ↓zD, ↓zaI, ↓zaQ, ↓zd, ↓zF, ↓zj, ↓zG, ↓zam, ↓zdc, ↓zdj, ↓zak, ↓zau, ↓zaL, ↓zaY, ↓zbh, ↓zo, ↓zaj, ↓zK, ↓zr, ↓zV, zdk, zbn, zbk, unA, zdu, bnd, zdG, zae, zO, zdW, dm, dm1, zR, zaF, zea, zdZ, zw, Q0, Q1, Q2, Q3, Q4, Q5, zY, zC, zt, zN, zE, Q6, Q7, Q8, Q9, Q10, Q11, Q12, Q13, Q14, Nat.reduceAdd, Q15, Int.reduceToNat, Q16, Q17, Q18, Q19, Q20, reduceIte, Q21, Q22, zA, rep, zZ, zeB, toD, zap, Q23, Q24, Q25, Q26, Q27, Q28, Nat.reduceLeDiff, Q29, Nat.reduceSub, Q30, Q31, Q32, sc, Q33, Q34, Q35, Q36, Q37, Q26, Q38, Q39, zpZ, zpW, zpT, zqa, zgd, zpX, zpU, zpY, zpV, zgc, zge, zqb, zqc, Bool.not_true, Bool.not_false, List.length_map, zeQ, zfu, zeG, zaY, a] | with_reducible refine zqd ?_ | fail); exact h.go) : P := e a ⟨h⟩
theorem c_tSum {σ : List zf} {id m t : Nat} {l : List (List UInt8)} {b : List UInt8} (hT : zed σ id m t l) (hbl : b.length ≤ 1073741824) (hll : l.length ≤ 1048576) {K : KT}
    (hK : K (.d (.int .i64 (sumN l b))) (putTab σ id m t (sumL l b))) : zm Tryz.prog zgL [.box id 0, .d (.slice (bcs b))] σ K := by
  refine zc zkl.is rfl fun hl _ => zkl.goes ?_
  have hb := hT.box
  have hm := hT.map
  have ht := hT.tok
  have hf := mfind_tab l b
  obtain ⟨n1, n2, n3⟩ := hT.ne
  have hlen : (ziZ l).length = l.length := List.length_map ..
  simp only [zkA, iN, bT, bF, eN]
  refine zwa ?_
  refine zwg hT ?_
  cases ho : zen l b with
  | some k =>
    rw [ho] at hf
    simp only [sumN, sumL, ho] at hK
    rw [hT.self] at hK
    simp only [Option.map_some] at hf
    refine gq65 (zcc hb (zcc hm hf)) ?_
    refine zq hl ?_
    exact hK
  | none =>
    rw [ho] at hf
    simp only [sumN, sumL, ho] at hK
    simp only [Option.map_none] at hf
    by_cases hfull : l.length ≥ 1048576
    · rw [if_pos hfull, if_pos hfull, hT.self] at hK
      have hd : decide ((l.length : Int) ≥ 1048576) = true := by simp; omega
      refine gq65 (zcc hb (zcc hm (zcc hf (zcc hlen hd)))) ?_
      refine zq hl ?_
      exact hK
    · rw [if_neg hfull, if_neg hfull] at hK
      have hd : decide ((l.length : Int) ≥ 1048576) = false := by simp; omega
      have g1 : ∀ τ, (σ ++ τ)[id]? = some (.box [.own t (ziZ l), .map m]) := fun τ => zx hb
      have g2 : ∀ τ, (σ ++ τ)[t]? = some (.tok 1 l.length) := fun τ => zx ht
      have s1 : ∀ X τ, (σ ++ τ).set t X = σ.set t X ++ τ := fun X τ => zfi ht
      have hb' : ∀ X, (σ.set t X)[id]? = some (.box [.own t (ziZ l), .map m]) := fun X => by rw [List.getElem?_set_ne (Ne.symm n2)]; exact hb
      have g3 : ∀ X τ, (σ.set t X ++ τ)[id]? = some (.box [.own t (ziZ l), .map m]) := fun X τ => zx (hb' X)
      have s2 : ∀ X Y τ, (σ.set t X ++ τ).set id Y = (σ.set t X).set id Y ++ τ := fun X Y τ => zfi (hb' X)
      have g4 : ∀ X Y τ, ((σ.set t X).set id Y ++ τ)[id]? = some Y := fun X Y τ => zx (zdh (hb' X))
      have hm' : ∀ X Y, ((σ.set t X).set id Y)[m]? = some (.map (tabM l)) := fun X Y => by rw [List.getElem?_set_ne n1, List.getElem?_set_ne (Ne.symm n3)]; exact hm
      have g5 : ∀ X Y τ, ((σ.set t X).set id Y ++ τ)[m]? = some (.map (tabM l)) := fun X Y τ => zx (hm' X Y)
      have s3 : ∀ X Y Z τ, ((σ.set t X).set id Y ++ τ).set m Z = ((σ.set t X).set id Y).set m Z ++ τ := fun X Y Z τ => zfi (hm' X Y)
      refine gq65 (zcc hb (zcc hm (zcc hf (zcc hlen hd)))) ?_
      refine zeP zgS (by rw [zeQ]; omega) ?_
      refine gq66 (zcc g1 (zcc g2 (zcc s1 (zcc g3 (zcc s2 (zcc g4 (zcc g5 (zcc s3 (zcc hf hlen))))))))) ?_
      refine ⟨hb.symm, by simp, by omega, ?_⟩
      have e : putTab σ id m t (l ++ [b]) = ((σ.set t (zf.tok 1 (l.length + 1))).set id (zf.box [AV.own t (ziZ l ++ [[D.slice (bcs b)]]), AV.map m])).set m (zf.map (tabM l ++ [(AV.d (D.str b), AV.d (D.int IntKind.i64 ((l.length + 1 : Nat) : Int)))])) := by
        simp [putTab, tabM_add, ziZ]
        rw [← tabM_add]; simp
      rw [← e]
      exact ends_all (putTab_len ..) (by simp [ztP, dmT, dm, dm1, zdF]) (hT.lows hl _) hK
end Go.Proofs.YtpgahkdjkanblaaGreat
