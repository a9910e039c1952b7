/- Contracts: the program's tables and ledgers. -/
import Derived.Test.YtdgcepphjnoalaaGreatWr1
set_option linter.all false
set_option maxRecDepth 100000
set_option linter.unusedSimpArgs false
set_option linter.unusedVariables false
namespace Go.Proofs.YtdgcepphjnoalaaGreat
open Go.AW

theorem gq28 {P Q : Prop} (h : Q) (e : Hd Q → P := by intro h; (repeat' first | simp -dsimp only [↓zgn, ↓zaG, ↓zca, ↓zgo, ↓zgh, ↓zgf, ↓zgi, ↓zgg, ↓zcf, ↓zcb, ↓zcg, ↓zcc, ↓zgj, ↓zbW, ↓zch, ↓zcd, ↓zci, ↓zce, ↓zge, ↓zgl, ↓zbV, ↓zck, ↓zgb, ↓zga, ↓zgd, iN, bT, bF, eN, ↓zds, ↓unC, ↓zX, ↓zJ, ↓zK, ↓zM, ↓zal, ↓zaV, ↓zdU, ↓zay, ↓zbD, ↓zR, ↓zi, ↓zg, ↓zbr, ↓zd, ↓zan, ↓zO, ↓zbf, ↓zbg, ↓zf, ↓zB, ↓zn, ↓zD, ↓zZ, ↓zeb, ↓zes, ↓zaq, ↓zaC, ↓zbe, ↓zbl, ↓zbG, ↓zp, ↓zao, ↓zL, ↓zr, ↓zaj, zen, zbP, zbL, unA, zdF, bnd, zeV, zaf, zac, zeF, dm, dm1, zQ, zaz, zfy, zfx, zI, Q0, Q1, Q2, Q3, Q4, Q5, zam, zw, zu, zN, zG, Q6, Q7, Q8, Q9, Q10, Q11, Q12, Q13, Q14, Nat.reduceAdd, Q15, Int.reduceToNat, Q16, Q17, Q18, Q19, Q20, reduceIte, Q21, Q22, zC, rep, zV, zfi, toD, zad, Q23, Q24, Q25, Q26, Q27, Q28, Nat.reduceLeDiff, Q29, Nat.reduceSub, Q30, Q31, Q32, sc, Q33, Q34, Q35, Q36, Q37, Q26, Q38, Q39, zmU, zmR, zmO, zmV, zfD, zmS, zmP, zmT, zmQ, zfC, zfE, zmY, zmZ, Bool.not_true, Bool.not_false, List.length_map] | with_reducible refine zni ?_ | fail); exact h.go) : P := e ⟨h⟩
theorem zmA {σ : List zc} {K : AV → List zc → Prop} (hK : K (.box (σ.length + 1) 0) (σ ++ tabO σ.length [])) : zl Tryz.prog zdn [] σ K := by
  refine zl.weaken ?_
  refine zbN ziH.is rfl (fun s => List.range' σ.length 2) fun hl _ => ziH.goes ?_
  simp only [ziR, iN, bT, bF, eN]
  refine gq28 ?_
  refine zcL (σ' := σ) (os := [.map [], .box [.exact [], .map σ.length]]) rfl rfl hl ?_ (.box _ _ (by simp)) ?_
  · intro x hx
    simp only [List.mem_cons, List.not_mem_nil, or_false] at hx
    rcases hx with rfl | rfl
    · intro e he; cases he
    · intro c hc
      simp only [List.mem_cons, List.not_mem_nil, or_false] at hc
      rcases hc with rfl | rfl
      · exact .exact _
      · exact .map _ (by simp)
  · refine ⟨.box (σ.length + 1) 0, σ ++ tabO σ.length [], ?_, hK⟩
    refine .tokB (σ.length + 1) 0 [.exact [], .map σ.length] [] 1 (by rw [zw]; rfl) rfl (by simp) ?_
    have e : (σ ++ [zc.map [], zc.box [AV.exact [], AV.map σ.length]]).set (σ.length + 1) (.box ([AV.exact [], AV.map σ.length].set 0 (.own (σ ++ [zc.map [], zc.box [AV.exact [], AV.map σ.length]]).length []))) ++ [.tok 1 0] = σ ++ tabO σ.length [] := by
      rw [zN]; simp [tabO]; rfl
    rw [List.length_nil, e]
    exact .refl _ _
theorem ziA {σ : List zc} {K : AV → List zc → Prop} (hK : K (.box (σ.length + 1) 0) (σ ++ ledO σ.length [])) : zl Tryz.prog zcY [] σ K := by
  refine zl.weaken ?_
  refine zbN zhN.is rfl (fun s => List.range' σ.length 2) fun hl _ => zhN.goes ?_
  simp only [zhX, iN, bT, bF, eN]
  refine gq28 ?_
  refine zcL (σ' := σ) (os := [.map [], .box [.exact [], .map σ.length]]) rfl rfl hl ?_ (.box _ _ (by simp)) ?_
  · intro x hx
    simp only [List.mem_cons, List.not_mem_nil, or_false] at hx
    rcases hx with rfl | rfl
    · intro e he; cases he
    · intro c hc
      simp only [List.mem_cons, List.not_mem_nil, or_false] at hc
      rcases hc with rfl | rfl
      · exact .exact _
      · exact .map _ (by simp)
  · refine ⟨.box (σ.length + 1) 0, σ ++ ledO σ.length [], ?_, hK⟩
    refine .tokB (σ.length + 1) 0 [.exact [], .map σ.length] [] 2 (by rw [zw]; rfl) rfl (by simp) ?_
    have e : (σ ++ [zc.map [], zc.box [AV.exact [], AV.map σ.length]]).set (σ.length + 1) (.box ([AV.exact [], AV.map σ.length].set 0 (.own (σ ++ [zc.map [], zc.box [AV.exact [], AV.map σ.length]]).length []))) ++ [.tok 2 0] = σ ++ ledO σ.length [] := by
      rw [zN]; simp [ledO]; rfl
    rw [List.length_nil, e]
    exact .refl _ _
theorem zns {A P Q : Prop} (a : A) (h : Q) (e : A → Hd Q → P := by intro a h; (repeat' first | simp -dsimp only [↓zgn, ↓zaG, ↓zca, ↓zgo, ↓zgh, ↓zgf, ↓zgi, ↓zgg, ↓zcf, ↓zcb, ↓zcg, ↓zcc, ↓zgj, ↓zbW, ↓zch, ↓zcd, ↓zci, ↓zce, ↓zge, ↓zgl, ↓zbV, ↓zck, ↓zgb, ↓zga, ↓zgd, iN, bT, bF, eN, ↓zds, ↓unC, ↓zX, ↓zJ, ↓zK, ↓zM, ↓zal, ↓zaV, ↓zdU, ↓zay, ↓zbD, ↓zR, ↓zi, ↓zg, ↓zbr, ↓zd, ↓zan, ↓zO, ↓zbf, ↓zbg, ↓zf, ↓zB, ↓zn, ↓zD, ↓zZ, ↓zeb, ↓zes, ↓zaq, ↓zaC, ↓zbe, ↓zbl, ↓zbG, ↓zp, ↓zao, ↓zL, ↓zr, ↓zaj, zen, zbP, zbL, unA, zdF, bnd, zeV, zaf, zac, zeF, dm, dm1, zQ, zaz, zfy, zfx, zI, Q0, Q1, Q2, Q3, Q4, Q5, zam, zw, zu, zN, zG, Q6, Q7, Q8, Q9, Q10, Q11, Q12, Q13, Q14, Nat.reduceAdd, Q15, Int.reduceToNat, Q16, Q17, Q18, Q19, Q20, reduceIte, Q21, Q22, zC, rep, zV, zfi, toD, zad, Q23, Q24, Q25, Q26, Q27, Q28, Nat.reduceLeDiff, Q29, Nat.reduceSub, Q30, Q31, Q32, sc, Q33, Q34, Q35, Q36, Q37, Q26, Q38, Q39, zmU, zmR, zmO, zmV, zfD, zmS, zmP, zmT, zmQ, zfC, zfE, zmY, zmZ, Bool.not_true, Bool.not_false, List.length_map, a] | with_reducible refine zni ?_ | fail); exact h.go) : P := e a ⟨h⟩
theorem zre {σ : List zc} {id m t : Nat} {l : List (List UInt8)} (hT : zdT σ id m t l) {K : AV → List zc → Prop} (hK : K (.d (.bool false)) σ) : zl Tryz.prog zbo [.box id 0] σ K := by
  refine zfT zhe fun hl => ?_
  have hb := hT.box
  simp only [zeU, iN, bT, bF, eN]
  refine zns hb ?_
  refine zap hl ?_
  exact hK
theorem zoM {σ : List zc} {id m t : Nat} {g : List zS} (hG : zdp σ id m t g) {K : AV → List zc → Prop} (hK : K (.d (.bool false)) σ) : zl Tryz.prog zbk [.box id 0] σ K := by
  refine zfT zgL fun hl => ?_
  have hb := hG.box
  simp only [zeA, iN, bT, bF, eN]
  refine zns hb ?_
  refine zap hl ?_
  exact hK
theorem zeL {A B : Prop} (a : A) (b : B) : A ∧ B := ⟨a, b⟩
theorem gq30 {A P Q : Prop} (a : A) (h : Q) (e : A → Hd Q → P := by intro a h; (repeat' first | simp -dsimp only [↓zgn, ↓zaG, ↓zca, ↓zgo, ↓zgh, ↓zgf, ↓zgi, ↓zgg, ↓zcf, ↓zcb, ↓zcg, ↓zcc, ↓zgj, ↓zbW, ↓zch, ↓zcd, ↓zci, ↓zce, ↓zge, ↓zgl, ↓zbV, ↓zck, ↓zgb, ↓zga, ↓zgd, iN, bT, bF, eN, ↓zds, ↓unC, ↓zX, ↓zJ, ↓zK, ↓zM, ↓zal, ↓zaV, ↓zdU, ↓zay, ↓zbD, ↓zR, ↓zi, ↓zg, ↓zbr, ↓zd, ↓zan, ↓zO, ↓zbf, ↓zbg, ↓zf, ↓zB, ↓zn, ↓zD, ↓zZ, ↓zeb, ↓zes, ↓zaq, ↓zaC, ↓zbe, ↓zbl, ↓zbG, ↓zp, ↓zao, ↓zL, ↓zr, ↓zaj, zen, zbP, zbL, unA, zdF, bnd, zeV, zaf, zac, zeF, dm, dm1, zQ, zaz, zfy, zfx, zI, Q0, Q1, Q2, Q3, Q4, Q5, zam, zw, zu, zN, zG, Q6, Q7, Q8, Q9, Q10, Q11, Q12, Q13, Q14, Nat.reduceAdd, Q15, Int.reduceToNat, Q16, Q17, Q18, Q19, Q20, reduceIte, Q21, Q22, zC, rep, zV, zfi, toD, zad, Q23, Q24, Q25, Q26, Q27, Q28, Nat.reduceLeDiff, Q29, Nat.reduceSub, Q30, Q31, Q32, sc, Q33, Q34, Q35, Q36, Q37, Q26, Q38, Q39, zmU, zmR, zmO, zmV, zfD, zmS, zmP, zmT, zmQ, zfC, zfE, zmY, zmZ, Bool.not_true, Bool.not_false, List.length_map, Bool.and_false, Bool.and_self, Bool.false_and, Bool.not_false, Bool.not_true, Bool.true_and, Int.toNat_natCast, Int.toNat_zero, List.drop_zero, List.length_map, List.length_nil, List.nil_append, List.take_length, Nat.sub_zero, Nat.zero_add, Option.isSome_none, Option.isSome_some, Option.map_none, Option.map_some, zaJ, beq_self_eq_true, bne_self_eq_false, zkT, zeN, zeh, zbe, mgetR, zbl, a] | with_reducible refine zni ?_ | fail); exact h.go) : P := e a ⟨h⟩
theorem c_tLook {σ : List zc} {id m t : Nat} {l : List (List UInt8)} {b : List UInt8} (hT : zdT σ id m t l) {K : AV → List zc → Prop} (hK : K (.tup [.d (.int .i64 (numOf (ziX l b))), .d (.bool (ziX l b).isSome)]) σ) :
    zl Tryz.prog zdz [.box id 0, .d (.slice (bcs b))] σ K := by
  refine zjc zlB fun hl => ?_
  have hb := hT.box
  have hm := hT.map
  have hf := mfind_tab l b
  simp only [zhm, iN, bT, bF, eN]
  refine gq28 ?_
  refine zre hT ?_
  cases ho : ziX l b with
  | none =>
    rw [ho] at hf hK
    simp only [Option.map_none] at hf
    refine gq30 (zeL hb (zeL hm hf)) ?_
    refine zap hl ?_
    exact hK
  | some k =>
    rw [ho] at hf hK
    simp only [Option.map_some] at hf
    refine gq30 (zeL hb (zeL hm hf)) ?_
    refine zap hl ?_
    exact hK
theorem c_tLen {σ : List zc} {id m t : Nat} {l : List (List UInt8)} (hT : zdT σ id m t l) {K : AV → List zc → Prop} (hK : K (.d (.int .i64 l.length)) σ) : zl Tryz.prog zfm [.box id 0] σ K := by
  refine zfT zmu fun hl => ?_
  have hb := hT.box
  simp only [zhW, iN, bT, bF, eN]
  refine gq28 ?_
  refine zre hT ?_
  refine zns hb ?_
  refine zap hl ?_
  exact hK
theorem c_gLen {σ : List zc} {id m t : Nat} {g : List zS} (hG : zdp σ id m t g) {K : AV → List zc → Prop} (hK : K (.d (.int .i64 g.length)) σ) : zl Tryz.prog zeJ [.box id 0] σ K := by
  refine zfT zlC fun hl => ?_
  have hb := hG.box
  simp only [zhn, iN, bT, bF, eN]
  refine gq28 ?_
  refine zoM hG ?_
  refine zns hb ?_
  refine zap hl ?_
  exact hK
theorem gq31 {A P Q : Prop} (a : A) (h : Q) (e : A → Hd Q → P := by intro a h; (repeat' first | simp -dsimp only [↓zgn, ↓zaG, ↓zca, ↓zgo, ↓zgh, ↓zgf, ↓zgi, ↓zgg, ↓zcf, ↓zcb, ↓zcg, ↓zcc, ↓zgj, ↓zbW, ↓zch, ↓zcd, ↓zci, ↓zce, ↓zge, ↓zgl, ↓zbV, ↓zck, ↓zgb, ↓zga, ↓zgd, iN, bT, bF, eN, ↓zds, ↓unC, ↓zX, ↓zJ, ↓zK, ↓zM, ↓zal, ↓zaV, ↓zdU, ↓zay, ↓zbD, ↓zR, ↓zi, ↓zg, ↓zbr, ↓zd, ↓zan, ↓zO, ↓zbf, ↓zbg, ↓zf, ↓zB, ↓zn, ↓zD, ↓zZ, ↓zeb, ↓zes, ↓zaq, ↓zaC, ↓zbe, ↓zbl, ↓zbG, ↓zp, ↓zao, ↓zL, ↓zr, ↓zaj, zen, zbP, zbL, unA, zdF, bnd, zeV, zaf, zac, zeF, dm, dm1, zQ, zaz, zfy, zfx, zI, Q0, Q1, Q2, Q3, Q4, Q5, zam, zw, zu, zN, zG, Q6, Q7, Q8, Q9, Q10, Q11, Q12, Q13, Q14, Nat.reduceAdd, Q15, Int.reduceToNat, Q16, Q17, Q18, Q19, Q20, reduceIte, Q21, Q22, zC, rep, zV, zfi, toD, zad, Q23, Q24, Q25, Q26, Q27, Q28, Nat.reduceLeDiff, Q29, Nat.reduceSub, Q30, Q31, Q32, sc, Q33, Q34, Q35, Q36, Q37, Q26, Q38, Q39, zmU, zmR, zmO, zmV, zfD, zmS, zmP, zmT, zmQ, zfC, zfE, zmY, zmZ, Bool.not_true, Bool.not_false, List.length_map, Bool.and_false, Bool.and_self, Bool.false_and, Bool.not_false, Bool.not_true, Bool.true_and, Int.toNat_natCast, Int.toNat_zero, List.drop_zero, List.length_map, List.length_nil, List.nil_append, List.take_length, Nat.sub_zero, Nat.zero_add, Option.isSome_none, Option.isSome_some, Option.map_none, Option.map_some, zaJ, beq_self_eq_true, bne_self_eq_false, zkT, zbK, zcD, zeN, zei, zbM, zeh, zbe, mgetR, zbl, numOf, opA, zhG, ziU, zaH, a] | with_reducible refine zni ?_ | fail); exact h.go) : P := e a ⟨h⟩
theorem c_gSigned {σ : List zc} {id m t : Nat} {g : List zS} {s : zS} (hG : zdp σ id m t g) {K : AV → List zc → Prop} (hK : K (.d (.bool (decide (s ∈ g)))) σ) :
    zl Tryz.prog zdJ [.box id 0, .agg [.d (.int .i64 s.key), .d (.int .i64 s.dig)]] σ K := by
  refine zjc zjt fun hl => ?_
  have hb : ∀ τ, (σ ++ τ)[id]? = _ := fun τ => zy hG.box
  have hm : ∀ τ, (σ ++ τ)[m]? = _ := fun τ => zy hG.map
  simp only [zfM, iN, bT, bF, eN]
  refine gq28 ?_
  refine zoM (hG.app _) ?_
  by_cases hs : s ∈ g
  · obtain ⟨k, hf⟩ := zlq hs
    rw [decide_eq_true hs] at hK
    refine gq31 (zeL hb (zeL hm hf)) ?_
    refine zap hl ?_
    exact hK
  · have hf := zmW hs
    rw [decide_eq_false hs] at hK
    refine gq31 (zeL hb (zeL hm hf)) ?_
    refine zap hl ?_
    exact hK
theorem c_tSum {σ : List zc} {id m t : Nat} {l : List (List UInt8)} {b : List UInt8} (hT : zdT σ id m t l) (hbl : b.length ≤ 1073741824) (hll : l.length ≤ 1048576) {K : AV → List zc → Prop}
    (hK : K (.d (.int .i64 (zie l b))) (putTab σ id m t (zgt l b))) : zl Tryz.prog zcX [.box id 0, .d (.slice (bcs b))] σ K := by
  refine zjc zmt fun hl => ?_
  have hb := hT.box
  have hm := hT.map
  have ht := hT.tok
  have hf := mfind_tab l b
  obtain ⟨n1, n2, n3⟩ := hT.ne
  have hlen : (tabE l).length = l.length := List.length_map ..
  simp only [zhV, iN, bT, bF, eN]
  refine gq28 ?_
  refine zre hT ?_
  cases ho : ziX l b with
  | some k =>
    rw [ho] at hf
    simp only [zie, zgt, ho] at hK
    rw [hT.self] at hK
    simp only [Option.map_some] at hf
    refine gq30 (zeL hb (zeL hm hf)) ?_
    refine zap hl ?_
    exact hK
  | none =>
    rw [ho] at hf
    simp only [zie, zgt, ho] at hK
    simp only [Option.map_none] at hf
    by_cases hfull : l.length ≥ 1048576
    · rw [if_pos hfull, if_pos hfull, hT.self] at hK
      have hd : decide ((l.length : Int) ≥ 1048576) = true := by simp; omega
      refine gq30 (zeL hb (zeL hm (zeL hf (zeL hlen hd)))) ?_
      refine zap hl ?_
      exact hK
    · rw [if_neg hfull, if_neg hfull] at hK
      have hd : decide ((l.length : Int) ≥ 1048576) = false := by simp; omega
      have g1 : ∀ τ, (σ ++ τ)[id]? = some (.box [.own t (tabE l), .map m]) := fun τ => zy hb
      have g2 : ∀ τ, (σ ++ τ)[t]? = some (.tok 1 l.length) := fun τ => zy ht
      have s1 : ∀ X τ, (σ ++ τ).set t X = σ.set t X ++ τ := fun X τ => zig ht
      have hb' : ∀ X, (σ.set t X)[id]? = some (.box [.own t (tabE l), .map m]) := fun X => by rw [List.getElem?_set_ne (Ne.symm n2)]; exact hb
      have g3 : ∀ X τ, (σ.set t X ++ τ)[id]? = some (.box [.own t (tabE l), .map m]) := fun X τ => zy (hb' X)
      have s2 : ∀ X Y τ, (σ.set t X ++ τ).set id Y = (σ.set t X).set id Y ++ τ := fun X Y τ => zig (hb' X)
      have g4 : ∀ X Y τ, ((σ.set t X).set id Y ++ τ)[id]? = some Y := fun X Y τ => zy (zhb (hb' X))
      have hm' : ∀ X Y, ((σ.set t X).set id Y)[m]? = some (.map (tabM l)) := fun X Y => by rw [List.getElem?_set_ne n1, List.getElem?_set_ne (Ne.symm n3)]; exact hm
      have g5 : ∀ X Y τ, ((σ.set t X).set id Y ++ τ)[m]? = some (.map (tabM l)) := fun X Y τ => zy (hm' X Y)
      have s3 : ∀ X Y Z τ, ((σ.set t X).set id Y ++ τ).set m Z = ((σ.set t X).set id Y).set m Z ++ τ := fun X Y Z τ => zig (hm' X Y)
      refine gq30 (zeL hb (zeL hm (zeL hf (zeL hlen hd)))) ?_
      refine zgm zhy (by rw [zaJ]; omega) ?_
      refine gq30 (zeL g1 (zeL g2 (zeL s1 (zeL g3 (zeL s2 (zeL g4 (zeL g5 (zeL s3 (zeL hf hlen))))))))) ?_
      refine ⟨hb.symm, by simp, by omega, ?_⟩
      have e : putTab σ id m t (l ++ [b]) = ((σ.set t (zc.tok 1 (l.length + 1))).set id (zc.box [AV.own t (tabE l ++ [[D.slice (bcs b)]]), AV.map m])).set m (zc.map (tabM l ++ [(AV.d (D.str b), AV.d (D.int IntKind.i64 ((l.length + 1 : Nat) : Int)))])) := by
        simp [putTab, tabM_add, tabE]
        rw [← tabM_add]; simp
      rw [← e]
      exact zhc (zjM ..) (by simp [zhZ, dmT, dm, dm1, zdg]) (hT.lows hl _) hK
end Go.Proofs.YtdgcepphjnoalaaGreat
