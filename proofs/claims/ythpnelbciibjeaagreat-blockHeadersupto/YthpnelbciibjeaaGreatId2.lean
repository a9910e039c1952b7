/- Contracts: the program's tables and ledgers. -/
import Derived.Test.YthpnelbciibjeaaGreatSpTab
set_option linter.all false
set_option maxRecDepth 100000
set_option linter.unusedSimpArgs false
set_option linter.unusedVariables false
namespace Go.Proofs.YthpnelbciibjeaaGreat
open Go.AW

theorem gq1 {P Q : Prop} (h : Q) (e : Hd Q → P := by intro h; (repeat' first | simp -dsimp only [↓zgX, ↓zaP, ↓zca, ↓zgZ, ↓zgR, ↓zgP, ↓zgS, ↓zgQ, ↓zcf, ↓zcb, ↓zcg, ↓zcc, ↓zgT, ↓zbX, ↓zch, ↓zcd, ↓zci, ↓zce, ↓zgN, ↓zgW, ↓zbW, ↓zcm, ↓zgC, ↓zgB, ↓zgL, iN, bT, bF, eN, ↓zdH, ↓unC, ↓zR, ↓zN, ↓zO, ↓zP, ↓zan, ↓zba, ↓zcY, ↓zS, ↓zcj, ↓zao, ↓zt, ↓zj, ↓zbI, ↓zg, ↓zah, ↓zX, ↓zaZ, ↓zaU, ↓zd, ↓zH, ↓zl, ↓zy, ↓zar, ↓zdS, ↓zeg, ↓zZ, ↓zaH, ↓zaO, ↓zbn, ↓zbC, ↓zw, ↓zam, ↓zL, ↓zu, ↓zaj, zee, zbN, zbH, unA, zed, bnd, zeY, zad, zag, zeQ, dm, dm1, zE, zaI, zgc, zgb, zaf, Q0, Q1, Q2, Q3, Q4, Q5, zai, zp, zm, zac, zM, Q6, Q7, Q8, Q9, Q10, Q11, Q12, Q13, Q14, Nat.reduceAdd, Q15, Int.reduceToNat, Q16, Q17, Q18, Q19, Q20, reduceIte, Q21, Q22, zC, rep, zT, zfz, toD, zab, Q23, Q24, Q25, Q26, Q27, Q28, Nat.reduceLeDiff, Q29, Nat.reduceSub, Q30, Q31, Q32, sc, Q33, Q34, Q35, Q36, Q37, Q26, Q38, Q39, zpD, zpA, zpx, zpE, zhv, zpB, zpy, zpC, zpz, zhu, zhw, zpJ, zpK, Bool.not_true, Bool.not_false, List.length_map] | with_reducible refine zqn ?_ | fail); exact h.go) : P := e ⟨h⟩
theorem zlF {σ : List zc} {K : AV → List zc → Prop} (hK : K (.box (σ.length + 1) 0) (σ ++ zpg σ.length [])) : zo Tryz.prog zcD [] σ K := by
  refine zo.weaken ?_
  refine zbG zhG.is rfl (fun s => List.range' σ.length 2) fun hl _ => zhG.goes ?_
  simp only [zhN, iN, bT, bF, eN]
  refine gq1 ?_
  refine zhy (σ' := σ) (os := [.map [], .box [.exact [], .map σ.length]]) rfl rfl hl ?_ (.box _ _ (by simp)) ?_
  · intro x hx
    simp only [List.mem_cons, List.not_mem_nil, or_false] at hx
    rcases hx with rfl | rfl
    · intro e he; cases he
    · intro c hc
      simp only [List.mem_cons, List.not_mem_nil, or_false] at hc
      rcases hc with rfl | rfl
      · exact .exact _
      · exact .map _ (by simp)
  · refine ⟨.box (σ.length + 1) 0, σ ++ zpg σ.length [], ?_, hK⟩
    refine .tokB (σ.length + 1) 0 [.exact [], .map σ.length] [] 1 (by rw [zp]; rfl) rfl (by simp) ?_
    have e : (σ ++ [zc.map [], zc.box [AV.exact [], AV.map σ.length]]).set (σ.length + 1) (.box ([AV.exact [], AV.map σ.length].set 0 (.own (σ ++ [zc.map [], zc.box [AV.exact [], AV.map σ.length]]).length []))) ++ [.tok 1 0] = σ ++ zpg σ.length [] := by
      rw [zac]; simp [zpg]; rfl
    rw [List.length_nil, e]
    exact .refl _ _
theorem gq2 {A P Q : Prop} (a : A) (h : Q) (e : A → Hd Q → P := by intro a h; (repeat' first | simp -dsimp only [↓zgX, ↓zaP, ↓zca, ↓zgZ, ↓zgR, ↓zgP, ↓zgS, ↓zgQ, ↓zcf, ↓zcb, ↓zcg, ↓zcc, ↓zgT, ↓zbX, ↓zch, ↓zcd, ↓zci, ↓zce, ↓zgN, ↓zgW, ↓zbW, ↓zcm, ↓zgC, ↓zgB, ↓zgL, iN, bT, bF, eN, ↓zdH, ↓unC, ↓zR, ↓zN, ↓zO, ↓zP, ↓zan, ↓zba, ↓zcY, ↓zS, ↓zcj, ↓zao, ↓zt, ↓zj, ↓zbI, ↓zg, ↓zah, ↓zX, ↓zaZ, ↓zaU, ↓zd, ↓zH, ↓zl, ↓zy, ↓zar, ↓zdS, ↓zeg, ↓zZ, ↓zaH, ↓zaO, ↓zbn, ↓zbC, ↓zw, ↓zam, ↓zL, ↓zu, ↓zaj, zee, zbN, zbH, unA, zed, bnd, zeY, zad, zag, zeQ, dm, dm1, zE, zaI, zgc, zgb, zaf, Q0, Q1, Q2, Q3, Q4, Q5, zai, zp, zm, zac, zM, Q6, Q7, Q8, Q9, Q10, Q11, Q12, Q13, Q14, Nat.reduceAdd, Q15, Int.reduceToNat, Q16, Q17, Q18, Q19, Q20, reduceIte, Q21, Q22, zC, rep, zT, zfz, toD, zab, Q23, Q24, Q25, Q26, Q27, Q28, Nat.reduceLeDiff, Q29, Nat.reduceSub, Q30, Q31, Q32, sc, Q33, Q34, Q35, Q36, Q37, Q26, Q38, Q39, zpD, zpA, zpx, zpE, zhv, zpB, zpy, zpC, zpz, zhu, zhw, zpJ, zpK, Bool.not_true, Bool.not_false, List.length_map, a] | with_reducible refine zqn ?_ | fail); exact h.go) : P := e a ⟨h⟩
theorem zqg {σ : List zc} {id m t : Nat} {l : List (List UInt8)} (hT : zbO σ id m t l) {K : AV → List zc → Prop} (hK : K (.d (.bool false)) σ) : zo Tryz.prog zbq [.box id 0] σ K := by
  refine zhS zkz fun hl => ?_
  have hb := hT.box
  simp only [zgr, iN, bT, bF, eN]
  refine gq2 hb ?_
  refine zbx hl ?_
  exact hK
theorem zh {A B : Prop} (a : A) (b : B) : A ∧ B := ⟨a, b⟩
theorem gq3 {A P Q : Prop} (a : A) (h : Q) (e : A → Hd Q → P := by intro a h; (repeat' first | simp -dsimp only [↓zgX, ↓zaP, ↓zca, ↓zgZ, ↓zgR, ↓zgP, ↓zgS, ↓zgQ, ↓zcf, ↓zcb, ↓zcg, ↓zcc, ↓zgT, ↓zbX, ↓zch, ↓zcd, ↓zci, ↓zce, ↓zgN, ↓zgW, ↓zbW, ↓zcm, ↓zgC, ↓zgB, ↓zgL, iN, bT, bF, eN, ↓zdH, ↓unC, ↓zR, ↓zN, ↓zO, ↓zP, ↓zan, ↓zba, ↓zcY, ↓zS, ↓zcj, ↓zao, ↓zt, ↓zj, ↓zbI, ↓zg, ↓zah, ↓zX, ↓zaZ, ↓zaU, ↓zd, ↓zH, ↓zl, ↓zy, ↓zar, ↓zdS, ↓zeg, ↓zZ, ↓zaH, ↓zaO, ↓zbn, ↓zbC, ↓zw, ↓zam, ↓zL, ↓zu, ↓zaj, zee, zbN, zbH, unA, zed, bnd, zeY, zad, zag, zeQ, dm, dm1, zE, zaI, zgc, zgb, zaf, Q0, Q1, Q2, Q3, Q4, Q5, zai, zp, zm, zac, zM, Q6, Q7, Q8, Q9, Q10, Q11, Q12, Q13, Q14, Nat.reduceAdd, Q15, Int.reduceToNat, Q16, Q17, Q18, Q19, Q20, reduceIte, Q21, Q22, zC, rep, zT, zfz, toD, zab, Q23, Q24, Q25, Q26, Q27, Q28, Nat.reduceLeDiff, Q29, Nat.reduceSub, Q30, Q31, Q32, sc, Q33, Q34, Q35, Q36, Q37, Q26, Q38, Q39, zpD, zpA, zpx, zpE, zhv, zpB, zpy, zpC, zpz, zhu, zhw, zpJ, zpK, Bool.not_true, Bool.not_false, List.length_map, Bool.and_false, Bool.and_self, Bool.false_and, Bool.not_false, Bool.not_true, Bool.true_and, Int.toNat_natCast, Int.toNat_zero, List.drop_zero, List.length_map, List.length_nil, List.nil_append, List.take_length, Nat.sub_zero, Nat.zero_add, Option.isSome_none, Option.isSome_some, Option.map_none, Option.map_some, zat, beq_self_eq_true, bne_self_eq_false, zjW, zdU, zei, zaO, zlp, zbn, a] | with_reducible refine zqn ?_ | fail); exact h.go) : P := e a ⟨h⟩
theorem c_tLook {σ : List zc} {id m t : Nat} {l : List (List UInt8)} {b : List UInt8} (hT : zbO σ id m t l) {K : AV → List zc → Prop} (hK : K (.tup [.d (.int .i64 (numOf (zfo l b))), .d (.bool (zfo l b).isSome)]) σ) :
    zo Tryz.prog zcM [.box id 0, .d (.slice (bcs b))] σ K := by
  refine zjy zkA fun hl => ?_
  have hb := hT.box
  have hm := hT.map
  have hf := mfind_tab l b
  simp only [zgs, iN, bT, bF, eN]
  refine gq1 ?_
  refine zqg hT ?_
  cases ho : zfo l b with
  | none =>
    rw [ho] at hf hK
    simp only [Option.map_none] at hf
    refine gq3 (zh hb (zh hm hf)) ?_
    refine zbx hl ?_
    exact hK
  | some k =>
    rw [ho] at hf hK
    simp only [Option.map_some] at hf
    refine gq3 (zh hb (zh hm hf)) ?_
    refine zbx hl ?_
    exact hK
theorem c_tLen {σ : List zc} {id m t : Nat} {l : List (List UInt8)} (hT : zbO σ id m t l) {K : AV → List zc → Prop} (hK : K (.d (.int .i64 l.length)) σ) : zo Tryz.prog zet [.box id 0] σ K := by
  refine zhS zlC fun hl => ?_
  have hb := hT.box
  simp only [zhj, iN, bT, bF, eN]
  refine gq1 ?_
  refine zqg hT ?_
  refine gq2 hb ?_
  refine zbx hl ?_
  exact hK
theorem zmc {σ : List zc} {id m t : Nat} {l : List (List UInt8)} {b : List UInt8} (hT : zbO σ id m t l) (hbl : b.length ≤ 1073741824) (hll : l.length ≤ 1048576) {K : AV → List zc → Prop}
    (hK : K (.d (.int .i64 (zhT l b))) (putTab σ id m t (zfA l b))) : zo Tryz.prog zaG [.box id 0, .d (.slice (bcs b))] σ K := by
  refine zjy zlB fun hl => ?_
  have hb := hT.box
  have hm := hT.map
  have ht := hT.tok
  have hf := mfind_tab l b
  obtain ⟨n1, n2, n3⟩ := hT.ne
  have hlen : (zhF l).length = l.length := List.length_map ..
  simp only [zhi, iN, bT, bF, eN]
  refine gq1 ?_
  refine zqg hT ?_
  cases ho : zfo l b with
  | some k =>
    rw [ho] at hf
    simp only [zhT, zfA, ho] at hK
    rw [hT.self] at hK
    simp only [Option.map_some] at hf
    refine gq3 (zh hb (zh hm hf)) ?_
    refine zbx hl ?_
    exact hK
  | none =>
    rw [ho] at hf
    simp only [zhT, zfA, ho] at hK
    simp only [Option.map_none] at hf
    by_cases hfull : l.length ≥ 1048576
    · rw [if_pos hfull, if_pos hfull, hT.self] at hK
      have hd : decide ((l.length : Int) ≥ 1048576) = true := by simp; omega
      refine gq3 (zh hb (zh hm (zh hf (zh hlen hd)))) ?_
      refine zbx hl ?_
      exact hK
    · rw [if_neg hfull, if_neg hfull] at hK
      have hd : decide ((l.length : Int) ≥ 1048576) = false := by simp; omega
      have g1 : ∀ τ, (σ ++ τ)[id]? = some (.box [.own t (zhF l), .map m]) := fun τ => zf hb
      have g2 : ∀ τ, (σ ++ τ)[t]? = some (.tok 1 l.length) := fun τ => zf ht
      have s1 : ∀ X τ, (σ ++ τ).set t X = σ.set t X ++ τ := fun X τ => zgg ht
      have hb' : ∀ X, (σ.set t X)[id]? = some (.box [.own t (zhF l), .map m]) := fun X => by rw [List.getElem?_set_ne (Ne.symm n2)]; exact hb
      have g3 : ∀ X τ, (σ.set t X ++ τ)[id]? = some (.box [.own t (zhF l), .map m]) := fun X τ => zf (hb' X)
      have s2 : ∀ X Y τ, (σ.set t X ++ τ).set id Y = (σ.set t X).set id Y ++ τ := fun X Y τ => zgg (hb' X)
      have g4 : ∀ X Y τ, ((σ.set t X).set id Y ++ τ)[id]? = some Y := fun X Y τ => zf (zgl (hb' X))
      have hm' : ∀ X Y, ((σ.set t X).set id Y)[m]? = some (.map (tabM l)) := fun X Y => by rw [List.getElem?_set_ne n1, List.getElem?_set_ne (Ne.symm n3)]; exact hm
      have g5 : ∀ X Y τ, ((σ.set t X).set id Y ++ τ)[m]? = some (.map (tabM l)) := fun X Y τ => zf (hm' X Y)
      have s3 : ∀ X Y Z τ, ((σ.set t X).set id Y ++ τ).set m Z = ((σ.set t X).set id Y).set m Z ++ τ := fun X Y Z τ => zgg (hm' X Y)
      refine gq3 (zh hb (zh hm (zh hf (zh hlen hd)))) ?_
      refine zfr zbF (by rw [zat]; omega) ?_
      refine gq3 (zh g1 (zh g2 (zh s1 (zh g3 (zh s2 (zh g4 (zh g5 (zh s3 (zh hf hlen))))))))) ?_
      refine ⟨hb.symm, by simp, by omega, ?_⟩
      have e : putTab σ id m t (l ++ [b]) = ((σ.set t (zc.tok 1 (l.length + 1))).set id (zc.box [AV.own t (zhF l ++ [[D.slice (bcs b)]]), AV.map m])).set m (zc.map (tabM l ++ [(AV.d (D.str b), AV.d (D.int IntKind.i64 ((l.length + 1 : Nat) : Int)))])) := by
        simp [putTab, tabM_add, zhF]
        rw [← tabM_add]; simp
      rw [← e]
      exact ziY (zaS ..) (by simp [zbM, dmT, dm, dm1, zbo]) (hT.lows hl _) hK
end Go.Proofs.YthpnelbciibjeaaGreat
