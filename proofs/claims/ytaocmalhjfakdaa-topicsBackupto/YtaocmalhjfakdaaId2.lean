/- Contracts: the program's tables and ledgers. -/
import Derived.Test.YtaocmalhjfakdaaSpTab
set_option linter.all false
set_option maxRecDepth 100000
set_option linter.unusedSimpArgs false
set_option linter.unusedVariables false
namespace Go.Proofs.Ytaocmalhjfakdaa
open Go.AW

theorem gq1 {P Q : Prop} (h : Q) (e : Hd Q → P := by intro h; (repeat' first | simp -dsimp only [↓zhM, ↓zbc, ↓zcw, ↓zhN, ↓zhF, ↓zhD, ↓zhG, ↓zhE, ↓zcB, ↓zcx, ↓zcC, ↓zcy, ↓zhH, ↓zcv, ↓zcD, ↓zcz, ↓zcE, ↓zcA, ↓zhC, ↓zhK, ↓zcu, ↓zcF, ↓zhu, ↓zht, ↓zhA, iN, bT, bF, eN, ↓zdW, ↓unC, ↓zW, ↓zP, ↓zQ, ↓zZ, ↓zax, ↓zbx, ↓zdD, ↓zan, ↓zcV, ↓zaD, ↓zn, ↓zp, ↓zca, ↓zh, ↓zak, ↓zN, ↓zbf, ↓zba, ↓ze, ↓zD, ↓zl, ↓zA, ↓zas, ↓zeB, ↓zeQ, ↓zaC, ↓zaP, ↓zaS, ↓zbs, ↓zbW, ↓zx, ↓zap, ↓zK, ↓zr, ↓zaw, zeM, zcl, zcd, unA, zeK, bnd, zfK, zae, zaj, zfy, dm, dm1, zV, zbo, zgx, zgw, keepO, Q0, Q1, Q2, Q3, Q4, Q5, zaz, zG, zi, zau, zY, Q6, Q7, Q8, Q9, Q10, Q11, Q12, Q13, Q14, Nat.reduceAdd, Q15, Int.reduceToNat, Q16, Q17, Q18, Q19, Q20, reduceIte, Q21, Q22, zu, rep, zR, zfV, toD, zab, Q23, Q24, Q25, Q26, Q27, Q28, Nat.reduceLeDiff, Q29, Nat.reduceSub, Q30, Q31, Q32, sc, Q33, Q34, Q35, Q36, Q37, Q26, Q38, Q39, n0gt, n1gt, n2gt, n0eq, zhW, n1eq, n2eq, n0ne, n1ne, zhV, zhX, i0ne, i0eq, Bool.not_true, Bool.not_false, List.length_map] | with_reducible refine andA ?_ | fail); exact h.go) : P := e ⟨h⟩
theorem c_NewTable {σ : List zc} {K : AV → List zc → Prop} (hK : K (.box (σ.length + 1) 0) (σ ++ tabO σ.length [])) : zt Try.prog zeh [] σ K := by
  refine zt.weaken ?_
  refine zcW zgl.is rfl (fun s => List.range' σ.length 2) fun hl _ => zgl.goes ?_
  simp only [zgt, iN, bT, bF, eN]
  refine gq1 ?_
  refine zmN (σ' := σ) (os := [.map [], .box [.exact [], .map σ.length]]) rfl rfl hl ?_ (.box _ _ (by simp)) ?_
  · intro x hx
    simp only [List.mem_cons, List.not_mem_nil, or_false] at hx
    rcases hx with rfl | rfl
    · intro e he; cases he
    · intro c hc
      simp only [List.mem_cons, List.not_mem_nil, or_false] at hc
      rcases hc with rfl | rfl
      · exact .exact _
      · exact .map _ (by simp)
  · refine ⟨.box (σ.length + 1) 0, σ ++ tabO σ.length [], ?_, hK⟩
    refine .tokB (σ.length + 1) 0 [.exact [], .map σ.length] [] 1 (by rw [zG]; rfl) rfl (by simp) ?_
    have e : (σ ++ [zc.map [], zc.box [AV.exact [], AV.map σ.length]]).set (σ.length + 1) (.box ([AV.exact [], AV.map σ.length].set 0 (.own (σ ++ [zc.map [], zc.box [AV.exact [], AV.map σ.length]]).length []))) ++ [.tok 1 0] = σ ++ tabO σ.length [] := by
      rw [zau]; simp [tabO]; rfl
    rw [List.length_nil, e]
    exact .refl _ _
theorem gq2 {A P Q : Prop} (a : A) (h : Q) (e : A → Hd Q → P := by intro a h; (repeat' first | simp -dsimp only [↓zhM, ↓zbc, ↓zcw, ↓zhN, ↓zhF, ↓zhD, ↓zhG, ↓zhE, ↓zcB, ↓zcx, ↓zcC, ↓zcy, ↓zhH, ↓zcv, ↓zcD, ↓zcz, ↓zcE, ↓zcA, ↓zhC, ↓zhK, ↓zcu, ↓zcF, ↓zhu, ↓zht, ↓zhA, iN, bT, bF, eN, ↓zdW, ↓unC, ↓zW, ↓zP, ↓zQ, ↓zZ, ↓zax, ↓zbx, ↓zdD, ↓zan, ↓zcV, ↓zaD, ↓zn, ↓zp, ↓zca, ↓zh, ↓zak, ↓zN, ↓zbf, ↓zba, ↓ze, ↓zD, ↓zl, ↓zA, ↓zas, ↓zeB, ↓zeQ, ↓zaC, ↓zaP, ↓zaS, ↓zbs, ↓zbW, ↓zx, ↓zap, ↓zK, ↓zr, ↓zaw, zeM, zcl, zcd, unA, zeK, bnd, zfK, zae, zaj, zfy, dm, dm1, zV, zbo, zgx, zgw, keepO, Q0, Q1, Q2, Q3, Q4, Q5, zaz, zG, zi, zau, zY, Q6, Q7, Q8, Q9, Q10, Q11, Q12, Q13, Q14, Nat.reduceAdd, Q15, Int.reduceToNat, Q16, Q17, Q18, Q19, Q20, reduceIte, Q21, Q22, zu, rep, zR, zfV, toD, zab, Q23, Q24, Q25, Q26, Q27, Q28, Nat.reduceLeDiff, Q29, Nat.reduceSub, Q30, Q31, Q32, sc, Q33, Q34, Q35, Q36, Q37, Q26, Q38, Q39, n0gt, n1gt, n2gt, n0eq, zhW, n1eq, n2eq, n0ne, n1ne, zhV, zhX, i0ne, i0eq, Bool.not_true, Bool.not_false, List.length_map, a] | with_reducible refine andA ?_ | fail); exact h.go) : P := e a ⟨h⟩
theorem c_tNone {σ : List zc} {id m t : Nat} {l : List (List UInt8)} (hT : zfD σ id m t l) {K : AV → List zc → Prop} (hK : K (.d (.bool false)) σ) : zt Try.prog zdd [.box id 0] σ K := by
  refine acE1 ziL fun hl => ?_
  have hb := hT.box
  simp only [zfv, iN, bT, bF, eN]
  refine gq2 hb ?_
  refine zgk hl ?_
  exact hK
theorem zb {A B : Prop} (a : A) (b : B) : A ∧ B := ⟨a, b⟩
theorem gq3 {A P Q : Prop} (a : A) (h : Q) (e : A → Hd Q → P := by intro a h; (repeat' first | simp -dsimp only [↓zhM, ↓zbc, ↓zcw, ↓zhN, ↓zhF, ↓zhD, ↓zhG, ↓zhE, ↓zcB, ↓zcx, ↓zcC, ↓zcy, ↓zhH, ↓zcv, ↓zcD, ↓zcz, ↓zcE, ↓zcA, ↓zhC, ↓zhK, ↓zcu, ↓zcF, ↓zhu, ↓zht, ↓zhA, iN, bT, bF, eN, ↓zdW, ↓unC, ↓zW, ↓zP, ↓zQ, ↓zZ, ↓zax, ↓zbx, ↓zdD, ↓zan, ↓zcV, ↓zaD, ↓zn, ↓zp, ↓zca, ↓zh, ↓zak, ↓zN, ↓zbf, ↓zba, ↓ze, ↓zD, ↓zl, ↓zA, ↓zas, ↓zeB, ↓zeQ, ↓zaC, ↓zaP, ↓zaS, ↓zbs, ↓zbW, ↓zx, ↓zap, ↓zK, ↓zr, ↓zaw, zeM, zcl, zcd, unA, zeK, bnd, zfK, zae, zaj, zfy, dm, dm1, zV, zbo, zgx, zgw, keepO, Q0, Q1, Q2, Q3, Q4, Q5, zaz, zG, zi, zau, zY, Q6, Q7, Q8, Q9, Q10, Q11, Q12, Q13, Q14, Nat.reduceAdd, Q15, Int.reduceToNat, Q16, Q17, Q18, Q19, Q20, reduceIte, Q21, Q22, zu, rep, zR, zfV, toD, zab, Q23, Q24, Q25, Q26, Q27, Q28, Nat.reduceLeDiff, Q29, Nat.reduceSub, Q30, Q31, Q32, sc, Q33, Q34, Q35, Q36, Q37, Q26, Q38, Q39, n0gt, n1gt, n2gt, n0eq, zhW, n1eq, n2eq, n0ne, n1ne, zhV, zhX, i0ne, i0eq, Bool.not_true, Bool.not_false, List.length_map, Bool.and_false, Bool.and_self, Bool.false_and, Bool.not_false, Bool.not_true, Bool.true_and, Int.toNat_natCast, Int.toNat_zero, List.drop_zero, List.length_map, List.length_nil, List.nil_append, List.take_length, Nat.sub_zero, Nat.zero_add, Option.isSome_none, Option.isSome_some, Option.map_none, Option.map_some, zbg, beq_self_eq_true, bne_self_eq_false, zge, zdi, zdf, zaS, zjk, zbs, a] | with_reducible refine andA ?_ | fail); exact h.go) : P := e a ⟨h⟩
theorem c_tSum {σ : List zc} {id m t : Nat} {l : List (List UInt8)} {b : List UInt8} (hT : zfD σ id m t l) (hbl : b.length ≤ 1073741824) (hll : l.length ≤ 1048576) {K : AV → List zc → Prop}
    (hK : K (.d (.int .i64 (sumN l b))) (putTab σ id m t (sumL l b))) : zt Try.prog zdH [.box id 0, .d (.slice (bcs b))] σ K := by
  refine acE2 zju fun hl => ?_
  have hb := hT.box
  have hm := hT.map
  have ht := hT.tok
  have hf := mfind_tab l b
  obtain ⟨n1, n2, n3⟩ := hT.ne
  have hlen : (zmq l).length = l.length := List.length_map ..
  simp only [zfT, iN, bT, bF, eN]
  refine gq1 ?_
  refine c_tNone hT ?_
  cases ho : zgJ l b with
  | some k =>
    rw [ho] at hf
    simp only [sumN, sumL, ho] at hK
    rw [hT.self] at hK
    simp only [Option.map_some] at hf
    refine gq3 (zb hb (zb hm hf)) ?_
    refine zgk hl ?_
    exact hK
  | none =>
    rw [ho] at hf
    simp only [sumN, sumL, ho] at hK
    simp only [Option.map_none] at hf
    by_cases hfull : l.length ≥ 1048576
    · rw [if_pos hfull, if_pos hfull, hT.self] at hK
      have hd : decide ((l.length : Int) ≥ 1048576) = true := by simp; omega
      refine gq3 (zb hb (zb hm (zb hf (zb hlen hd)))) ?_
      refine zgk hl ?_
      exact hK
    · rw [if_neg hfull, if_neg hfull] at hK
      have hd : decide ((l.length : Int) ≥ 1048576) = false := by simp; omega
      have g1 : ∀ τ, (σ ++ τ)[id]? = some (.box [.own t (zmq l), .map m]) := fun τ => zf hb
      have g2 : ∀ τ, (σ ++ τ)[t]? = some (.tok 1 l.length) := fun τ => zf ht
      have s1 : ∀ X τ, (σ ++ τ).set t X = σ.set t X ++ τ := fun X τ => zhc ht
      have hb' : ∀ X, (σ.set t X)[id]? = some (.box [.own t (zmq l), .map m]) := fun X => by rw [List.getElem?_set_ne (Ne.symm n2)]; exact hb
      have g3 : ∀ X τ, (σ.set t X ++ τ)[id]? = some (.box [.own t (zmq l), .map m]) := fun X τ => zf (hb' X)
      have s2 : ∀ X Y τ, (σ.set t X ++ τ).set id Y = (σ.set t X).set id Y ++ τ := fun X Y τ => zhc (hb' X)
      have g4 : ∀ X Y τ, ((σ.set t X).set id Y ++ τ)[id]? = some Y := fun X Y τ => zf (zfs (hb' X))
      have hm' : ∀ X Y, ((σ.set t X).set id Y)[m]? = some (.map (tabM l)) := fun X Y => by rw [List.getElem?_set_ne n1, List.getElem?_set_ne (Ne.symm n3)]; exact hm
      have g5 : ∀ X Y τ, ((σ.set t X).set id Y ++ τ)[m]? = some (.map (tabM l)) := fun X Y τ => zf (hm' X Y)
      have s3 : ∀ X Y Z τ, ((σ.set t X).set id Y ++ τ).set m Z = ((σ.set t X).set id Y).set m Z ++ τ := fun X Y Z τ => zhc (hm' X Y)
      refine gq3 (zb hb (zb hm (zb hf (zb hlen hd)))) ?_
      refine zmY zej (by rw [zbg]; omega) ?_
      refine gq3 (zb g1 (zb g2 (zb s1 (zb g3 (zb s2 (zb g4 (zb g5 (zb s3 (zb hf hlen))))))))) ?_
      refine ⟨hb.symm, by simp, by omega, ?_⟩
      have e : putTab σ id m t (l ++ [b]) = ((σ.set t (zc.tok 1 (l.length + 1))).set id (zc.box [AV.own t (zmq l ++ [[D.slice (bcs b)]]), AV.map m])).set m (zc.map (tabM l ++ [(AV.d (D.str b), AV.d (D.int IntKind.i64 ((l.length + 1 : Nat) : Int)))])) := by
        simp [putTab, tabM_add, zmq]
        rw [← tabM_add]; simp
      rw [← e]
      exact ends_all (putTab_len ..) (by simp [zgi, dmT, dm, dm1, zcg]) (hT.lows hl _) hK
end Go.Proofs.Ytaocmalhjfakdaa
