/- Contracts: all that is kept, as a list. -/
import Derived.Test.YtjjchfbckfopkaaGreatHe1
set_option linter.all false
set_option maxRecDepth 100000
set_option linter.unusedSimpArgs false
set_option linter.unusedVariables false
namespace Go.Proofs.YtjjchfbckfopkaaGreat
open Go.AW

theorem zoy {σ S : List zb} {K : AV → List zb → Prop} {l : List AV} (h : S.take σ.length = σ) (h1 : Low σ.length (dmT (zcf l))) (hl : zdP σ.length σ) (hK : K (dmT (zcf l)) σ) : AW.Ends σ.length K (some l) S := by
  unfold AW.Ends
  rw [h]
  exact ⟨h1, hl, hK⟩
theorem al_weak {σ : List zb} (vs : List AV) : zjj vs (σ ++ [zb.box [AV.exact []]]) vs (σ ++ [zb.box [.own (σ.length + 1) []], .tok 7 0]) := by
  refine .tokB σ.length 0 _ [] 7 (by rw [zm]; rfl) rfl (by simp) ?_
  rw [zA, zS]
  simp only [List.set_cons_succ, List.set_cons_zero, List.length_cons, List.length_nil, List.append_assoc, List.cons_append, List.nil_append]
  exact .refl _ _
structure AlJ (B : List zb) (n : Nat) (R : List zar) (i : Nat) (s : List zb) : Prop where
  len : B.length + 1 < s.length
  out : ∀ j, j < B.length → j ≠ n → j ≠ n + 1 → s[j]? = B[j]?
  a : s[n]? = some (.box [.own (n + 1) (zcL (R.take i))])
  ta : s[n + 1]? = some (.tok 7 i)
section

variable {σ : List zb} {h m : Nat} {l : List (Int × zar)} {R : List zar} {K : AV → List zb → Prop}

theorem gq44 {A P Q : Prop} (a : A) (h : Q) (e : A → Hd Q → P := by intro a h; (repeat' first | simp -dsimp only [↓zex, ↓zav, ↓zbj, ↓zey, ↓zer, ↓zep, ↓zes, ↓zeq, ↓zbo, ↓zbk, ↓zbp, ↓zbl, ↓zet, ↓zbh, ↓zbq, ↓zbm, ↓zbr, ↓zbn, ↓zem, ↓zew, ↓zbg, ↓zbt, ↓zeh, ↓zeg, ↓zel, iN, bT, bF, eN, ↓zcm, ↓unC, ↓zU, ↓zE, ↓zF, ↓zK, ↓zab, ↓zaA, ↓zct, ↓zY, ↓zbd, ↓zX, ↓zj, ↓zq, ↓zbI, ↓zf, ↓zac, ↓zJ, ↓zaB, ↓zaK, ↓zd, ↓zD, ↓zn, ↓zr, ↓zal, ↓zcE, ↓zcM, ↓zak, ↓zas, ↓zaG, ↓zaM, ↓zaS, ↓zl, ↓zae, ↓zG, ↓zo, ↓zZ, zcK, zbc, zba, unA, zcS, bnd, zdq, zaa, zai, zdr, dm, dm1, zP, zaC, zdL, zdK, zT, Q0, Q1, Q2, Q3, Q4, Q5, zS, zh, zm, zw, zA, Q6, Q7, Q8, Q9, Q10, Q11, Q12, Q13, Q14, Nat.reduceAdd, Q15, Int.reduceToNat, Q16, Q17, Q18, Q19, Q20, reduceIte, Q21, Q22, zx, rep, zV, zei, toD, zaf, Q23, Q24, Q25, Q26, Q27, Q28, Nat.reduceLeDiff, Q29, Nat.reduceSub, Q30, Q31, Q32, sc, Q33, Q34, Q35, Q36, Q37, Q26, Q38, Q39, zlI, zlF, zlC, zlJ, zeI, zlG, zlD, zlH, zlE, zeH, zeJ, zlL, zlM, Bool.not_true, Bool.not_false, List.length_map, zaO, zfd, a] | with_reducible refine zlY ?_ | fail); exact h.go) : P := e a ⟨h⟩
theorem c_all (hH : zhe σ h m l) (hR : RelP l R) (hn : R.length ≤ 1000000) (hK : K (.d (.slice (zcL R))) σ) : zp Tryz.prog zmG [.box h 0] σ K := by
  refine zil e_l15_all fun hl => ?_
  simp only [S_l15_all, iN, bT, bF, eN, zl0]
  have lh := zco hH.box; have lm := zco hH.map
  refine gq1 ?_
  refine zp.pre (al_weak _) ?_
  refine c_heAll ?_
  obtain ⟨B0, hB0⟩ : ∃ B0, σ ++ [zb.box [.own (σ.length + 1) []], .tok 7 0] = B0 := ⟨_, rfl⟩
  have l0 : B0.length = σ.length + 2 := by rw [← hB0]; simp
  have g0 : B0[σ.length]? = some (.box [.own (σ.length + 1) []]) := by rw [← hB0, zm]; rfl
  have g1 : B0[σ.length + 1]? = some (.tok 7 0) := by rw [← hB0, zh]; rfl
  have go : ∀ j, j < σ.length → B0[j]? = σ[j]? := fun j hj => by rw [← hB0]; exact List.getElem?_append_left hj
  rw [hB0]
  obtain ⟨B, hB⟩ : ∃ B, B0 ++ [zb.box [.box h 0]] = B := ⟨_, rfl⟩
  have lB : B.length = σ.length + 3 := by rw [← hB]; simp; omega
  have hBo : ∀ j, j < B0.length → B[j]? = B0[j]? := fun j hj => by rw [← hB]; exact List.getElem?_append_left hj
  have b1 : B[B0.length]? = some (.box [.box h 0]) := by rw [← hB, zm]; rfl
  refine gq1 ?_
  rw [hB]
  simp only [zkk]
  intro yl r vs
  have hJ0 : AlJ B σ.length R 0 (B ++ [zb.dead, .lrec yl r vs]) := ⟨by simp, fun j hj _ _ => List.getElem?_append_left hj, zk ((hBo _ (by omega)).trans g0), zk ((hBo _ (by omega)).trans g1)⟩
  have hJp : ∀ i s, AlJ B σ.length R i s → zhe s h m l ∧ s[B0.length]? = some (.box [.box h 0]) := fun i s hJ =>
    ⟨⟨((hJ.out h (by omega) (by omega) (by omega)).trans (hBo h (by omega))).trans ((go h lh).trans hH.box), ((hJ.out m (by omega) (by omega) (by omega)).trans (hBo m (by omega))).trans ((go m lm).trans hH.map)⟩, (hJ.out _ (by omega) (by omega) (by omega)).trans b1⟩
  refine ⟨Nat, fun i s => s[B.length + 1]? = some (.lrec yl r vs) ∧ AlJ B σ.length R i s, 0, PNx R, PFin R, ?_, ⟨?_, hJ0⟩, fun i s h => h.1, ?_, ?_, ?_⟩
  · rintro i x i' ⟨p, _, rfl, _⟩; rfl
  · rw [List.getElem?_append_right (by omega)]; simp
  · intro hY
    refine c_heRun hR hn _ (fun i s τ h => ⟨zk h.1, ⟨by have := h.2.len; simp; omega, fun j hj x1 x2 => (List.getElem?_append_left (by have := h.2.len; omega)).trans (h.2.out j hj x1 x2), zk h.2.a, zk h.2.ta⟩⟩) (fun i s h => hJp i s h.2) hY ⟨by rw [List.getElem?_append_right (by omega)]; simp, hJ0⟩
  · rintro i x i' s ⟨p, hp, rfl, rfl⟩ ⟨j1, hJ⟩
    have hil := zc hp
    have jl := zco j1
    obtain ⟨RB, hRB⟩ : ∃ RB, zb.lrec yl { r with state := .busy } vs = RB := ⟨_, rfl⟩
    obtain ⟨Q, hQ⟩ : ∃ Q, zb.lrec yl r vs = Q := ⟨_, rfl⟩
    rw [hQ] at j1 ⊢
    rw [hRB]
    have hlS := hJ.len
    have fj : ∀ τ, (s ++ τ)[B.length + 1]? = some Q := fun τ => zk j1
    obtain ⟨S, hS⟩ : ∃ S, (s ++ [zb.box [.d (.int .i64 p.view), .d (.int .i64 p.seq), .d (.int .i64 p.dig), .d (.int .i64 p.fkey), .d (.int .i64 p.fdig), .d (.slice (zax p.signs)), .d (.slice (zaE p.batch))]]).set (B.length + 1) RB = S := ⟨_, rfl⟩
    have hSl : S.length = s.length + 1 := by rw [← hS]; simp
    have h1 : ∀ j, j ≠ B.length + 1 → j < s.length → S[j]? = s[j]? := fun j hj hl => by rw [← hS, List.getElem?_set_ne (Ne.symm hj), List.getElem?_append_left hl]
    have f0 : S[σ.length]? = some (.box [.own (σ.length + 1) (zcL (R.take i))]) := (h1 _ (by omega) (by omega)).trans hJ.a
    have f1 : S[σ.length + 1]? = some (.tok 7 i) := (h1 _ (by omega) (by omega)).trans hJ.ta
    have f2 : S[s.length]? = some (.box [.d (.int .i64 p.view), .d (.int .i64 p.seq), .d (.int .i64 p.dig), .d (.int .i64 p.fkey), .d (.int .i64 p.fdig), .d (.slice (zax p.signs)), .d (.slice (zaE p.batch))]) := by
      rw [← hS, List.getElem?_set_ne (by omega), zm]; rfl
    have f3 : S[B.length + 1]? = some RB := by rw [← hS]; exact List.getElem?_set_self (by simp; omega)
    have f4 : ∀ Y, (S.set (σ.length + 1) Y)[σ.length]? = some (.box [.own (σ.length + 1) (zcL (R.take i))]) := fun Y => (List.getElem?_set_ne (by omega)).trans f0
    have f5 : ∀ Y Z, ((S.set (σ.length + 1) Y).set σ.length Z)[B.length + 1]? = some RB := fun Y Z => (List.getElem?_set_ne (by omega)).trans ((List.getElem?_set_ne (by omega)).trans f3)
    have k1 : (zcL (R.take i)).length = i := by rw [List.length_map, List.length_take]; omega
    refine gq44 (zi fj (zi hS (zi f0 (zi f1 (zi f2 (zi f4 (zi f5 k1))))))) ?_
    have e2 : zcL (R.take (i + 1)) = zcL (R.take i) ++ [zeU p] := by rw [List.take_add_one, hp]; simp
    refine ⟨List.getElem?_set_self (by simp; omega), ⟨by simp; omega, fun j hj x0 x1 => ?_, ?_, ?_⟩⟩
    · rw [List.getElem?_set_ne (by omega), List.getElem?_set_ne (Ne.symm x0), List.getElem?_set_ne (Ne.symm x1), h1 j (by omega) (by omega)]
      exact hJ.out j hj x0 x1
    · rw [List.getElem?_set_ne (by omega), List.getElem?_set_self (by simp; omega), e2]; rfl
    · rw [List.getElem?_set_ne (by omega), List.getElem?_set_ne (by omega), List.getElem?_set_self (by omega)]
  · rintro i s hi ⟨j1, hJ⟩
    rw [PFin] at hi
    subst hi
    have h1 : ∀ R j, j ≠ B.length + 1 → (s.set (B.length + 1) R)[j]? = s[j]? := fun R j hj => List.getElem?_set_ne (Ne.symm hj)
    have g0 : ∀ R, (s.set (B.length + 1) R)[σ.length]? = _ := fun R => (h1 R _ (by omega)).trans hJ.a
    rw [List.take_length] at g0
    have hpre : ∀ R, (s.set (B.length + 1) R).take σ.length = σ := fun R => by
      apply List.ext_getElem?
      intro j
      rw [List.getElem?_take]
      split
      · rename_i hj
        exact ((h1 R j (by omega)).trans (hJ.out j (by omega) (by omega) (by omega))).trans ((hBo j (by omega)).trans (go j hj))
      · rw [List.getElem?_eq_none (by omega)]
    refine gq2 g0 ?_
    exact zoy (hpre _) (by simp [zfT, zdJ, dmT, dm, dm1, zcf]) hl hK
end

end Go.Proofs.YtjjchfbckfopkaaGreat
