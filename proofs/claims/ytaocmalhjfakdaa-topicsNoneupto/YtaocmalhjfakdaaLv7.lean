/- Chapter 7: offsets that the document fixes. -/
import Derived.Test.YtaocmalhjfakdaaTq8
set_option linter.all false
set_option maxRecDepth 100000
set_option linter.unusedSimpArgs false
set_option linter.unusedVariables false
namespace Go.Proofs.Ytaocmalhjfakdaa
open Go.AW

def lo1 : TOp := ⟨1, [116], [], 0, []⟩
def lo2 : TOp := ⟨2, [116], [], 0, [[1], [2]]⟩
def lo3 : TOp := ⟨0, [], [], 0, []⟩
def lT1 : zav := (zaG zcn 0 1 lo1).2.2.2
def lT2 : zav := (zaG lT1 1 1 lo2).2.2.2
def lT3 : zav := (zaG lT2 1 1 lo3).2.2.2
theorem l7_1 : (zaG zcn 0 1 lo1).1 = (0, 0) ∧ (zaG zcn 0 1 lo1).2.2.1 = true := by decide +kernel
theorem l7_2 : (zaG lT1 1 1 lo2).1 = (0, 0) ∧ (zaG lT1 1 1 lo2).2.2.1 = true ∧ (zaG lT1 1 1 lo2).2.1.map (fun p => (p.topic, p.offset, p.rec_)) = [([116], 0, [1]), ([116], 1, [2])] := by decide +kernel
theorem l7_3 : (zaG lT2 1 1 lo3).1 = (0, 0) ∧ (zaG lT2 1 1 lo3).2.2.1 = false := by decide +kernel
theorem l7_4 : getF lT3 [116] 1 = ([2], 0) := by decide +kernel
theorem tops_take {σ S : List zb} {O : Nat → Prop} (h : StO σ S O) (hO : ∀ j, O j → σ.length ≤ j) : S.take σ.length = σ := by
  apply List.ext_getElem?
  intro i
  rw [List.getElem?_take]
  split
  · rename_i hi
    exact h.get i (fun h => by have := hO i h; omega) hi
  · rw [List.getElem?_eq_none (by omega)]
theorem ends_take {σ S : List zb} {K : AV → List zb → Prop} {l : List AV} (h : S.take σ.length = σ) (h1 : Low σ.length (dmT (zdK l))) (hl : zez σ.length σ) (hK : K (dmT (zdK l)) σ) : AW.Ends σ.length K (some l) S := by
  unfold AW.Ends
  rw [h]
  exact ⟨h1, hl, hK⟩
theorem gq25 {A P Q : Prop} (a : A) (h : Q) (e : A → Hd Q → P := by intro a h; (repeat' first | simp -dsimp only [↓zhp, ↓zbg, ↓zcG, ↓zht, ↓zhb, ↓zgZ, ↓zhc, ↓zha, ↓zcM, ↓zcI, ↓zcN, ↓zcJ, ↓zhe, ↓zcD, ↓zcO, ↓zcK, ↓zcP, ↓zcL, ↓zgX, ↓zhn, ↓zcC, ↓zcQ, ↓zgJ, ↓zgI, ↓zgT, iN, bT, bF, eN, ↓zeg, ↓unC, ↓zaj, ↓zQ, ↓zR, ↓zad, ↓zaw, ↓zbd, ↓zdI, ↓zam, ↓zcm, ↓zal, ↓zo, ↓zl, ↓zbR, ↓zh, ↓zag, ↓zL, ↓zaX, ↓zaV, ↓zd, ↓zr, ↓zn, ↓zC, ↓zan, ↓zeb, ↓zej, ↓zaF, ↓zaN, ↓zaK, ↓zby, ↓zbS, ↓zA, ↓zak, ↓zS, ↓zE, ↓zat, zeh, zcf, zcd, unA, zek, bnd, zeV, zab, zT, zeU, dm, dm1, zt, zaL, zfO, zfN, zW, Q0, Q1, Q2, Q3, Q4, Q5, zax, zB, zu, zas, zX, Q6, Q7, Q8, Q9, Q10, Q11, Q12, Q13, Q14, Nat.reduceAdd, Q15, Int.reduceToNat, Q16, Q17, Q18, Q19, Q20, reduceIte, Q21, Q22, zI, rep, zP, zgG, toD, zah, Q23, Q24, Q25, Q26, Q27, Q28, Nat.reduceLeDiff, Q29, Nat.reduceSub, Q30, Q31, Q32, sc, Q33, Q34, Q35, Q36, Q37, Q26, Q38, Q39, n0gt, n1gt, n2gt, n0eq, ziz, n1eq, n2eq, n0ne, n1ne, ziy, ziA, i0ne, i0eq, Bool.not_true, Bool.not_false, List.length_map, beq_self_eq_true, hE, zir, a] | with_reducible refine andA ?_ | fail); exact h.go) : P := e a ⟨h⟩
theorem c_live07 {σ : List zb} {K : AV → List zb → Prop} (hK : K (.d (.bool true)) σ) : zi Try.prog zgQ [] σ K := by
  refine acE0 e_l07_live fun hl => ?_
  simp only [zkc, iN, bT, bF, eN, zl0, zl1]
  refine gq1 ?_
  refine c_tpNew fun hT => ?_
  refine gq1 ?_
  obtain ⟨O0, hO0⟩ : ∃ O0 : Nat → Prop, (fun j => j = σ.length + 1 ∨ j = σ.length) = O0 := ⟨_, rfl⟩
  rw [hO0] at hT
  have n0 : ∀ j, O0 j → σ.length ≤ j := fun j h => by rw [← hO0] at h; omega
  have s0 : StO σ (σ ++ [zb.map [], zb.box (AV.map σ.length :: zbD zcn.last)]) O0 := .app _ _ _
  obtain ⟨S0, hS0⟩ : ∃ S0, σ ++ [zb.map [], zb.box (AV.map σ.length :: zbD zcn.last)] = S0 := ⟨_, rfl⟩
  rw [hS0] at hT s0 ⊢
  refine zgv (c := 0) (tm := 1) (o := lo1) hT .none (by decide) (by decide) (by decide) (by decide) fun S1 hS1 => ?_
  have a1 := l7_1
  have I1 := applyI .none 0 1 lo1
  obtain ⟨R1, hR1⟩ : ∃ R, zaG zcn 0 1 lo1 = R := ⟨_, rfl⟩
  have e1 : lT1 = R1.2.2.2 := by rw [← hR1]; rfl
  rw [hR1] at a1 hS1 I1 ⊢
  obtain ⟨O1, hT1, t1, o1⟩ := hS1
  have n1 : ∀ j, O1 j → σ.length ≤ j := fun j h => (o1 j h).elim (n0 j) fun h => by have := s0.len; omega
  have s1 := s0.trans t1 (fun j h => .inl h)
  rw [a1.1, a1.2]
  refine gq1 ?_
  obtain ⟨U1, hU1⟩ : ∃ U, S1 ++ [zb.box [AV.d (.int .i64 0), AV.d (.int .i64 0)]] = U := ⟨_, rfl⟩
  have gU1 : U1[S1.length]? = some (.box [.d (.int .i64 0), .d (.int .i64 0)]) := by rw [← hU1, zu]; rfl
  have sU1 : StO σ U1 O0 := by
    rw [← hU1]
    exact s1.trans (.app _ _ _) fun j h => .inl h
  have lU1 : U1.length = S1.length + 1 := by rw [← hU1]; simp
  have hT1' : zey U1 (σ.length + 1) lT1 O1 := by rw [← hU1, e1]; exact hT1.app _
  have b1 : ∀ j, O1 j → j < S1.length := fun j h => hT1.own_lt h
  rw [hU1]
  rw [← e1] at I1
  refine zgv (c := 1) (tm := 1) (o := lo2) hT1' I1 (by decide) (by decide) (by decide) (by decide) fun S2 hS2 => ?_
  have a2 := l7_2
  have I2 := applyI I1 1 1 lo2
  have e2 : lT2 = (zaG lT1 1 1 lo2).2.2.2 := rfl
  rw [← e2] at hS2 I2
  obtain ⟨R2, hR2⟩ : ∃ R, zaG lT1 1 1 lo2 = R := ⟨_, rfl⟩
  rw [hR2] at a2 ⊢
  obtain ⟨O2, hT2, t2, o2⟩ := hS2
  have n2 : ∀ j, O2 j → σ.length ≤ j := fun j h => (o2 j h).elim (n1 j) fun h => by have := sU1.len; omega
  have s2 := sU1.trans t2 (fun j h => .inr (n1 j h))
  have g2 : S2[S1.length]? = some (.box [.d (.int .i64 0), .d (.int .i64 0)]) := t2.at_ gU1 fun h => by have := b1 _ h; omega
  obtain ⟨a21, a22, a23⟩ := a2
  obtain ⟨P, hP⟩ : ∃ P, R2.2.1 = P := ⟨_, rfl⟩
  rw [hP] at a23 ⊢
  obtain ⟨p1, p2, rfl⟩ : ∃ p1 p2, P = [p1, p2] := by
    have hl := congrArg List.length a23
    rw [List.length_map] at hl
    match P, hl with
    | [p1, p2], _ => exact ⟨p1, p2, rfl⟩
  rw [a21, a22]
  have hp2 : p2.offset = 1 := by simp at a23; exact a23.2.2.1
  refine gq1 ?_
  obtain ⟨U2, hU2⟩ : ∃ U, S2 ++ [zb.box [AV.d (.int .i64 0), AV.d (.int .i64 0)]] = U := ⟨_, rfl⟩
  have gU2 : U2[S2.length]? = some (.box [.d (.int .i64 0), .d (.int .i64 0)]) := by rw [← hU2, zu]; rfl
  have gU2' : U2[S1.length]? = some (.box [.d (.int .i64 0), .d (.int .i64 0)]) := by rw [← hU2]; exact zf g2
  have sU2 : StO σ U2 O0 := by
    rw [← hU2]
    exact s2.trans (.app _ _ _) fun j h => .inl h
  have lU2 : U2.length = S2.length + 1 := by rw [← hU2]; simp
  have hT2' : zey U2 (σ.length + 1) lT2 O2 := by rw [← hU2]; exact hT2.app _
  have b2 : ∀ j, O2 j → j < S2.length := fun j h => hT2.own_lt h
  have nb : ¬ O2 S1.length := fun h => (o2 _ h).elim (fun h => by have := b1 _ h; omega) fun h => by omega
  rw [hU2]
  refine zgv (c := 1) (tm := 1) (o := lo3) hT2' I2 (by decide) (by decide) (by decide) (by decide) fun S3 hS3 => ?_
  have a3 := l7_3
  have I3 := applyI I2 1 1 lo3
  have e3 : lT3 = (zaG lT2 1 1 lo3).2.2.2 := rfl
  rw [← e3] at hS3 I3
  obtain ⟨R3, hR3⟩ : ∃ R, zaG lT2 1 1 lo3 = R := ⟨_, rfl⟩
  rw [hR3] at a3 ⊢
  obtain ⟨O3, hT3, t3, o3⟩ := hS3
  have s3 := sU2.trans t3 (fun j h => .inr (n2 j h))
  have g3 : S3[S2.length]? = some (.box [.d (.int .i64 0), .d (.int .i64 0)]) := t3.at_ gU2 fun h => by have := b2 _ h; omega
  have g3' : S3[S1.length]? = some (.box [.d (.int .i64 0), .d (.int .i64 0)]) := t3.at_ gU2' nb
  rw [a3.1, a3.2]
  refine gq1 ?_
  refine c_tpGet (n := [116]) (o := 1) (hT3.app _) I3 ?_
  rw [l7_4]
  have f1 : ∀ τ, (S3 ++ τ)[S1.length]? = _ := fun τ => zf g3'
  have f2 : ∀ τ, (S3 ++ τ)[S2.length]? = _ := fun τ => zf g3
  have f3 : ∀ τ a, (S3 ++ a :: τ)[S3.length]? = some a := fun τ a => zu ..
  have hE : zbi [AV.d (.int .i64 0), AV.d (.int .i64 0)] [AV.d (.int .i64 0), AV.d (.int .i64 0)] = some true := rfl
  refine gq25 (zk f1 (zk f2 (zk f3 hp2))) ?_
  refine zdz (a := [2]) (b := [2]) ?_
  rw [show (([2] : List UInt8) == [2]) = true from rfl]
  refine gq1 ?_
  have n3 : ∀ j, O3 j → σ.length ≤ j := fun j h => (o3 j h).elim (fun h => (o2 j h).elim (n1 j) fun h => by have := sU1.len; omega) fun h => by have := sU2.len; omega
  have s4 : StO σ (S3 ++ [.box [.d (.int .i64 0), .d (.int .i64 0)]]) O0 := s3.trans (.app _ _ _) fun j h => .inl h
  exact ends_take (tops_take s4 n0) (by simp [zju, dmT, dm, dm1, zdK]) hl hK
end Go.Proofs.Ytaocmalhjfakdaa
