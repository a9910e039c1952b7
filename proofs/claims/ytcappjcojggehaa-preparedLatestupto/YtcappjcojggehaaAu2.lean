/- Contracts: votes, the program's. -/
import Derived.Test.YtcappjcojggehaaAu1
set_option linter.all false
set_option maxRecDepth 100000
set_option linter.unusedSimpArgs false
set_option linter.unusedVariables false
namespace Go.Proofs.Ytcappjcojggehaa
open Go.AW

theorem may_all {a b c d : Int} (h : mayV a b c d = true) : ∀ x ∈ [a, b, c, d], 0 ≤ x ∧ x ≤ 9007199254740992 := by
  rw [mayV_all, List.all_eq_true] at h
  exact fun x hx => zkC.1 (h x hx)
theorem znj {σ : List AObj} {a b c d : Int} (h : mayV a b c d = true) {K : AV → List AObj → Prop} (hK : K (.d (.slice (bcs (voteB a b c d)))) σ) :
    ACall Try.prog zcW [.d (.int .i64 a), .d (.int .i64 b), .d (.int .i64 c), .d (.int .i64 d)] σ K := by
  refine zu zhW rfl fun hl _ => zjW ?_
  simp only [zfq]
  (repeat' (first | (refine gq1 ?_; try with_reducible exact True.intro) | ((with_reducible refine And.intro ?_ ?_); focus (first | omega | rfl | decide | (simp; done)))))
  refine c_auPut (b := [4]) (l := [a, b, c, d]) (by simp) (by simp) (may_all h) ?_
  (repeat' (first | (refine gq1 ?_; try with_reducible exact True.intro) | ((with_reducible refine And.intro ?_ ?_); focus (first | omega | rfl | decide | (simp; done)))))
  (first | refine zg (by simp [Low_d, dmT, dm, dm1, pack, zc, zd, zb]) hl ?_ | refine ze (by simp [Low_d, dmT, dm, dm1, pack, zc, zd, zb]) hl ?_)
  exact hK
theorem c_auMade {σ : List AObj} {id m t id2 m2 t2 : Nat} {l : List (List UInt8)} {g : List TSign} (hT : TabAt σ id m t l) (hG : LedAt σ id2 m2 t2 g) (hL : TabI l) (hg : g.length ≤ 1073741824) {K : AV → List AObj → Prop}
    (hK : K (.d (.bool true)) σ) : ACall Try.prog zhh [.box id 0, .box id2 0] σ K := by
  refine zu zmY rfl fun hl _ => s_auth_made ?_
  simp only [zlk]
  (repeat' (first | (refine gq1 ?_; try with_reducible exact True.intro) | ((with_reducible refine And.intro ?_ ?_); focus (first | omega | rfl | decide | (simp; done)))))
  refine c_tClone hT hL.nd hL.len hL.each ?_
  (repeat' (first | (refine gq1 ?_; try with_reducible exact True.intro) | ((with_reducible refine And.intro ?_ ?_); focus (first | omega | rfl | decide | (simp; done)))))
  refine c_gClone (hG.app _) hg fun g' => ?_
  (repeat' (first | (refine gq1 ?_; try with_reducible exact True.intro) | ((with_reducible refine And.intro ?_ ?_); focus (first | omega | rfl | decide | (simp; done)))))
  (first | refine zg (by simp [Low_d, dmT, dm, dm1, pack, zc, zd, zb]) hl ?_ | refine ze (by simp [Low_d, dmT, dm, dm1, pack, zc, zd, zb]) hl ?_)
  exact hK
theorem gq55 {A P Q : Prop} (a : A) (h : Q) (e : A → P = Q := by intro a; simp -dsimp only [↓zad, ↓loopL, ↓binC, ↓unC, ↓zK, ↓zB, ↓zC, ↓zD, ↓zM, ↓lenC, ↓slcC, ↓convC, ↓boxC, ↓zF, ↓loadC, ↓zo, ↓nilC, ↓zh, ↓zS, ↓zy, ↓idxSC, ↓idxAC, ↓zi, ↓zE, ↓zl, ↓zt, ↓zW, ↓maxC, ↓minC, ↓zY, ↓zac, ↓mgetC, ↓msetC, ↓mdelC, ↓zn, ↓zU, ↓zA, ↓zp, ↓zL, binA, intOp, strOp, unA, esOf, bnd, intV, zQ, fillV, srcE, dm, dm1, consO, cellA, maxL, minL, keepO, Q0, Q1, Q2, Q3, Q4, Q5, zJ, zm, zq, zw, zx, Q6, Q7, Q8, Q9, Q10, Q11, Q12, Q13, Q14, Nat.reduceAdd, Q15, Int.reduceToNat, Q16, Q17, Q18, Q19, Q20, reduceIte, Q21, Q22, zr, rep, zN, toDs, toD, zX, Q23, Q24, Q25, Q26, Q27, Q28, Nat.reduceLeDiff, Q29, Nat.reduceSub, Q30, Q31, Q32, sc, Q33, Q34, Q35, Q36, Q37, Q26, Q38, Q39, n0gt, n1gt, n2gt, n0eq, n1eq0, n1eq, n2eq, n0ne, n1ne, n1ne0, n0ne1, i0ne, i0eq, Bool.not_true, Bool.not_false, List.length_map, Bool.false_and, Option.isSome_some, zaZ, a]; rfl) : P := (e a).mpr h
theorem gq56 {A P Q : Prop} (a : A) (h : Q) (e : A → P = Q := by intro a; simp -dsimp only [↓zad, ↓loopL, ↓binC, ↓unC, ↓zK, ↓zB, ↓zC, ↓zD, ↓zM, ↓lenC, ↓slcC, ↓convC, ↓boxC, ↓zF, ↓loadC, ↓zo, ↓nilC, ↓zh, ↓zS, ↓zy, ↓idxSC, ↓idxAC, ↓zi, ↓zE, ↓zl, ↓zt, ↓zW, ↓maxC, ↓minC, ↓zY, ↓zac, ↓mgetC, ↓msetC, ↓mdelC, ↓zn, ↓zU, ↓zA, ↓zp, ↓zL, binA, intOp, strOp, unA, esOf, bnd, intV, zQ, fillV, srcE, dm, dm1, consO, cellA, maxL, minL, keepO, Q0, Q1, Q2, Q3, Q4, Q5, zJ, zm, zq, zw, zx, Q6, Q7, Q8, Q9, Q10, Q11, Q12, Q13, Q14, Nat.reduceAdd, Q15, Int.reduceToNat, Q16, Q17, Q18, Q19, Q20, reduceIte, Q21, Q22, zr, rep, zN, toDs, toD, zX, Q23, Q24, Q25, Q26, Q27, Q28, Nat.reduceLeDiff, Q29, Nat.reduceSub, Q30, Q31, Q32, sc, Q33, Q34, Q35, Q36, Q37, Q26, Q38, Q39, n0gt, n1gt, n2gt, n0eq, n1eq0, n1eq, n2eq, n0ne, n1ne, n1ne0, n0ne1, i0ne, i0eq, Bool.not_true, Bool.not_false, List.length_map, Bool.false_and, Bool.true_and, Option.isSome_some, zaZ, a]; rfl) : P := (e a).mpr h
theorem gq57 {A P Q : Prop} (a : A) (h : Q) (e : A → P = Q := by intro a; simp -dsimp only [↓zad, ↓loopL, ↓binC, ↓unC, ↓zK, ↓zB, ↓zC, ↓zD, ↓zM, ↓lenC, ↓slcC, ↓convC, ↓boxC, ↓zF, ↓loadC, ↓zo, ↓nilC, ↓zh, ↓zS, ↓zy, ↓idxSC, ↓idxAC, ↓zi, ↓zE, ↓zl, ↓zt, ↓zW, ↓maxC, ↓minC, ↓zY, ↓zac, ↓mgetC, ↓msetC, ↓mdelC, ↓zn, ↓zU, ↓zA, ↓zp, ↓zL, binA, intOp, strOp, unA, esOf, bnd, intV, zQ, fillV, srcE, dm, dm1, consO, cellA, maxL, minL, keepO, Q0, Q1, Q2, Q3, Q4, Q5, zJ, zm, zq, zw, zx, Q6, Q7, Q8, Q9, Q10, Q11, Q12, Q13, Q14, Nat.reduceAdd, Q15, Int.reduceToNat, Q16, Q17, Q18, Q19, Q20, reduceIte, Q21, Q22, zr, rep, zN, toDs, toD, zX, Q23, Q24, Q25, Q26, Q27, Q28, Nat.reduceLeDiff, Q29, Nat.reduceSub, Q30, Q31, Q32, sc, Q33, Q34, Q35, Q36, Q37, Q26, Q38, Q39, n0gt, n1gt, n2gt, n0eq, n1eq0, n1eq, n2eq, n0ne, n1ne, n1ne0, n0ne1, i0ne, i0eq, Bool.not_true, Bool.not_false, List.length_map, Bool.and_self, Option.isSome_some, zaZ, a]; rfl) : P := (e a).mpr h
theorem c_auSigned {σ : List AObj} {id m t id2 m2 t2 : Nat} {L : List (List UInt8)} {G : List TSign} {s : TSign} {key : Int} {b : List UInt8} (hT : TabAt σ id m t L) (hG : LedAt σ id2 m2 t2 G) {K : AV → List AObj → Prop}
    (hK : K (.d (.bool (zgV L G s key b))) σ) : ACall Try.prog zeS [.box id 0, .box id2 0, .agg [.d (.int .i64 s.key), .d (.int .i64 s.dig)], .d (.int .i64 key), .d (.slice (bcs b))] σ K := by
  refine zu zkP rfl fun hl _ => zmD ?_
  have hT1 := fun τ => hT.app τ
  have hG1 := fun τ => hG.app τ
  simp only [zir]
  (repeat' (first | (refine gq1 ?_; try with_reducible exact True.intro) | ((with_reducible refine And.intro ?_ ?_); focus (first | omega | rfl | decide | (simp; done)))))
  refine znc (hT1 _) ?_
  have fin : ∀ z, zgV L G s key b = z → K (.d (.bool z)) σ := fun z h => h ▸ hK
  clear hK
  cases hlk : lookF L b with
  | none =>
    (repeat' (first | (refine gq7 ?_; try with_reducible exact True.intro) | ((with_reducible refine And.intro ?_ ?_); focus (first | omega | rfl | decide | (simp; done)))))
    (first | refine zg (by simp [Low_d, dmT, dm, dm1, pack, zc, zd, zb]) hl ?_ | refine ze (by simp [Low_d, dmT, dm, dm1, pack, zc, zd, zb]) hl ?_)
    exact fin _ (by simp [zgV, hlk])
  | some i =>
    simp only [numOf]
    cases h1 : (s.key == key)
    · (repeat' (first | (refine gq55 h1 ?_; try with_reducible exact True.intro) | ((with_reducible refine And.intro ?_ ?_); focus (first | omega | rfl | decide | (simp; done)))))
      (first | refine zg (by simp [Low_d, dmT, dm, dm1, pack, zc, zd, zb]) hl ?_ | refine ze (by simp [Low_d, dmT, dm, dm1, pack, zc, zd, zb]) hl ?_)
      exact fin _ (by simp at h1; simp [zgV, hlk, h1])
    · cases h2 : (s.dig == ((i + 1 : Nat) : Int))
      · (repeat' (first | (refine gq56 (gqc0 h1 h2) ?_; try with_reducible exact True.intro) | ((with_reducible refine And.intro ?_ ?_); focus (first | omega | rfl | decide | (simp; done)))))
        (first | refine zg (by simp [Low_d, dmT, dm, dm1, pack, zc, zd, zb]) hl ?_ | refine ze (by simp [Low_d, dmT, dm, dm1, pack, zc, zd, zb]) hl ?_)
        exact fin _ (by simp at h1 h2; simp [zgV, hlk, h1]; omega)
      · (repeat' (first | (refine gq57 (gqc0 h1 h2) ?_; try with_reducible exact True.intro) | ((with_reducible refine And.intro ?_ ?_); focus (first | omega | rfl | decide | (simp; done)))))
        refine c_gSigned (s := s) (hG1 _) ?_
        (repeat' (first | (refine gq1 ?_; try with_reducible exact True.intro) | ((with_reducible refine And.intro ?_ ?_); focus (first | omega | rfl | decide | (simp; done)))))
        (first | refine zg (by simp [Low_d, dmT, dm, dm1, pack, zc, zd, zb]) hl ?_ | refine ze (by simp [Low_d, dmT, dm, dm1, pack, zc, zd, zb]) hl ?_)
        exact fin _ (by simp at h1 h2; simp [zgV, hlk, h1, h2])
theorem zie {σ : List AObj} {id m t id2 m2 t2 : Nat} {L : List (List UInt8)} {G : List TSign} {s : TSign} {key a b c d : Int} (hT : TabAt σ id m t L) (hG : LedAt σ id2 m2 t2 G) (hL : TabI L) (hg : G.length ≤ 1073741824) {K : AV → List AObj → Prop}
    (hK : K (.d (.bool (zjo L G s key a b c d))) σ) :
    ACall Try.prog zbZ [.box id 0, .box id2 0, .agg [.d (.int .i64 s.key), .d (.int .i64 s.dig)], .d (.int .i64 key), .d (.int .i64 a), .d (.int .i64 b), .d (.int .i64 c), .d (.int .i64 d)] σ K := by
  refine zu zhX rfl fun hl _ => zjX ?_
  simp only [zfr]
  (repeat' (first | (refine gq1 ?_; try with_reducible exact True.intro) | ((with_reducible refine And.intro ?_ ?_); focus (first | omega | rfl | decide | (simp; done)))))
  refine c_auMade (hT.app _) (hG.app _) hL hg ?_
  (repeat' (first | (refine gq1 ?_; try with_reducible exact True.intro) | ((with_reducible refine And.intro ?_ ?_); focus (first | omega | rfl | decide | (simp; done)))))
  refine c_auMay ?_
  cases hm : mayV a b c d
  · rw [zjo, hm, Bool.false_and] at hK
    (repeat' (first | (refine gq1 ?_; try with_reducible exact True.intro) | ((with_reducible refine And.intro ?_ ?_); focus (first | omega | rfl | decide | (simp; done)))))
    (first | refine zg (by simp [Low_d, dmT, dm, dm1, pack, zc, zd, zb]) hl ?_ | refine ze (by simp [Low_d, dmT, dm, dm1, pack, zc, zd, zb]) hl ?_)
    exact hK
  · rw [zjo, hm, Bool.true_and] at hK
    (repeat' (first | (refine gq1 ?_; try with_reducible exact True.intro) | ((with_reducible refine And.intro ?_ ?_); focus (first | omega | rfl | decide | (simp; done)))))
    refine znj hm ?_
    (repeat' (first | (refine gq1 ?_; try with_reducible exact True.intro) | ((with_reducible refine And.intro ?_ ?_); focus (first | omega | rfl | decide | (simp; done)))))
    refine c_auSigned (s := s) (hT.app _) (hG.app _) ?_
    (repeat' (first | (refine gq1 ?_; try with_reducible exact True.intro) | ((with_reducible refine And.intro ?_ ?_); focus (first | omega | rfl | decide | (simp; done)))))
    (first | refine zg (by simp [Low_d, dmT, dm, dm1, pack, zc, zd, zb]) hl ?_ | refine ze (by simp [Low_d, dmT, dm, dm1, pack, zc, zd, zb]) hl ?_)
    exact hK
end Go.Proofs.Ytcappjcojggehaa
