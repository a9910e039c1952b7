/- The law PreparedNone, from the contracts. -/
import Derived.Test.YtjjchfbckfopkaaGreatNo2
import Derived.Test.YtjjchfbckfopkaaGreatBg3
import Derived.Test.YtjjchfbckfopkaaGreatId3
import Derived.Test.YtjjchfbckfopkaaGreatId5
set_option linter.all false
set_option maxRecDepth 100000
set_option linter.unusedSimpArgs false
set_option linter.unusedVariables false
namespace Go.Proofs.YtjjchfbckfopkaaGreat
open Go.AW

theorem c_tNoneNil {σ : List zb} {K : AV → List zb → Prop} (hK : K (.d (.bool true)) σ) : zn Tryz.prog zbr [.d .nilp] σ K := by
  refine zfz zfq fun hl => ?_
  simp only [zdB, iN, bT, bF, eN]
  refine gq1 ?_
  refine zam hl ?_
  exact hK
theorem c_tCloneNil {σ : List zb} {K : AV → List zb → Prop} (hK : K (.d .nilp) σ) : zn Tryz.prog zbB [.d .nilp] σ K := by
  refine zfz zdc fun hl => ?_
  simp only [zde, iN, bT, bF, eN]
  refine gq1 ?_
  refine c_tNoneNil ?_
  refine gq1 ?_
  refine zam hl ?_
  exact hK
theorem c_gNoneNil {σ : List zb} {K : AV → List zb → Prop} (hK : K (.d (.bool true)) σ) : zn Tryz.prog zaY [.d .nilp] σ K := by
  refine zfz zeY fun hl => ?_
  simp only [zdf, iN, bT, bF, eN]
  refine gq1 ?_
  refine zam hl ?_
  exact hK
theorem c_gCloneNil {σ : List zb} {K : AV → List zb → Prop} (hK : K (.d .nilp) σ) : zn Tryz.prog zbv [.d .nilp] σ K := by
  refine zfz zcM fun hl => ?_
  simp only [zcN, iN, bT, bF, eN]
  refine gq1 ?_
  refine c_gNoneNil ?_
  refine gq1 ?_
  refine zam hl ?_
  exact hK
section

variable {σ : List zb} {K : AV → List zb → Prop}

theorem c_valNilT {p : zav} {f : Int} {id : Nat} (hK : K (.d (.bool false)) σ) : zn Tryz.prog zaR [.d .nilp, .box id 0, .d (.int .i64 f), zfw p] σ K := by
  refine acE4 zez fun hl => ?_
  simp only [zcX, iN, bT, bF, eN, zfw]
  refine gq1 ?_
  refine c_tCloneNil ?_
  refine gq1 ?_
  refine zam hl ?_
  exact hK
theorem c_valNilG {p : zav} {f : Int} {id m t : Nat} (hT : zcF σ id m t []) (hK : K (.d (.bool false)) σ) : zn Tryz.prog zaR [.box id 0, .d .nilp, .d (.int .i64 f), zfw p] σ K := by
  refine acE4 zez fun hl => ?_
  simp only [zcX, iN, bT, bF, eN, zfw]
  refine gq1 ?_
  refine zoD (hT.app _) .nil (by simp) (by simp) ?_
  refine gq1 ?_
  refine c_gCloneNil ?_
  refine gq1 ?_
  refine zam hl ?_
  exact hK
end

def zfG : List (Bool × List Ty) := [(true, tyPrep), (false, [.int .i64])]
theorem gq50 {A P Q : Prop} (a : A) (h : Q) (e : A → Hd Q → P := by intro a h; (repeat' first | simp -dsimp only [↓zem, ↓zas, ↓zbe, ↓zen, ↓zeg, ↓zee, ↓zeh, ↓zef, ↓zbj, ↓zbf, ↓zbk, ↓zbg, ↓zei, ↓zbd, ↓zbl, ↓zbh, ↓zbm, ↓zbi, ↓zec, ↓zel, ↓zbc, ↓zbo, ↓zdY, ↓zdX, ↓zeb, iN, bT, bF, eN, ↓zcx, ↓unC, ↓zU, ↓zE, ↓zF, ↓zI, ↓zaa, ↓zaE, ↓zco, ↓zZ, ↓zbw, ↓zQ, ↓zl, ↓zm, ↓zbF, ↓zf, ↓zab, ↓zK, ↓zay, ↓zaD, ↓zc, ↓zy, ↓zi, ↓zr, ↓zai, ↓zcz, ↓zcG, ↓zal, ↓zap, ↓zax, ↓zaG, ↓zaN, ↓zj, ↓zad, ↓zG, ↓zq, ↓zX, zcE, zaZ, zaW, unA, zcH, bnd, zdj, zY, zac, zdk, dm, dm1, zJ, zar, zdD, zdC, zT, Q0, Q1, Q2, Q3, Q4, Q5, zS, zg, zp, zu, zC, Q6, Q7, Q8, Q9, Q10, Q11, Q12, Q13, Q14, Nat.reduceAdd, Q15, Int.reduceToNat, Q16, Q17, Q18, Q19, Q20, reduceIte, Q21, Q22, zA, rep, zV, zdZ, toD, zaj, Q23, Q24, Q25, Q26, Q27, Q28, Nat.reduceLeDiff, Q29, Nat.reduceSub, Q30, Q31, Q32, sc, Q33, Q34, Q35, Q36, Q37, Q26, Q38, Q39, zjL, zjI, zjF, zjM, zdO, zjJ, zjG, zjK, zjH, zdN, zdP, zjT, zjU, Bool.not_true, Bool.not_false, List.length_map, Int.toNat_natCast, Nat.mul_one, Nat.zero_add, a] | with_reducible refine zkm ?_ | fail); exact h.go) : P := e a ⟨h⟩
theorem gq51 {A P Q : Prop} (a : A) (h : Q) (e : A → Hd Q → P := by intro a h; (repeat' first | simp -dsimp only [↓zem, ↓zas, ↓zbe, ↓zen, ↓zeg, ↓zee, ↓zeh, ↓zef, ↓zbj, ↓zbf, ↓zbk, ↓zbg, ↓zei, ↓zbd, ↓zbl, ↓zbh, ↓zbm, ↓zbi, ↓zec, ↓zel, ↓zbc, ↓zbo, ↓zdY, ↓zdX, ↓zeb, iN, bT, bF, eN, ↓zcx, ↓unC, ↓zU, ↓zE, ↓zF, ↓zI, ↓zaa, ↓zaE, ↓zco, ↓zZ, ↓zbw, ↓zQ, ↓zl, ↓zm, ↓zbF, ↓zf, ↓zab, ↓zK, ↓zay, ↓zaD, ↓zc, ↓zy, ↓zi, ↓zr, ↓zai, ↓zcz, ↓zcG, ↓zal, ↓zap, ↓zax, ↓zaG, ↓zaN, ↓zj, ↓zad, ↓zG, ↓zq, ↓zX, zcE, zaZ, zaW, unA, zcH, bnd, zdj, zY, zac, zdk, dm, dm1, zJ, zar, zdD, zdC, zT, Q0, Q1, Q2, Q3, Q4, Q5, zS, zg, zp, zu, zC, Q6, Q7, Q8, Q9, Q10, Q11, Q12, Q13, Q14, Nat.reduceAdd, Q15, Int.reduceToNat, Q16, Q17, Q18, Q19, Q20, reduceIte, Q21, Q22, zA, rep, zV, zdZ, toD, zaj, Q23, Q24, Q25, Q26, Q27, Q28, Nat.reduceLeDiff, Q29, Nat.reduceSub, Q30, Q31, Q32, sc, Q33, Q34, Q35, Q36, Q37, Q26, Q38, Q39, zjL, zjI, zjF, zjM, zdO, zjJ, zjG, zjK, zjH, zdN, zdP, zjT, zjU, Bool.not_true, Bool.not_false, List.length_map, Bool.false_eq_true, bne_self_eq_false, a] | with_reducible refine zkm ?_ | fail); exact h.go) : P := e a ⟨h⟩
theorem gq52 {A P Q : Prop} (a : A) (h : Q) (e : A → Hd Q → P := by intro a h; (repeat' first | simp -dsimp only [↓zem, ↓zas, ↓zbe, ↓zen, ↓zeg, ↓zee, ↓zeh, ↓zef, ↓zbj, ↓zbf, ↓zbk, ↓zbg, ↓zei, ↓zbd, ↓zbl, ↓zbh, ↓zbm, ↓zbi, ↓zec, ↓zel, ↓zbc, ↓zbo, ↓zdY, ↓zdX, ↓zeb, iN, bT, bF, eN, ↓zcx, ↓unC, ↓zU, ↓zE, ↓zF, ↓zI, ↓zaa, ↓zaE, ↓zco, ↓zZ, ↓zbw, ↓zQ, ↓zl, ↓zm, ↓zbF, ↓zf, ↓zab, ↓zK, ↓zay, ↓zaD, ↓zc, ↓zy, ↓zi, ↓zr, ↓zai, ↓zcz, ↓zcG, ↓zal, ↓zap, ↓zax, ↓zaG, ↓zaN, ↓zj, ↓zad, ↓zG, ↓zq, ↓zX, zcE, zaZ, zaW, unA, zcH, bnd, zdj, zY, zac, zdk, dm, dm1, zJ, zar, zdD, zdC, zT, Q0, Q1, Q2, Q3, Q4, Q5, zS, zg, zp, zu, zC, Q6, Q7, Q8, Q9, Q10, Q11, Q12, Q13, Q14, Nat.reduceAdd, Q15, Int.reduceToNat, Q16, Q17, Q18, Q19, Q20, reduceIte, Q21, Q22, zA, rep, zV, zdZ, toD, zaj, Q23, Q24, Q25, Q26, Q27, Q28, Nat.reduceLeDiff, Q29, Nat.reduceSub, Q30, Q31, Q32, sc, Q33, Q34, Q35, Q36, Q37, Q26, Q38, Q39, zjL, zjI, zjF, zjM, zdO, zjJ, zjG, zjK, zjH, zdN, zdP, zjT, zjU, Bool.not_true, Bool.not_false, List.length_map, Bool.false_eq_true, a] | with_reducible refine zkm ?_ | fail); exact h.go) : P := e a ⟨h⟩
theorem gq53 {A P Q : Prop} (a : A) (h : Q) (e : A → Hd Q → P := by intro a h; (repeat' first | simp -dsimp only [↓zem, ↓zas, ↓zbe, ↓zen, ↓zeg, ↓zee, ↓zeh, ↓zef, ↓zbj, ↓zbf, ↓zbk, ↓zbg, ↓zei, ↓zbd, ↓zbl, ↓zbh, ↓zbm, ↓zbi, ↓zec, ↓zel, ↓zbc, ↓zbo, ↓zdY, ↓zdX, ↓zeb, iN, bT, bF, eN, ↓zcx, ↓unC, ↓zU, ↓zE, ↓zF, ↓zI, ↓zaa, ↓zaE, ↓zco, ↓zZ, ↓zbw, ↓zQ, ↓zl, ↓zm, ↓zbF, ↓zf, ↓zab, ↓zK, ↓zay, ↓zaD, ↓zc, ↓zy, ↓zi, ↓zr, ↓zai, ↓zcz, ↓zcG, ↓zal, ↓zap, ↓zax, ↓zaG, ↓zaN, ↓zj, ↓zad, ↓zG, ↓zq, ↓zX, zcE, zaZ, zaW, unA, zcH, bnd, zdj, zY, zac, zdk, dm, dm1, zJ, zar, zdD, zdC, zT, Q0, Q1, Q2, Q3, Q4, Q5, zS, zg, zp, zu, zC, Q6, Q7, Q8, Q9, Q10, Q11, Q12, Q13, Q14, Nat.reduceAdd, Q15, Int.reduceToNat, Q16, Q17, Q18, Q19, Q20, reduceIte, Q21, Q22, zA, rep, zV, zdZ, toD, zaj, Q23, Q24, Q25, Q26, Q27, Q28, Nat.reduceLeDiff, Q29, Nat.reduceSub, Q30, Q31, Q32, sc, Q33, Q34, Q35, Q36, Q37, Q26, Q38, Q39, zjL, zjI, zjF, zjM, zdO, zjJ, zjG, zjK, zjH, zdN, zdP, zjT, zjU, Bool.not_true, Bool.not_false, List.length_map, Bool.false_eq_true, Nat.sub_zero, a] | with_reducible refine zkm ?_ | fail); exact h.go) : P := e a ⟨h⟩
theorem zkY (xs : List AV) (n : Nat) (hn : n ≤ 1048576) (h : ArgsOk zfG xs n) : zn Tryz.prog zds xs [] fun r _ => r = .d (.bool true) := by
  obtain ⟨ds, xs1, m1, hf1, hb1, rfl, h⟩ := h
  obtain ⟨p, rfl, _⟩ := dec_prep hf1
  obtain ⟨ds, xs2, m2, hf2, hb2, rfl, rfl⟩ := h
  obtain ⟨d, rfl, h2⟩ := one_of hf2
  obtain ⟨f, rfl, _⟩ := zdx h2
  show zn Tryz.prog zds [zfw p, .d (.int .i64 f)] [] _
  clear hb1 hb2 hf1 hf2
  obtain ⟨σ, hσ⟩ : ∃ σ : List zb, [] = σ := ⟨_, rfl⟩
  rw [hσ]
  refine zeJ zeV.is rfl fun hl _ => zeV.goes ?_
  simp only [zfa, iN, bT, bF, eN, zl0, zfw]
  refine gq1 ?_
  refine c_live15 ?_
  refine gq1 ?_
  obtain ⟨pb, hpb⟩ : ∃ X, zb.box [AV.d (D.int IntKind.i64 p.view), AV.d (D.int IntKind.i64 p.seq), AV.d (D.int IntKind.i64 p.dig), AV.d (D.int IntKind.i64 p.fkey), AV.d (D.int IntKind.i64 p.fdig), AV.d (D.slice (zaL p.signs)), AV.d (D.slice (zbn p.batch))] = X := ⟨_, rfl⟩
  obtain ⟨S0, hS0⟩ : ∃ S0, σ ++ [pb, zb.box [AV.d D.nilmap], zb.row 0 1 [AV.d D.nilp, AV.box (σ.length + 1) 0]] = S0 := ⟨_, rfl⟩
  have l0 : S0.length = σ.length + 3 := by rw [← hS0]; simp
  have g0 : ∀ τ, (S0 ++ τ)[σ.length]? = some pb := fun τ => zk (by rw [← hS0, zp]; rfl)
  have g1 : ∀ τ, (S0 ++ τ)[σ.length + 1]? = some (.box [.d .nilmap]) := fun τ => zk (by rw [← hS0, zg]; rfl)
  have g2 : ∀ τ, (S0 ++ τ)[σ.length + 2]? = some (.row 0 1 [AV.d D.nilp, AV.box (σ.length + 1) 0]) := fun τ => zk (by rw [← hS0, zg]; rfl)
  rw [hpb, hS0]
  rw [← hpb] at g0
  refine zR 2 (fun k vs S => vs = [.d (.int .i64 k)] ∧ ∃ T, S = S0 ++ T) ⟨rfl, [], by simp⟩ ?_
  rintro k vs S hk ⟨rfl, T, rfl⟩
  by_cases hlt : k < 2
  · have hd : decide ((k : Int) < ((2 - 0 : Nat) : Int)) = true := by simp; omega
    obtain ⟨x, hx, hxN⟩ : ∃ x, [AV.d D.nilp, AV.box (σ.length + 1) 0][k]? = some x ∧ ∀ τ, NoH (S0 ++ τ) x := by
      match k, hlt with
      | 0, _ => exact ⟨_, rfl, fun τ => .inl rfl⟩
      | 1, _ => exact ⟨_, rfl, fun τ => .inr ⟨_, rfl, g1 τ⟩⟩
    have hk2 : (k : Int) < ((2 - 0 : Nat) : Int) := by omega
    refine gq50 (zo hd (zo g0 (zo g2 hx))) ?_
    refine c_hnGet (hxN _) ?_
    refine gq51 (zo g0 (zo (show (false == false) = true from rfl) (zo (show (true == true) = true from rfl) (show ((0 : Int) != 0) = false from rfl)))) ?_
    refine c_hnSlide (hxN _) ?_
    refine gq51 (zo g0 (zo (show (false == false) = true from rfl) (zo (show (true == true) = true from rfl) (show ((0 : Int) != 0) = false from rfl)))) ?_
    refine c_hnPut (p := p) (hxN _) ?_
    refine gq51 (zo g0 (zo (show (false == false) = true from rfl) (zo (show (true == true) = true from rfl) (show ((0 : Int) != 0) = false from rfl)))) ?_
    refine c_hnL15all (hxN _) ?_
    refine gq51 (zo g0 (zo (show (false == false) = true from rfl) (zo (show (true == true) = true from rfl) (show ((0 : Int) != 0) = false from rfl)))) ?_
    refine c_hnLen (hxN _) ?_
    refine gq51 (zo g0 (zo (show (false == false) = true from rfl) (zo (show (true == true) = true from rfl) (show ((0 : Int) != 0) = false from rfl)))) ?_
    refine c_hnClone (hxN _) ?_
    refine gq51 (zo g0 (zo (show (false == false) = true from rfl) (zo (show (true == true) = true from rfl) (zo (show ((0 : Int) != 0) = false from rfl) (wk1 k (by omega)))))) ?_
    exact zbq.next hlt ⟨rfl, _, rfl⟩
  · have hd : decide ((k : Int) < ((2 - 0 : Nat) : Int)) = false := by simp; omega
    refine gq2 (zo hd g0) ?_
    obtain ⟨S1, hS1⟩ : ∃ S1, S0 ++ T = S1 := ⟨_, rfl⟩
    have p1 : S1[σ.length]? = some (zb.box [AV.d (D.int IntKind.i64 p.view), AV.d (D.int IntKind.i64 p.seq), AV.d (D.int IntKind.i64 p.dig), AV.d (D.int IntKind.i64 p.fkey), AV.d (D.int IntKind.i64 p.fdig), AV.d (D.slice (zaL p.signs)), AV.d (D.slice (zbn p.batch))]) := by rw [← hS1]; exact g0 _
    rw [hS1]
    refine ziy ?_
    obtain ⟨S2, hS2⟩ : ∃ S2, S1 ++ ledO S1.length [] = S2 := ⟨_, rfl⟩
    have p2 : S2[σ.length]? = some (zb.box [AV.d (D.int IntKind.i64 p.view), AV.d (D.int IntKind.i64 p.seq), AV.d (D.int IntKind.i64 p.dig), AV.d (D.int IntKind.i64 p.fkey), AV.d (D.int IntKind.i64 p.fdig), AV.d (D.slice (zaL p.signs)), AV.d (D.slice (zbn p.batch))]) := by rw [← hS2]; exact zk p1
    rw [hS2]
    refine gq2 (zo p1 p2) ?_
    refine c_valNilT (p := p) ?_
    refine gq2 (zo p1 p2) ?_
    refine zki ?_
    obtain ⟨S3, hS3⟩ : ∃ S3, S2 ++ tabO S2.length [] = S3 := ⟨_, rfl⟩
    have p3 : S3[σ.length]? = some (zb.box [AV.d (D.int IntKind.i64 p.view), AV.d (D.int IntKind.i64 p.seq), AV.d (D.int IntKind.i64 p.dig), AV.d (D.int IntKind.i64 p.fkey), AV.d (D.int IntKind.i64 p.fdig), AV.d (D.slice (zaL p.signs)), AV.d (D.slice (zbn p.batch))]) := by rw [← hS3]; exact zk p2
    have hT3 : zcF S3 (S2.length + 1) S2.length (S2.length + 2) [] := by
      rw [← hS3]
      exact ⟨by rw [zg]; rfl, by rw [zp]; rfl, by rw [zg]; rfl⟩
    rw [hS3]
    refine gq2 (zo p2 p3) ?_
    refine c_valNilG (p := p) hT3 ?_
    refine gq52 (zo (show (false == false) = true from rfl) (show (true == true) = true from rfl)) ?_
    refine c_heNew ?_
    obtain ⟨S4, hS4⟩ : ∃ S4, S3 ++ [zb.map (hE []), zb.box [.map S3.length]] = S4 := ⟨_, rfl⟩
    have hH4 : ∀ τ, zkU (S4 ++ τ) (S3.length + 1) S3.length [] := fun τ => by
      rw [← hS4]
      exact ⟨zk (by rw [zg]; rfl), zk (by rw [zp]; rfl)⟩
    have l4 : S4.length = S3.length + 2 := by rw [← hS4]; simp
    rw [hS4]
    refine gq53 (zo (show (false == false) = true from rfl) (show (true == true) = true from rfl)) ?_
    obtain ⟨S5, hS5⟩ : ∃ S5, S4 ++ [zb.row 0 2 [AV.d (D.int IntKind.i64 1), AV.d (D.int IntKind.i64 2)], zb.box [AV.d (D.int IntKind.i64 0), AV.d (D.int IntKind.i64 1), AV.d (D.int IntKind.i64 0), AV.d (D.int IntKind.i64 0), AV.d (D.int IntKind.i64 0), AV.rsl S4.length 0 2 0 1, AV.exact []]] = S5 := ⟨_, rfl⟩
    have r5 : S5[S4.length]? = some (oneR 0 1 2) := by rw [← hS5, zp]; rfl
    have b5 : S5[S4.length + 1]? = some (.box [AV.d (D.int IntKind.i64 0), AV.d (D.int IntKind.i64 1), AV.d (D.int IntKind.i64 0), AV.d (D.int IntKind.i64 0), AV.d (D.int IntKind.i64 0), AV.rsl S4.length 0 2 0 1, AV.exact []]) := by rw [← hS5, zg]; rfl
    have l5 : S5.length = S4.length + 2 := by rw [← hS5]; simp
    rw [hS5]
    refine c_hePutR (h := S3.length + 1) (m := S3.length) (k := 1) (d := 2) (by rw [← hS5]; exact hH4 _) r5 fun S6 t1 gg1 a1 a2 a3 a4 a5 => ?_
    have r6 : S6[S4.length]? = some (oneR 0 1 2) := a5 _ _ (by omega) r5
    have b6 := a5 _ _ (by omega) b5
    have rn6 : S4.length ≠ t1 := by omega
    obtain ⟨S7, hS7⟩ : ∃ S7, S6.set S4.length (oneR 0 9 2) = S7 := ⟨_, rfl⟩
    have q7 : ∀ (j : Nat) (x : zb), j ≠ S4.length → S6[j]? = some x → S7[j]? = some x := fun j x hj hx => by rw [← hS7, List.getElem?_set_ne (Ne.symm hj)]; exact hx
    have hs7 : ∀ X, (S6.set S4.length X)[S4.length]? = some X := fun X => List.getElem?_set_self (zdt r6)
    refine gq53 (zo (show (false == false) = true from rfl) (zo (show (true == true) = true from rfl) (zo (show (((1 : Nat) : Int) != 1) = false from rfl) (zo (show ((1 : Int) != 1) = false from rfl) (zo (show ((1 : Int) == 1) = true from rfl) (zo (show (((1 : Nat) : Int) == 1) = true from rfl) (zo b6 r6))))))) ?_
    rw [hS7]
    have e3 : S3.length + 1 ≠ S4.length := by omega
    have e4 : S3.length ≠ S4.length := by omega
    have m7 := q7 _ _ e4 a2
    have h7 := q7 _ _ e3 a1
    have t7 := q7 _ _ (Ne.symm rn6) a3
    refine c_heGetR h7 m7 t7 fun S8 t2 gg2 d1 d2 d3 => ?_
    have lt1 := zdt t7
    have lm7 := zdt m7
    have lh7 := zdt h7
    have d1' : ∀ τ, (S8 ++ τ)[t2]? = some (oneR gg2 1 2) := fun τ => zk d1
    refine gq53 (zo (show (false == false) = true from rfl) (zo (show (true == true) = true from rfl) (zo (show (((1 : Nat) : Int) != 1) = false from rfl) (zo (show ((1 : Int) != 1) = false from rfl) (zo (show ((1 : Int) == 1) = true from rfl) (zo (show (((1 : Nat) : Int) == 1) = true from rfl) d1')))))) ?_
    obtain ⟨S9, hS9⟩ : ∃ S9, (S8 ++ [zb.box [AV.d (D.int IntKind.i64 0), AV.d (D.int IntKind.i64 1), AV.d (D.int IntKind.i64 0), AV.d (D.int IntKind.i64 0), AV.d (D.int IntKind.i64 0), AV.rsl t2 gg2 2 0 1, AV.d (D.slice [])]]).set t2 (oneR gg2 8 2) = S9 := ⟨_, rfl⟩
    have q9 : ∀ (j : Nat) (x : zb), j < S7.length → S7[j]? = some x → S9[j]? = some x := fun j x hj hx => by rw [← hS9, List.getElem?_set_ne (by omega)]; exact zk (d3 j x hx)
    rw [hS9]
    refine c_heGetR (q9 _ _ lh7 h7) (q9 _ _ lm7 m7) (q9 _ _ lt1 t7) fun SA t3 gg3 f1 f2 f3 => ?_
    have f1' : ∀ τ, (SA ++ τ)[t3]? = some (oneR gg3 1 2) := fun τ => zk f1
    refine gq53 (zo (show (false == false) = true from rfl) (zo (show (true == true) = true from rfl) (zo (show (((1 : Nat) : Int) != 1) = false from rfl) (zo (show ((1 : Int) != 1) = false from rfl) (zo (show ((1 : Int) == 1) = true from rfl) (zo (show (((1 : Nat) : Int) == 1) = true from rfl) f1')))))) ?_
    exact zka (by rw [← hσ]; rfl) (by simp [zfj, dmT, dm, dm1, zcm]) hl rfl
end Go.Proofs.YtjjchfbckfopkaaGreat
