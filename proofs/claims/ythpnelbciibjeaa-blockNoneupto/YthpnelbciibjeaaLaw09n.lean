/- The law BlockNone, from the contracts. -/
import Derived.Test.YthpnelbciibjeaaLv9
import Derived.Test.YthpnelbciibjeaaSpStay
import Derived.Test.YthpnelbciibjeaaSpNum
set_option linter.all false
set_option maxRecDepth 100000
set_option linter.unusedSimpArgs false
set_option linter.unusedVariables false
namespace Go.Proofs.Ythpnelbciibjeaa
open Go.AW

def tyH9n : List Ty := [.int .i64, .int .i64, .int .i64, .int .i64, .int .i64]
theorem dec_h9n {ds : List D} (h : zdJ tyH9n ds) : ∃ x : zfc, ds = hdrD x := by
  obtain ⟨d1, ds, rfl, h1, h⟩ := zbc h
  obtain ⟨d2, ds, rfl, h2, h⟩ := zbc h
  obtain ⟨d3, ds, rfl, h3, h⟩ := zbc h
  obtain ⟨d4, ds, rfl, h4, h⟩ := zbc h
  obtain ⟨d5, ds, rfl, h5, h⟩ := zbc h
  obtain rfl := tfits_nil h
  obtain ⟨a1, rfl, _⟩ := zfq h1
  obtain ⟨a2, rfl, _⟩ := zfq h2
  obtain ⟨a3, rfl, _⟩ := zfq h3
  obtain ⟨a4, rfl, _⟩ := zfq h4
  obtain ⟨a5, rfl, _⟩ := zfq h5
  exact ⟨⟨a1, a2, a3, a4, a5⟩, rfl⟩
def zii : List (Bool × List Ty) := [(true, tyH9n), (false, [.slice tySigned])]
theorem gq31 {A P Q : Prop} (a : A) (h : Q) (e : A → Hd Q → P := by intro a h; (repeat' first | simp -dsimp only [↓ziv, ↓zbi, ↓zcW, ↓zix, ↓zio, ↓zim, ↓ziq, ↓zin, ↓zdb, ↓zcX, ↓zdc, ↓zcY, ↓zir, ↓zcU, ↓zdd, ↓zcZ, ↓zde, ↓zda, ↓zil, ↓ziu, ↓zcS, ↓zdf, ↓zia, ↓zhZ, ↓zij, iN, bT, bF, eN, ↓zeU, ↓unC, ↓zah, ↓zR, ↓zS, ↓zad, ↓zaG, ↓zbl, ↓zea, ↓zaj, ↓zcA, ↓zau, ↓zu, ↓zo, ↓zcT, ↓zi, ↓zax, ↓zac, ↓zbm, ↓zbg, ↓zd, ↓zK, ↓zq, ↓zJ, ↓zaI, ↓zeE, ↓zfi, ↓zat, ↓zaW, ↓zaY, ↓zbC, ↓zck, ↓zG, ↓zaA, ↓zQ, ↓zF, ↓zaE, zfb, zcF, zcr, unA, zfm, bnd, zfY, zap, zaw, zfQ, dm, dm1, zA, zaT, zgP, zgO, zZ, Q0, Q1, Q2, Q3, Q4, Q5, zaD, zI, zr, zav, zW, Q6, Q7, Q8, Q9, Q10, Q11, Q12, Q13, Q14, Nat.reduceAdd, Q15, Int.reduceToNat, Q16, Q17, Q18, Q19, Q20, reduceIte, Q21, Q22, zD, rep, zT, zgN, toD, zan, Q23, Q24, Q25, Q26, Q27, Q28, Nat.reduceLeDiff, Q29, Nat.reduceSub, Q30, Q31, Q32, sc, Q33, Q34, Q35, Q36, Q37, Q26, Q38, Q39, n0gt, n1gt, n2gt, n0eq, zhd, n1eq, n2eq, n0ne, n1ne, zhc, zhe, i0ne, i0eq, Bool.not_true, Bool.not_false, List.length_map, Int.toNat_natCast, Nat.mul_one, Nat.zero_add, a] | with_reducible refine andA ?_ | fail); exact h.go) : P := e a ⟨h⟩
theorem gq32 {A P Q : Prop} (a : A) (h : Q) (e : A → Hd Q → P := by intro a h; (repeat' first | simp -dsimp only [↓ziv, ↓zbi, ↓zcW, ↓zix, ↓zio, ↓zim, ↓ziq, ↓zin, ↓zdb, ↓zcX, ↓zdc, ↓zcY, ↓zir, ↓zcU, ↓zdd, ↓zcZ, ↓zde, ↓zda, ↓zil, ↓ziu, ↓zcS, ↓zdf, ↓zia, ↓zhZ, ↓zij, iN, bT, bF, eN, ↓zeU, ↓unC, ↓zah, ↓zR, ↓zS, ↓zad, ↓zaG, ↓zbl, ↓zea, ↓zaj, ↓zcA, ↓zau, ↓zu, ↓zo, ↓zcT, ↓zi, ↓zax, ↓zac, ↓zbm, ↓zbg, ↓zd, ↓zK, ↓zq, ↓zJ, ↓zaI, ↓zeE, ↓zfi, ↓zat, ↓zaW, ↓zaY, ↓zbC, ↓zck, ↓zG, ↓zaA, ↓zQ, ↓zF, ↓zaE, zfb, zcF, zcr, unA, zfm, bnd, zfY, zap, zaw, zfQ, dm, dm1, zA, zaT, zgP, zgO, zZ, Q0, Q1, Q2, Q3, Q4, Q5, zaD, zI, zr, zav, zW, Q6, Q7, Q8, Q9, Q10, Q11, Q12, Q13, Q14, Nat.reduceAdd, Q15, Int.reduceToNat, Q16, Q17, Q18, Q19, Q20, reduceIte, Q21, Q22, zD, rep, zT, zgN, toD, zan, Q23, Q24, Q25, Q26, Q27, Q28, Nat.reduceLeDiff, Q29, Nat.reduceSub, Q30, Q31, Q32, sc, Q33, Q34, Q35, Q36, Q37, Q26, Q38, Q39, n0gt, n1gt, n2gt, n0eq, zhd, n1eq, n2eq, n0ne, n1ne, zhc, zhe, i0ne, i0eq, Bool.not_true, Bool.not_false, List.length_map, Bool.false_eq_true, bne_self_eq_false, hdrL, a] | with_reducible refine andA ?_ | fail); exact h.go) : P := e a ⟨h⟩
theorem znM (xs : List AV) (n : Nat) (hn : n ≤ 1048576) (h : ArgsOk zii xs n) : zj Try.prog zfh xs [] fun r _ => r = .d (.bool true) := by
  obtain ⟨ds, xs1, m1, hf1, hb1, rfl, h⟩ := h
  obtain ⟨x, rfl⟩ := dec_h9n hf1
  obtain ⟨ds, xs2, m2, hf2, hb2, rfl, rfl⟩ := h
  obtain ⟨d, rfl, h1⟩ := one_of hf2
  obtain ⟨b, rfl, _⟩ := dec_sliceR (f := zeb) (R := fun _ => True) h1 fun e he => by obtain ⟨s, h1, _⟩ := dec_signed he; exact ⟨s, h1, trivial⟩
  obtain ⟨B, hB⟩ : ∃ B, b.map zeb = B := ⟨_, rfl⟩
  rw [hB]
  show zj Try.prog zfh [.agg (hdrL x), .d (.slice B)] [] _
  clear hb1 hf1 hf2 hb2 h1
  obtain ⟨σ, hσ⟩ : ∃ σ : List zc, [] = σ := ⟨_, rfl⟩
  rw [hσ]
  refine zhS zgF.is rfl fun hl _ => zgF.goes ?_
  simp only [zgJ, iN, bT, bF, eN]
  refine gq1 ?_
  refine c_live09 ?_
  refine gq1 ?_
  obtain ⟨S0, hS0⟩ : ∃ S0, σ ++ [zc.box (hdrL x), zc.box [.exact [], .d .nilmap], zc.row 0 1 [AV.d D.nilp, AV.box (σ.length + 1) 0]] = S0 := ⟨_, rfl⟩
  have l0 : S0.length = σ.length + 3 := by rw [← hS0]; simp
  have g0 : ∀ τ, (S0 ++ τ)[σ.length]? = some (.box (hdrL x)) := fun τ => zf (by rw [← hS0, zr]; rfl)
  have g1 : ∀ τ, (S0 ++ τ)[σ.length + 1]? = some (.box [.exact [], .d .nilmap]) := fun τ => zf (by rw [← hS0, zI]; rfl)
  have g2 : ∀ τ, (S0 ++ τ)[σ.length + 2]? = some (.row 0 1 [AV.d D.nilp, AV.box (σ.length + 1) 0]) := fun τ => zf (by rw [← hS0, zI]; rfl)
  rw [hS0]
  refine zV 2 (fun k vs S => vs = [.d (.int .i64 k)] ∧ ∃ T, S = S0 ++ T) ⟨rfl, [], by simp⟩ ?_
  rintro k vs S hk ⟨rfl, T, rfl⟩
  by_cases hlt : k < 2
  · have hd : decide ((k : Int) < ((2 - 0 : Nat) : Int)) = true := by simp; omega
    obtain ⟨y, hy, hyN⟩ : ∃ y, [AV.d D.nilp, AV.box (σ.length + 1) 0][k]? = some y ∧ ∀ τ, NoX (S0 ++ τ) y := by
      match k, hlt with
      | 0, _ => exact ⟨_, rfl, fun τ => .inl rfl⟩
      | 1, _ => exact ⟨_, rfl, fun τ => .inr ⟨_, rfl, g1 τ⟩⟩
    have hk2 : (k : Int) < ((2 - 0 : Nat) : Int) := by omega
    refine gq31 (zg hd (zg g0 (zg g2 hy))) ?_
    refine c_xDigest (hyN _) ?_
    refine gq2 g0 ?_
    refine c_xGenesis (hyN _) ?_
    refine gq2 g0 ?_
    have leaf : ∀ (τ : List zc) (t : Nat) (K : AV → List zc → Prop), K exNo (S0 ++ τ) → zj Try.prog zal [y, .box t 0, .agg (hdrL x), .d (.slice B)] (S0 ++ τ) K := fun τ t K h => c_xExecute (hyN τ) h
    refine ⟨?_, ?_⟩
    · refine zoe fun _ => ?_
      refine gq32 (zg g0 (zg (show (false == false) = true from rfl) (zg (show (true == true) = true from rfl) (zg (show ((2 : Int) != 2) = false from rfl) (wk1 k (by omega)))))) ?_
      refine ⟨?_, ?_⟩
      · refine leaf _ _ _ ?_
        refine gq32 (zg g0 (zg (show (false == false) = true from rfl) (zg (show (true == true) = true from rfl) (zg (show ((2 : Int) != 2) = false from rfl) (wk1 k (by omega)))))) ?_
        refine zod (hyN _) ?_
        refine gq32 (zg g0 (zg (show (false == false) = true from rfl) (zg (show (true == true) = true from rfl) (zg (show ((2 : Int) != 2) = false from rfl) (wk1 k (by omega)))))) ?_
        exact zcd.next hlt ⟨rfl, _, rfl⟩
      · refine gq32 (zg g0 (zg (show (false == false) = true from rfl) (zg (show (true == true) = true from rfl) (zg (show ((2 : Int) != 2) = false from rfl) (wk1 k (by omega)))))) ?_
        refine leaf _ _ _ ?_
        refine gq32 (zg g0 (zg (show (false == false) = true from rfl) (zg (show (true == true) = true from rfl) (zg (show ((2 : Int) != 2) = false from rfl) (wk1 k (by omega)))))) ?_
        refine zod (hyN _) ?_
        refine gq32 (zg g0 (zg (show (false == false) = true from rfl) (zg (show (true == true) = true from rfl) (zg (show ((2 : Int) != 2) = false from rfl) (wk1 k (by omega)))))) ?_
        exact zcd.next hlt ⟨rfl, _, rfl⟩
    · refine gq32 (zg g0 (zg (show (false == false) = true from rfl) (zg (show (true == true) = true from rfl) (zg (show ((2 : Int) != 2) = false from rfl) (wk1 k (by omega)))))) ?_
      refine zoe fun _ => ?_
      refine gq32 (zg g0 (zg (show (false == false) = true from rfl) (zg (show (true == true) = true from rfl) (zg (show ((2 : Int) != 2) = false from rfl) (wk1 k (by omega)))))) ?_
      refine leaf _ _ _ ?_
      refine gq32 (zg g0 (zg (show (false == false) = true from rfl) (zg (show (true == true) = true from rfl) (zg (show ((2 : Int) != 2) = false from rfl) (wk1 k (by omega)))))) ?_
      refine zod (hyN _) ?_
      refine gq32 (zg g0 (zg (show (false == false) = true from rfl) (zg (show (true == true) = true from rfl) (zg (show ((2 : Int) != 2) = false from rfl) (wk1 k (by omega)))))) ?_
      exact zcd.next hlt ⟨rfl, _, rfl⟩
  · have hd : decide ((k : Int) < ((2 - 0 : Nat) : Int)) = false := by simp; omega
    refine gq2 (zg hd g0) ?_
    obtain ⟨S1, hS1⟩ : ∃ S1, S0 ++ T = S1 := ⟨_, rfl⟩
    have p0' : S1[σ.length]? = some (.box (hdrL x)) := by rw [← hS1]; exact g0 _
    obtain ⟨zs, hzs⟩ : ∃ zs : List AV, [AV.d (D.int .i64 0), .d (.int .i64 0), .d (.int .i64 0), .d (.int .i64 0), .d (.int .i64 0), .d (.int .i64 0), .d (.int .i64 0), .d (.int .i64 0), .d (.int .i64 0), .d (.int .i64 0), .d (.int .i64 0), .d (.int .i64 0), .d (.int .i64 0), .d (.int .i64 0), .d (.int .i64 0), .d (.int .i64 0), .d (.int .i64 0), .d (.int .i64 0), .d (.int .i64 0), .d (.int .i64 0), .d (.int .i64 0), .d (.int .i64 0), .d (.int .i64 0), .d (.int .i64 0)] = zs := ⟨_, rfl⟩
    rw [← List.append_assoc S0 T, hS1]
    rw [hzs]
    have hl1 : S0.length + T.length = S1.length := by rw [← hS1]; simp
    rw [hl1]
    obtain ⟨S2, hS2⟩ : ∃ S2, S1 ++ [zc.box (AV.d D.nilmap :: zs), zc.row 0 1 [AV.d D.nilp, AV.box S1.length 0]] = S2 := ⟨_, rfl⟩
    have p0 : ∀ τ, (S2 ++ τ)[σ.length]? = some (.box (hdrL x)) := fun τ => zf (by rw [← hS2]; exact zf p0')
    have p1 : ∀ τ, (S2 ++ τ)[S1.length]? = some (.box (AV.d D.nilmap :: zs)) := fun τ => zf (by rw [← hS2, zr]; rfl)
    have p2 : ∀ τ, (S2 ++ τ)[S1.length + 1]? = some (.row 0 1 [AV.d D.nilp, AV.box S1.length 0]) := fun τ => zf (by rw [← hS2, zI]; rfl)
    rw [hS2]
    refine zV 2 (fun k vs S => vs = [.d (.int .i64 k)] ∧ ∃ T, S = S2 ++ T) ⟨rfl, [], by simp⟩ ?_
    rintro k vs S hk ⟨rfl, T, rfl⟩
    by_cases hlt : k < 2
    · have hd : decide ((k : Int) < ((2 - 0 : Nat) : Int)) = true := by simp; omega
      obtain ⟨y, hy, hyN⟩ : ∃ y, [AV.d D.nilp, AV.box S1.length 0][k]? = some y ∧ ∀ τ, NoY (S2 ++ τ) y := by
        match k, hlt with
        | 0, _ => exact ⟨_, rfl, fun τ => .inl rfl⟩
        | 1, _ => exact ⟨_, rfl, fun τ => .inr ⟨_, _, rfl, p1 τ⟩⟩
      have hk2 : (k : Int) < ((2 - 0 : Nat) : Int) := by omega
      refine gq31 (zg hd (zg p0 (zg p2 hy))) ?_
      have tb : ∀ (R : List zc) (τ : List zc) (n : Nat), R.length = n → zbr (R ++ (zns n [] ++ τ)) (n + 1) n (n + 2) [] := fun R τ n e => by
        subst e
        exact ⟨by rw [zI]; rfl, by rw [zr]; rfl, by rw [zI]; rfl⟩
      have t1 : ∀ τ, zbr (S2 ++ (T ++ ([zc.map (tabM []), zc.box [AV.own (S2.length + (T.length + 2)) [], AV.map (S2.length + T.length)], zc.tok 1 0] ++ τ))) (S2.length + (T.length + 1)) (S2.length + T.length) (S2.length + (T.length + 2)) [] := fun τ => by
        have := tb (S2 ++ T) τ (S2.length + T.length) (by simp)
        rw [List.append_assoc] at this
        exact this
      refine ⟨?_, ?_⟩
      · refine zhQ ?_
        refine gq32 (zg p0 (zg (show (false == false) = true from rfl) (zg (show (true == true) = true from rfl) (zg (show ((2 : Int) != 2) = false from rfl) (wk1 k (by omega)))))) ?_
        refine ⟨?_, ?_⟩
        · refine zkk (h := x) (by have := t1 []; rw [List.append_nil] at this; exact this) (hyN _) ?_
          refine gq32 (zg p0 (zg (show (false == false) = true from rfl) (zg (show (true == true) = true from rfl) (zg (show ((2 : Int) != 2) = false from rfl) (wk1 k (by omega)))))) ?_
          exact zcd.next hlt ⟨rfl, _, rfl⟩
        · refine zkk (h := x) (t1 [_]) (hyN _) ?_
          refine gq32 (zg p0 (zg (show (false == false) = true from rfl) (zg (show (true == true) = true from rfl) (zg (show ((2 : Int) != 2) = false from rfl) (wk1 k (by omega)))))) ?_
          exact zcd.next hlt ⟨rfl, _, rfl⟩
      · refine gq32 (zg p0 (zg (show (false == false) = true from rfl) (zg (show (true == true) = true from rfl) (zg (show ((2 : Int) != 2) = false from rfl) (wk1 k (by omega)))))) ?_
        refine zhQ ?_
        refine gq32 (zg p0 (zg (show (false == false) = true from rfl) (zg (show (true == true) = true from rfl) (zg (show ((2 : Int) != 2) = false from rfl) (wk1 k (by omega)))))) ?_
        have t2 := tb (S2 ++ T ++ [zc.box [AV.d (D.int IntKind.i64 0), AV.d (D.int IntKind.i64 0), AV.d (D.int IntKind.i64 0), AV.d (D.int IntKind.i64 0), AV.d (D.int IntKind.i64 0)]]) [] (S2.length + (T.length + 1)) (by simp)
        rw [List.append_nil, List.append_assoc, List.append_assoc, List.cons_append, List.nil_append] at t2
        refine zkk (h := x) t2 (hyN _) ?_
        refine gq32 (zg p0 (zg (show (false == false) = true from rfl) (zg (show (true == true) = true from rfl) (zg (show ((2 : Int) != 2) = false from rfl) (wk1 k (by omega)))))) ?_
        exact zcd.next hlt ⟨rfl, _, rfl⟩
    · have hd : decide ((k : Int) < ((2 - 0 : Nat) : Int)) = false := by simp; omega
      refine gq2 hd ?_
      exact ends_take (by rw [← hσ]; rfl) (by simp [zfO, dmT, dm, dm1, zdg]) hl rfl
end Go.Proofs.Ythpnelbciibjeaa
