/- The law PublisherNone, from the contracts. -/
import Derived.Test.YtdgcepphjnoalaaGreatPq6
import Derived.Test.YtdgcepphjnoalaaGreatDm1
set_option linter.all false
set_option maxRecDepth 100000
set_option linter.unusedSimpArgs false
set_option linter.unusedVariables false
namespace Go.Proofs.YtdgcepphjnoalaaGreat
open Go.AW

def sopL (o : TSop) : List AV := [.d (.int .i64 o.do_), .d (.int .i64 o.op.kind), .d (.str o.op.topic), .d (.str o.op.group), .d (.int .i64 o.op.offset), .d (.slice (zeE o.op.recs)), .d (.int .i64 o.key), .d (.int .i64 o.m.kind), .d (.int .i64 o.m.src), .d (.int .i64 o.m.view), .d (.int .i64 o.m.seq), .d (.int .i64 o.m.dig), .d (.int .i64 o.m.client), .d (.int .i64 o.m.time), .d (.int .i64 o.m.rerr), .d (.int .i64 o.m.roff), .d (.slice (zcR o.m.batch)), .d (.int .i64 o.m.cert.seq), .d (.int .i64 o.m.cert.dig), .d (.slice (zbQ o.m.cert.signs)), .d (.slice (zeu o.m.changes)), .d (.slice (zet o.m.entries)), .d (.slice (bcs o.m.state)), .d (.str o.m.topic), .d (.int .i64 o.m.offset), .d (.str o.m.proof.topic), .d (.int .i64 o.m.proof.offset), .d (.slice (bcs o.m.proof.rec_)), .d (.slice (zqR o.m.proof.headers)), .d (.int .i64 o.m.proof.index), .d (.int .i64 o.m.proof.count), .d (.slice (zlt o.m.proof.path)), .d (.int .i64 o.m.proof.cert.seq), .d (.int .i64 o.m.proof.cert.dig), .d (.slice (zbQ o.m.proof.cert.signs)), .d (.int .i64 o.m.key), .d (.int .i64 o.m.sdig), .d (.bool o.now)]
def zgW : List (Bool × List Ty) := [(true, tySop)]
theorem gq47 {A P Q : Prop} (a : A) (h : Q) (e : A → Hd Q → P := by intro a h; (repeat' first | simp -dsimp only [↓zgn, ↓zaG, ↓zca, ↓zgo, ↓zgh, ↓zgf, ↓zgi, ↓zgg, ↓zcf, ↓zcb, ↓zcg, ↓zcc, ↓zgj, ↓zbW, ↓zch, ↓zcd, ↓zci, ↓zce, ↓zge, ↓zgl, ↓zbV, ↓zck, ↓zgb, ↓zga, ↓zgd, iN, bT, bF, eN, ↓zds, ↓unC, ↓zX, ↓zJ, ↓zK, ↓zM, ↓zal, ↓zaV, ↓zdU, ↓zay, ↓zbD, ↓zR, ↓zi, ↓zg, ↓zbr, ↓zd, ↓zan, ↓zO, ↓zbf, ↓zbg, ↓zf, ↓zB, ↓zn, ↓zD, ↓zZ, ↓zeb, ↓zes, ↓zaq, ↓zaC, ↓zbe, ↓zbl, ↓zbG, ↓zp, ↓zao, ↓zL, ↓zr, ↓zaj, zen, zbP, zbL, unA, zdF, bnd, zeV, zaf, zac, zeF, dm, dm1, zQ, zaz, zfy, zfx, zI, Q0, Q1, Q2, Q3, Q4, Q5, zam, zw, zu, zN, zG, Q6, Q7, Q8, Q9, Q10, Q11, Q12, Q13, Q14, Nat.reduceAdd, Q15, Int.reduceToNat, Q16, Q17, Q18, Q19, Q20, reduceIte, Q21, Q22, zC, rep, zV, zfi, toD, zad, Q23, Q24, Q25, Q26, Q27, Q28, Nat.reduceLeDiff, Q29, Nat.reduceSub, Q30, Q31, Q32, sc, Q33, Q34, Q35, Q36, Q37, Q26, Q38, Q39, zmU, zmR, zmO, zmV, zfD, zmS, zmP, zmT, zmQ, zfC, zfE, zmY, zmZ, Bool.not_true, Bool.not_false, List.length_map, Int.toNat_natCast, Nat.mul_one, Nat.zero_add, a] | with_reducible refine zni ?_ | fail); exact h.go) : P := e a ⟨h⟩
theorem zpX {A P Q : Prop} (a : A) (h : Q) (e : A → Hd Q → P := by intro a h; (repeat' first | simp -dsimp only [↓zgn, ↓zaG, ↓zca, ↓zgo, ↓zgh, ↓zgf, ↓zgi, ↓zgg, ↓zcf, ↓zcb, ↓zcg, ↓zcc, ↓zgj, ↓zbW, ↓zch, ↓zcd, ↓zci, ↓zce, ↓zge, ↓zgl, ↓zbV, ↓zck, ↓zgb, ↓zga, ↓zgd, iN, bT, bF, eN, ↓zds, ↓unC, ↓zX, ↓zJ, ↓zK, ↓zM, ↓zal, ↓zaV, ↓zdU, ↓zay, ↓zbD, ↓zR, ↓zi, ↓zg, ↓zbr, ↓zd, ↓zan, ↓zO, ↓zbf, ↓zbg, ↓zf, ↓zB, ↓zn, ↓zD, ↓zZ, ↓zeb, ↓zes, ↓zaq, ↓zaC, ↓zbe, ↓zbl, ↓zbG, ↓zp, ↓zao, ↓zL, ↓zr, ↓zaj, zen, zbP, zbL, unA, zdF, bnd, zeV, zaf, zac, zeF, dm, dm1, zQ, zaz, zfy, zfx, zI, Q0, Q1, Q2, Q3, Q4, Q5, zam, zw, zu, zN, zG, Q6, Q7, Q8, Q9, Q10, Q11, Q12, Q13, Q14, Nat.reduceAdd, Q15, Int.reduceToNat, Q16, Q17, Q18, Q19, Q20, reduceIte, Q21, Q22, zC, rep, zV, zfi, toD, zad, Q23, Q24, Q25, Q26, Q27, Q28, Nat.reduceLeDiff, Q29, Nat.reduceSub, Q30, Q31, Q32, sc, Q33, Q34, Q35, Q36, Q37, Q26, Q38, Q39, zmU, zmR, zmO, zmV, zfD, zmS, zmP, zmT, zmQ, zfC, zfE, zmY, zmZ, Bool.not_true, Bool.not_false, List.length_map, Bool.false_eq_true, List.length_nil, List.map_nil, bne_self_eq_false, zeE, zfO, a] | with_reducible refine zni ?_ | fail); exact h.go) : P := e a ⟨h⟩
theorem gq49 {A P Q : Prop} (a : A) (h : Q) (e : A → Hd Q → P := by intro a h; (repeat' first | simp -dsimp only [↓zgn, ↓zaG, ↓zca, ↓zgo, ↓zgh, ↓zgf, ↓zgi, ↓zgg, ↓zcf, ↓zcb, ↓zcg, ↓zcc, ↓zgj, ↓zbW, ↓zch, ↓zcd, ↓zci, ↓zce, ↓zge, ↓zgl, ↓zbV, ↓zck, ↓zgb, ↓zga, ↓zgd, iN, bT, bF, eN, ↓zds, ↓unC, ↓zX, ↓zJ, ↓zK, ↓zM, ↓zal, ↓zaV, ↓zdU, ↓zay, ↓zbD, ↓zR, ↓zi, ↓zg, ↓zbr, ↓zd, ↓zan, ↓zO, ↓zbf, ↓zbg, ↓zf, ↓zB, ↓zn, ↓zD, ↓zZ, ↓zeb, ↓zes, ↓zaq, ↓zaC, ↓zbe, ↓zbl, ↓zbG, ↓zp, ↓zao, ↓zL, ↓zr, ↓zaj, zen, zbP, zbL, unA, zdF, bnd, zeV, zaf, zac, zeF, dm, dm1, zQ, zaz, zfy, zfx, zI, Q0, Q1, Q2, Q3, Q4, Q5, zam, zw, zu, zN, zG, Q6, Q7, Q8, Q9, Q10, Q11, Q12, Q13, Q14, Nat.reduceAdd, Q15, Int.reduceToNat, Q16, Q17, Q18, Q19, Q20, reduceIte, Q21, Q22, zC, rep, zV, zfi, toD, zad, Q23, Q24, Q25, Q26, Q27, Q28, Nat.reduceLeDiff, Q29, Nat.reduceSub, Q30, Q31, Q32, sc, Q33, Q34, Q35, Q36, Q37, Q26, Q38, Q39, zmU, zmR, zmO, zmV, zfD, zmS, zmP, zmT, zmQ, zfC, zfE, zmY, zmZ, Bool.not_true, Bool.not_false, List.length_map, Bool.false_eq_true, a] | with_reducible refine zni ?_ | fail); exact h.go) : P := e a ⟨h⟩
theorem zmk (xs : List AV) (n : Nat) (hn : n ≤ 1048576) (h : ArgsOk zgW xs n) : zl Tryz.prog zex xs [] fun r _ => r = .d (.bool true) := by
  obtain ⟨ds, xs1, m1, hf1, hb1, rfl, rfl⟩ := h
  obtain ⟨o, rfl, _⟩ := dec_sop hf1 (by omega)
  show zl Tryz.prog zex [.agg (sopL o)] [] _
  clear hb1 hf1
  obtain ⟨σ, hσ⟩ : ∃ σ : List zc, [] = σ := ⟨_, rfl⟩
  rw [hσ]
  refine ziC zfW.is rfl fun hl _ => zfW.goes ?_
  simp only [zfX, iN, bT, bF, eN, zl0]
  refine zaP ?_
  refine c_begun24 ?_
  refine zaP ?_
  obtain ⟨S0, hS0⟩ : ∃ S0, σ ++ [zc.box (sopL o), zc.box noPubC, zc.row 0 1 [AV.d D.nilp, AV.box (σ.length + 1) 0]] = S0 := ⟨_, rfl⟩
  have l0 : S0.length = σ.length + 3 := by rw [← hS0]; simp
  have g0 : ∀ τ, (S0 ++ τ)[σ.length]? = some (zc.box (sopL o)) := fun τ => zy (by rw [← hS0, zu]; rfl)
  have g1 : ∀ τ, (S0 ++ τ)[σ.length + 1]? = some (.box noPubC) := fun τ => zy (by rw [← hS0, zw]; rfl)
  have g2 : ∀ τ, (S0 ++ τ)[σ.length + 2]? = some (.row 0 1 [AV.d D.nilp, AV.box (σ.length + 1) 0]) := fun τ => zy (by rw [← hS0, zw]; rfl)
  rw [hS0]
  unfold sopL at g0
  refine zae 2 (fun k vs S => vs = [.d (.int .i64 k)] ∧ ∃ T, S = S0 ++ T) ⟨rfl, [], by simp⟩ ?_
  rintro k vs S hk ⟨rfl, T, rfl⟩
  by_cases hlt : k < 2
  · have hd : decide ((k : Int) < ((2 - 0 : Nat) : Int)) = true := by simp; omega
    have hk2 : (k : Int) < ((2 - 0 : Nat) : Int) := by omega
    match k, hlt with
    | 0, h0 =>
      have hxN : ∀ τ, NoQ (S0 ++ τ) (.d .nilp) := fun τ => .inl rfl
      refine gq47 (zj hd (zj g0 g2)) ?_
      refine c_qAsk (o := o.op) (hxN _) ?_
      refine zpX (zj g0 (zj (show (false == false) = true from rfl) (zj (show (true == true) = true from rfl) (zj (show ((0 : Int) != 0) = false from rfl) (zj (show ((0 : Int) == 0) = true from rfl) (zj (show IntKind.i64.wrap (0 + 0) = 0 from rfl) (zj (show (((0 : Nat) : Int)) = 0 from rfl) (zj (show ((2 : Int) != 2) = false from rfl) (zj (show IntKind.i64.wrap (0 + 1) = 1 from rfl) (show IntKind.i64.wrap (1 + 1) = 2 from rfl)))))))))) ?_
      refine c_qWaits (hxN _) ?_
      refine zpX (zj g0 (zj (show (false == false) = true from rfl) (zj (show (true == true) = true from rfl) (zj (show ((0 : Int) != 0) = false from rfl) (zj (show ((0 : Int) == 0) = true from rfl) (zj (show IntKind.i64.wrap (0 + 0) = 0 from rfl) (zj (show (((0 : Nat) : Int)) = 0 from rfl) (zj (show ((2 : Int) != 2) = false from rfl) (zj (show IntKind.i64.wrap (0 + 1) = 1 from rfl) (show IntKind.i64.wrap (1 + 1) = 2 from rfl)))))))))) ?_
      refine c_qLast (hxN _) ?_
      refine zpX (zj g0 (zj (show (false == false) = true from rfl) (zj (show (true == true) = true from rfl) (zj (show ((0 : Int) != 0) = false from rfl) (zj (show ((0 : Int) == 0) = true from rfl) (zj (show IntKind.i64.wrap (0 + 0) = 0 from rfl) (zj (show (((0 : Nat) : Int)) = 0 from rfl) (zj (show ((2 : Int) != 2) = false from rfl) (zj (show IntKind.i64.wrap (0 + 1) = 1 from rfl) (show IntKind.i64.wrap (1 + 1) = 2 from rfl)))))))))) ?_
      refine c_qTake (m := o.m) (hxN _) ?_
      refine zpX (zj g0 (zj (show (false == false) = true from rfl) (zj (show (true == true) = true from rfl) (zj (show ((0 : Int) != 0) = false from rfl) (zj (show ((0 : Int) == 0) = true from rfl) (zj (show IntKind.i64.wrap (0 + 0) = 0 from rfl) (zj (show (((0 : Nat) : Int)) = 0 from rfl) (zj (show ((2 : Int) != 2) = false from rfl) (zj (show IntKind.i64.wrap (0 + 1) = 1 from rfl) (show IntKind.i64.wrap (1 + 1) = 2 from rfl)))))))))) ?_
      refine c_qTick (hxN _) ?_
      refine zpX (zj g0 (zj (show (false == false) = true from rfl) (zj (show (true == true) = true from rfl) (zj (show ((0 : Int) != 0) = false from rfl) (zj (show ((0 : Int) == 0) = true from rfl) (zj (show IntKind.i64.wrap (0 + 0) = 0 from rfl) (zj (show (((0 : Nat) : Int)) = 0 from rfl) (zj (show ((2 : Int) != 2) = false from rfl) (zj (show IntKind.i64.wrap (0 + 1) = 1 from rfl) (show IntKind.i64.wrap (1 + 1) = 2 from rfl)))))))))) ?_
      refine c_qClient (hxN _) ?_
      refine zpX (zj g0 (zj (show (false == false) = true from rfl) (zj (show (true == true) = true from rfl) (zj (show ((0 : Int) != 0) = false from rfl) (zj (show ((0 : Int) == 0) = true from rfl) (zj (show IntKind.i64.wrap (0 + 0) = 0 from rfl) (zj (show (((0 : Nat) : Int)) = 0 from rfl) (zj (show ((2 : Int) != 2) = false from rfl) (zj (show IntKind.i64.wrap (0 + 1) = 1 from rfl) (show IntKind.i64.wrap (1 + 1) = 2 from rfl)))))))))) ?_
      refine c_qTime (hxN _) ?_
      refine zpX (zj g0 (zj (show (false == false) = true from rfl) (zj (show (true == true) = true from rfl) (zj (show ((0 : Int) != 0) = false from rfl) (zj (show ((0 : Int) == 0) = true from rfl) (zj (show IntKind.i64.wrap (0 + 0) = 0 from rfl) (zj (show (((0 : Nat) : Int)) = 0 from rfl) (zj (show ((2 : Int) != 2) = false from rfl) (zj (show IntKind.i64.wrap (0 + 1) = 1 from rfl) (show IntKind.i64.wrap (1 + 1) = 2 from rfl)))))))))) ?_
      refine c_qMany (hxN _) ?_
      refine zpX (zj g0 (zj (show (false == false) = true from rfl) (zj (show (true == true) = true from rfl) (zj (show ((0 : Int) != 0) = false from rfl) (zj (show ((0 : Int) == 0) = true from rfl) (zj (show IntKind.i64.wrap (0 + 0) = 0 from rfl) (zj (show (((0 : Nat) : Int)) = 0 from rfl) (zj (show ((2 : Int) != 2) = false from rfl) (zj (show IntKind.i64.wrap (0 + 1) = 1 from rfl) (show IntKind.i64.wrap (1 + 1) = 2 from rfl)))))))))) ?_
      refine c_qVotes (hxN _) ?_
      refine zpX (zj g0 (zj (show (false == false) = true from rfl) (zj (show (true == true) = true from rfl) (zj (show ((0 : Int) != 0) = false from rfl) (zj (show ((0 : Int) == 0) = true from rfl) (zj (show IntKind.i64.wrap (0 + 0) = 0 from rfl) (zj (show (((0 : Nat) : Int)) = 0 from rfl) (zj (show ((2 : Int) != 2) = false from rfl) (zj (show IntKind.i64.wrap (0 + 1) = 1 from rfl) (show IntKind.i64.wrap (1 + 1) = 2 from rfl)))))))))) ?_
      refine c_qClone (hxN _) ?_
      refine zpX (zj g0 (zj (show (false == false) = true from rfl) (zj (show (true == true) = true from rfl) (zj (show ((0 : Int) != 0) = false from rfl) (zj (show ((0 : Int) == 0) = true from rfl) (zj (show IntKind.i64.wrap (0 + 0) = 0 from rfl) (zj (show (((0 : Nat) : Int)) = 0 from rfl) (zj (show ((2 : Int) != 2) = false from rfl) (zj (show IntKind.i64.wrap (0 + 1) = 1 from rfl) (show IntKind.i64.wrap (1 + 1) = 2 from rfl)))))))))) ?_
      exact zdE.next h0 ⟨rfl, _, rfl⟩
    | 1, h0 =>
      have hxN : ∀ τ, NoQ (S0 ++ τ) (.box (σ.length + 1) 0) := fun τ => .inr ⟨_, rfl, g1 τ⟩
      refine gq47 (zj hd (zj g0 g2)) ?_
      refine c_qAsk (o := o.op) (hxN _) ?_
      refine zpX (zj g0 (zj (show (false == false) = true from rfl) (zj (show (true == true) = true from rfl) (zj (show ((0 : Int) != 0) = false from rfl) (zj (show ((0 : Int) == 0) = true from rfl) (zj (show IntKind.i64.wrap (0 + 0) = 0 from rfl) (zj (show (((0 : Nat) : Int)) = 0 from rfl) (zj (show ((2 : Int) != 2) = false from rfl) (zj (show IntKind.i64.wrap (0 + 1) = 1 from rfl) (show IntKind.i64.wrap (1 + 1) = 2 from rfl)))))))))) ?_
      refine c_qWaits (hxN _) ?_
      refine zpX (zj g0 (zj (show (false == false) = true from rfl) (zj (show (true == true) = true from rfl) (zj (show ((0 : Int) != 0) = false from rfl) (zj (show ((0 : Int) == 0) = true from rfl) (zj (show IntKind.i64.wrap (0 + 0) = 0 from rfl) (zj (show (((0 : Nat) : Int)) = 0 from rfl) (zj (show ((2 : Int) != 2) = false from rfl) (zj (show IntKind.i64.wrap (0 + 1) = 1 from rfl) (show IntKind.i64.wrap (1 + 1) = 2 from rfl)))))))))) ?_
      refine c_qLast (hxN _) ?_
      refine zpX (zj g0 (zj (show (false == false) = true from rfl) (zj (show (true == true) = true from rfl) (zj (show ((0 : Int) != 0) = false from rfl) (zj (show ((0 : Int) == 0) = true from rfl) (zj (show IntKind.i64.wrap (0 + 0) = 0 from rfl) (zj (show (((0 : Nat) : Int)) = 0 from rfl) (zj (show ((2 : Int) != 2) = false from rfl) (zj (show IntKind.i64.wrap (0 + 1) = 1 from rfl) (show IntKind.i64.wrap (1 + 1) = 2 from rfl)))))))))) ?_
      refine c_qTake (m := o.m) (hxN _) ?_
      refine zpX (zj g0 (zj (show (false == false) = true from rfl) (zj (show (true == true) = true from rfl) (zj (show ((0 : Int) != 0) = false from rfl) (zj (show ((0 : Int) == 0) = true from rfl) (zj (show IntKind.i64.wrap (0 + 0) = 0 from rfl) (zj (show (((0 : Nat) : Int)) = 0 from rfl) (zj (show ((2 : Int) != 2) = false from rfl) (zj (show IntKind.i64.wrap (0 + 1) = 1 from rfl) (show IntKind.i64.wrap (1 + 1) = 2 from rfl)))))))))) ?_
      refine c_qTick (hxN _) ?_
      refine zpX (zj g0 (zj (show (false == false) = true from rfl) (zj (show (true == true) = true from rfl) (zj (show ((0 : Int) != 0) = false from rfl) (zj (show ((0 : Int) == 0) = true from rfl) (zj (show IntKind.i64.wrap (0 + 0) = 0 from rfl) (zj (show (((0 : Nat) : Int)) = 0 from rfl) (zj (show ((2 : Int) != 2) = false from rfl) (zj (show IntKind.i64.wrap (0 + 1) = 1 from rfl) (show IntKind.i64.wrap (1 + 1) = 2 from rfl)))))))))) ?_
      refine c_qClient (hxN _) ?_
      refine zpX (zj g0 (zj (show (false == false) = true from rfl) (zj (show (true == true) = true from rfl) (zj (show ((0 : Int) != 0) = false from rfl) (zj (show ((0 : Int) == 0) = true from rfl) (zj (show IntKind.i64.wrap (0 + 0) = 0 from rfl) (zj (show (((0 : Nat) : Int)) = 0 from rfl) (zj (show ((2 : Int) != 2) = false from rfl) (zj (show IntKind.i64.wrap (0 + 1) = 1 from rfl) (show IntKind.i64.wrap (1 + 1) = 2 from rfl)))))))))) ?_
      refine c_qTime (hxN _) ?_
      refine zpX (zj g0 (zj (show (false == false) = true from rfl) (zj (show (true == true) = true from rfl) (zj (show ((0 : Int) != 0) = false from rfl) (zj (show ((0 : Int) == 0) = true from rfl) (zj (show IntKind.i64.wrap (0 + 0) = 0 from rfl) (zj (show (((0 : Nat) : Int)) = 0 from rfl) (zj (show ((2 : Int) != 2) = false from rfl) (zj (show IntKind.i64.wrap (0 + 1) = 1 from rfl) (show IntKind.i64.wrap (1 + 1) = 2 from rfl)))))))))) ?_
      refine c_qMany (hxN _) ?_
      refine zpX (zj g0 (zj (show (false == false) = true from rfl) (zj (show (true == true) = true from rfl) (zj (show ((0 : Int) != 0) = false from rfl) (zj (show ((0 : Int) == 0) = true from rfl) (zj (show IntKind.i64.wrap (0 + 0) = 0 from rfl) (zj (show (((0 : Nat) : Int)) = 0 from rfl) (zj (show ((2 : Int) != 2) = false from rfl) (zj (show IntKind.i64.wrap (0 + 1) = 1 from rfl) (show IntKind.i64.wrap (1 + 1) = 2 from rfl)))))))))) ?_
      refine c_qVotes (hxN _) ?_
      refine zpX (zj g0 (zj (show (false == false) = true from rfl) (zj (show (true == true) = true from rfl) (zj (show ((0 : Int) != 0) = false from rfl) (zj (show ((0 : Int) == 0) = true from rfl) (zj (show IntKind.i64.wrap (0 + 0) = 0 from rfl) (zj (show (((0 : Nat) : Int)) = 0 from rfl) (zj (show ((2 : Int) != 2) = false from rfl) (zj (show IntKind.i64.wrap (0 + 1) = 1 from rfl) (show IntKind.i64.wrap (1 + 1) = 2 from rfl)))))))))) ?_
      refine c_qClone (hxN _) ?_
      refine zpX (zj g0 (zj (show (false == false) = true from rfl) (zj (show (true == true) = true from rfl) (zj (show ((0 : Int) != 0) = false from rfl) (zj (show ((0 : Int) == 0) = true from rfl) (zj (show IntKind.i64.wrap (0 + 0) = 0 from rfl) (zj (show (((0 : Nat) : Int)) = 0 from rfl) (zj (show ((2 : Int) != 2) = false from rfl) (zj (show IntKind.i64.wrap (0 + 1) = 1 from rfl) (show IntKind.i64.wrap (1 + 1) = 2 from rfl)))))))))) ?_
      exact zdE.next h0 ⟨rfl, _, rfl⟩
  · have hd : decide ((k : Int) < ((2 - 0 : Nat) : Int)) = false := by simp; omega
    refine zbi (zj hd g0) ?_
    obtain ⟨S1, hS1⟩ : ∃ S1, S0 ++ T = S1 := ⟨_, rfl⟩
    have k1 : S1.take σ.length = σ := by rw [← hS1, ← hS0, List.append_assoc]; simp
    rw [hS1]
    refine ziA ?_
    refine zaP ?_
    refine c_pNewNilT ?_
    refine zaP ?_
    refine zmA ?_
    obtain ⟨S2, hS2⟩ : ∃ S2, S1 ++ ledO S1.length [] = S2 := ⟨_, rfl⟩
    obtain ⟨S3, hS3⟩ : ∃ S3, S2 ++ tabO S2.length [] = S3 := ⟨_, rfl⟩
    have hT3 : zdT S3 (S2.length + 1) S2.length (S2.length + 2) [] := by
      rw [← hS3]
      exact ⟨by rw [zw]; rfl, by rw [zu]; rfl, by rw [zw]; rfl⟩
    rw [hS2, hS3]
    refine zaP ?_
    refine c_pNewNilG hT3 ?_
    refine gq49 (zj (show (false == false) = true from rfl) (zj (show (true == true) = true from rfl) (show ((2 : Int) == 2) = true from rfl))) ?_
    exact zmq (by rw [← hσ]; rfl) (by simp [zhZ, dmT, dm, dm1, zdg]) hl rfl
end Go.Proofs.YtdgcepphjnoalaaGreat
