/- Contracts: what a new view goes on with, by the reference. -/
import Derived.Test.YtpgahkdjkanblaaGreatNv2
import Derived.Test.YtpgahkdjkanblaaGreatSpOp
set_option linter.all false
set_option maxRecDepth 100000
set_option linter.unusedSimpArgs false
set_option linter.unusedVariables false
namespace Go.Proofs.YtpgahkdjkanblaaGreat
open Go.AW

end Go.Proofs.YtpgahkdjkanblaaGreat

/- What holds little has short lists. No program in sight. -/
set_option linter.unusedSimpArgs false
namespace Go.AW

theorem zgR {α : Type} {f : α → List D} (h : ∀ a, 1 ≤ zdH (f a)) : ∀ (l : List α), l.length ≤ zec (l.map f)
  | [] => Nat.zero_le _
  | a :: l => by have := h a; have := zgR h l; simp only [List.map_cons, List.length_cons, zec]; omega
theorem zfB {α : Type} {f : α → List D} {a : α} : ∀ {l : List α}, a ∈ l → zdH (f a) ≤ zec (l.map f)
  | b :: l, h => by
    simp only [List.map_cons, zec]
    rcases List.mem_cons.1 h with rfl | h
    · omega
    · have := zfB (f := f) h; omega
theorem znM (rs : List (List UInt8)) : rs.length ≤ zec (zeT rs) ∧ ∀ r ∈ rs, r.length ≤ zec (zeT rs) := by
  refine ⟨zgR (f := fun r => [D.slice (bcs r)]) (fun r => by simp only [zdH, zhp]; omega) rs, fun r hr => ?_⟩
  have := zfB (f := fun r => [D.slice (bcs r)]) hr
  simp only [zdH, zhp, bulk_bcs] at this
  unfold zeT
  omega
def leB (n : Nat) (b : List zu) : Prop := b.length ≤ n ∧ ∀ x ∈ b, x.op.recs.length ≤ n ∧ ∀ r ∈ x.op.recs, r.length ≤ n
theorem leB_bulk {b : List zu} {n : Nat} (h : zec (zbo b) ≤ n) : leB n b := by
  unfold zbo at h
  refine ⟨Nat.le_trans (zgR (f := zaM) (fun a => by simp only [zaM, zdH, zhp]; omega) b) h, fun x hx => ?_⟩
  have := zfB (f := zaM) hx
  simp only [zaM, zdH, zhp] at this
  have h2 := znM x.op.recs
  refine ⟨by omega, fun r hr => ?_⟩
  have := h2.2 r hr
  omega
def leP (n : Nat) (p : zbW) : Prop := p.signs.length ≤ n ∧ leB n p.batch
theorem zqi (l : List zP) : l.length ≤ zec (zas l) := zgR (f := zeS) (fun a => by simp only [zeS, zdH, zhp]; omega) l
theorem leP_bulk {p : zbW} {n : Nat} (h : zdH (zeV p) ≤ n) : leP n p := by
  simp only [zeV, zdH, zhp] at h
  have := zqi p.signs
  exact ⟨by omega, leB_bulk (by omega)⟩
theorem leC_bulk {cs : List zaa} {n : Nat} (h : zec (zaP cs) ≤ n) : cs.length ≤ n ∧ ∀ c ∈ cs, c.cert.signs.length ≤ n ∧ c.above.length ≤ n ∧ ∀ p ∈ c.above, leP n p := by
  unfold zaP at h
  refine ⟨Nat.le_trans (zgR (f := zbm) (fun a => by simp only [zbm, zdH, zhp]; omega) cs) h, fun c hc => ?_⟩
  have := zfB (f := zbm) hc
  simp only [zbm, zdH, zhp] at this
  have h1 := zqi c.cert.signs
  have h2 := zgR (f := zeV) (fun a => by simp only [zeV, zdH, zhp]; omega) c.above
  refine ⟨by omega, by unfold zfI at this; omega, fun p hp => leP_bulk ?_⟩
  have := zfB (f := zeV) hp
  unfold zfI at *
  omega
end Go.AW

/- The laws NewviewSelects and NewviewGaps, from the contracts. -/
set_option maxRecDepth 100000
set_option linter.unusedSimpArgs false
set_option linter.unusedVariables false
namespace Go.Proofs.YtpgahkdjkanblaaGreat
open Go.AW

def one16 : List zu := [⟨1, 1, noOp, 14, 1⟩]
def l16 : List zaa := [⟨0, 0, zoO, [⟨0, 1, 0, 0, 0, [], one16⟩, ⟨0, 3, 0, 0, 0, [], []⟩], 0, 0⟩, ⟨0, 1, zoO, [], 0, 0⟩, ⟨0, 3, zoO, [⟨1, 3, 0, 0, 0, [], one16⟩], 0, 0⟩]
theorem sel16 : selF 1 2 l16 = (zoO, [⟨2, 1, one16, 0, 0⟩, ⟨2, 2, [], 0, 0⟩, ⟨2, 3, one16, 0, 0⟩], 0) := by decide +kernel
theorem small16 : smallC l16 := by simp [smallC, l16, zhF, one16, zoO, noOp]
theorem range16 : ∀ c ∈ l16, zmE c := by simp [l16, zmE, prepR, zny, zoO]
theorem gq24 {P Q : Prop} (h : Q) (e : P = Q := by simp -dsimp only [↓zey, ↓zay, ↓zbs, ↓zez, ↓zeu, ↓zes, ↓zev, ↓zet, ↓zbx, ↓zbt, ↓zby, ↓zbu, ↓zew, ↓zbr, ↓zbz, ↓zbv, ↓zbA, ↓zbw, ↓zer, ↓zex, ↓zbp, ↓zbB, ↓zep, ↓zeo, ↓zeq, iN, bT, bF, eN, ↓zcv, ↓unC, ↓zU, ↓zI, ↓zJ, ↓zM, ↓zX, ↓zal, ↓zcX, ↓zai, ↓zaJ, ↓zW, ↓zg, ↓zn, ↓zbP, ↓zb, ↓zaf, ↓zD, ↓zaI, ↓zaQ, ↓zd, ↓zF, ↓zj, ↓zG, ↓zam, ↓zdc, ↓zdj, ↓zak, ↓zau, ↓zaL, ↓zaY, ↓zbh, ↓zo, ↓zaj, ↓zK, ↓zr, ↓zV, zdk, zbn, zbk, unA, zdu, bnd, zdG, zae, zO, zdW, dm, dm1, zR, zaF, zea, zdZ, zw, Q0, Q1, Q2, Q3, Q4, Q5, zY, zC, zt, zN, zE, Q6, Q7, Q8, Q9, Q10, Q11, Q12, Q13, Q14, Nat.reduceAdd, Q15, Int.reduceToNat, Q16, Q17, Q18, Q19, Q20, reduceIte, Q21, Q22, zA, rep, zZ, zeB, toD, zap, Q23, Q24, Q25, Q26, Q27, Q28, Nat.reduceLeDiff, Q29, Nat.reduceSub, Q30, Q31, Q32, sc, Q33, Q34, Q35, beq_self_eq_true, Bool.not_false, Bool.not_true, bne_self_eq_false]; rfl) : P := e.mpr h
theorem gq25 {A P Q : Prop} (a : A) (h : Q) (e : A → P = Q := by intro a; simp -dsimp only [↓zey, ↓zay, ↓zbs, ↓zez, ↓zeu, ↓zes, ↓zev, ↓zet, ↓zbx, ↓zbt, ↓zby, ↓zbu, ↓zew, ↓zbr, ↓zbz, ↓zbv, ↓zbA, ↓zbw, ↓zer, ↓zex, ↓zbp, ↓zbB, ↓zep, ↓zeo, ↓zeq, iN, bT, bF, eN, ↓zcv, ↓unC, ↓zU, ↓zI, ↓zJ, ↓zM, ↓zX, ↓zal, ↓zcX, ↓zai, ↓zaJ, ↓zW, ↓zg, ↓zn, ↓zbP, ↓zb, ↓zaf, ↓zD, ↓zaI, ↓zaQ, ↓zd, ↓zF, ↓zj, ↓zG, ↓zam, ↓zdc, ↓zdj, ↓zak, ↓zau, ↓zaL, ↓zaY, ↓zbh, ↓zo, ↓zaj, ↓zK, ↓zr, ↓zV, zdk, zbn, zbk, unA, zdu, bnd, zdG, zae, zO, zdW, dm, dm1, zR, zaF, zea, zdZ, zw, Q0, Q1, Q2, Q3, Q4, Q5, zY, zC, zt, zN, zE, Q6, Q7, Q8, Q9, Q10, Q11, Q12, Q13, Q14, Nat.reduceAdd, Q15, Int.reduceToNat, Q16, Q17, Q18, Q19, Q20, reduceIte, Q21, Q22, zA, rep, zZ, zeB, toD, zap, Q23, Q24, Q25, Q26, Q27, Q28, Nat.reduceLeDiff, Q29, Nat.reduceSub, Q30, Q31, Q32, sc, Q33, Q34, Q35, beq_self_eq_true, Bool.not_false, Bool.not_true, bne_self_eq_false, a]; rfl) : P := (e a).mpr h
theorem ztk {σ : List zf} {K : KT} (hK : K (.d (.bool true)) σ) : zm Tryz.prog zkW [] σ K := by
  refine zc zsW.is rfl fun hl _ => zsW.goes ?_
  simp only [ztM, iN, bT, bF, eN]
  (refine gq24 ?_; try with_reducible exact True.intro)
  have key : ∃ B1 : List (List D), B1.length = 1 ∧ ∀ (σ : List zf) (K : KT), K (.tup [.agg [.d (.int .i64 0), .d (.int .i64 0), .d (.slice [])], .d (.slice [[.int .i64 2, .int .i64 1, .slice B1, .int .i64 0, .int .i64 0], [.int .i64 2, .int .i64 2, .slice [], .int .i64 0, .int .i64 0], [.int .i64 2, .int .i64 3, .slice B1, .int .i64 0, .int .i64 0]]), .d (.int .i64 0)]) σ → zm Tryz.prog zfk [.d (.int .i64 1), .d (.int .i64 2), .d (.slice (zaP l16))] σ K := by
    refine ⟨zbo one16, rfl, fun σ K hK => ?_⟩
    refine c_nvSelect small16 range16 ?_
    rw [sel16]
    exact hK
  obtain ⟨B1, hB1, key⟩ := key
  refine key _ _ ?_
  clear key
  have hB2 : ((B1.length : Int) == 1) = true := by rw [hB1]; rfl
  have e3 : (((3 : Nat) : Int) == 3) = true := rfl
  have e0 : (((0 : Nat) : Int) == 0) = true := rfl
  (refine gq25 (zB e3 (zB e0 hB2)) ?_; try with_reducible exact True.intro)
  refine ⟨by omega, by omega, by omega, by omega, by omega, ?_⟩
  refine zq hl ?_
  exact hK
end Go.Proofs.YtpgahkdjkanblaaGreat
