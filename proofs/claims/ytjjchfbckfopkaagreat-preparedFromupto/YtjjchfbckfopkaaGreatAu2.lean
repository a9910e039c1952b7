/- Contracts: votes, the program's. -/
import Derived.Test.YtjjchfbckfopkaaGreatId5
import Derived.Test.YtjjchfbckfopkaaGreatSpNum
import Derived.Test.YtjjchfbckfopkaaGreatSh
import Derived.Test.YtjjchfbckfopkaaGreatAwEnd
set_option linter.all false
set_option maxRecDepth 100000
set_option linter.unusedSimpArgs false
set_option linter.unusedVariables false
namespace Go.Proofs.YtjjchfbckfopkaaGreat
open Go.AW

theorem may_all {a b c d : Int} (h : znE a b c d = true) : ∀ x ∈ [a, b, c, d], 0 ≤ x ∧ x ≤ 9007199254740992 := by
  rw [mayV_all, List.all_eq_true] at h
  exact fun x hx => zmC.1 (h x hx)
theorem zpT {σ : List zb} {a b c d : Int} (h : znE a b c d = true) {K : AV → List zb → Prop} (hK : K (.d (.slice (bcs (zhm a b c d)))) σ) :
    zp Tryz.prog zeG [.d (.int .i64 a), .d (.int .i64 b), .d (.int .i64 c), .d (.int .i64 d)] σ K := by
  refine acE4 zlW fun hl => ?_
  simp only [zhc, iN, bT, bF, eN]
  refine gq1 ?_
  refine c_auPut (b := [4]) (l := [a, b, c, d]) (by simp) (by simp) (may_all h) ?_
  refine gq1 ?_
  refine zad hl ?_
  exact hK
theorem c_auMade {σ : List zb} {id m t id2 m2 t2 : Nat} {l : List (List UInt8)} {g : List zM} (hT : zcW σ id m t l) (hG : zcY σ id2 m2 t2 g) (hL : TabI l) (hg : g.length ≤ 1073741824) {K : AV → List zb → Prop}
    (hK : K (.d (.bool true)) σ) : zp Tryz.prog ziQ [.box id 0, .box id2 0] σ K := by
  refine zgK e_auth_made fun hl => ?_
  simp only [znB, iN, bT, bF, eN]
  refine gq1 ?_
  refine c_tClone hT hL.nd hL.len hL.each ?_
  refine gq1 ?_
  refine c_gClone (hG.app _) hg fun g' => ?_
  refine gq1 ?_
  refine zad hl ?_
  exact hK
theorem c_auSigned {σ : List zb} {id m t id2 m2 t2 : Nat} {L : List (List UInt8)} {G : List zM} {s : zM} {key : Int} {b : List UInt8} (hT : zcW σ id m t L) (hG : zcY σ id2 m2 t2 G) {K : AV → List zb → Prop}
    (hK : K (.d (.bool (ziM L G s key b))) σ) : zp Tryz.prog zgF [.box id 0, .box id2 0, .agg [.d (.int .i64 s.key), .d (.int .i64 s.dig)], .d (.int .i64 key), .d (.slice (bcs b))] σ K := by
  refine acE5 zpG fun hl => ?_
  have hT1 := fun τ => hT.app τ
  have hG1 := fun τ => hG.app τ
  simp only [zkd, iN, bT, bF, eN]
  refine gq1 ?_
  refine zpL (hT1 _) ?_
  have fin : ∀ z, ziM L G s key b = z → K (.d (.bool z)) σ := fun z h => h ▸ hK
  clear hK
  cases hlk : zdM L b with
  | none =>
    refine gq5 ?_
    refine zad hl ?_
    exact fin _ (by simp [ziM, hlk])
  | some i =>
    simp only [zpn]
    cases h1 : (s.key == key)
    · refine gq8 h1 ?_
      refine zad hl ?_
      exact fin _ (by simp at h1; simp [ziM, hlk, h1])
    · cases h2 : (s.dig == ((i + 1 : Nat) : Int))
      · refine gq8 (zi h1 h2) ?_
        refine zad hl ?_
        exact fin _ (by simp at h1 h2; simp [ziM, hlk, h1]; omega)
      · refine gq8 (zi h1 h2) ?_
        refine c_gSigned (s := s) (hG1 _) ?_
        refine gq1 ?_
        refine zad hl ?_
        exact fin _ (by simp at h1 h2; simp [ziM, hlk, h1, h2])
theorem zjQ {σ : List zb} {id m t id2 m2 t2 : Nat} {L : List (List UInt8)} {G : List zM} {s : zM} {key a b c d : Int} (hT : zcW σ id m t L) (hG : zcY σ id2 m2 t2 G) (hL : TabI L) (hg : G.length ≤ 1073741824) {K : AV → List zb → Prop}
    (hK : K (.d (.bool (zkU L G s key a b c d))) σ) :
    zp Tryz.prog zdg [.box id 0, .box id2 0, .agg [.d (.int .i64 s.key), .d (.int .i64 s.dig)], .d (.int .i64 key), .d (.int .i64 a), .d (.int .i64 b), .d (.int .i64 c), .d (.int .i64 d)] σ K := by
  refine acE8 zlX fun hl => ?_
  simp only [zhd, iN, bT, bF, eN]
  refine gq1 ?_
  refine c_auMade (hT.app _) (hG.app _) hL hg ?_
  refine gq1 ?_
  refine c_auMay ?_
  cases hm : znE a b c d
  · rw [zkU, hm, Bool.false_and] at hK
    refine gq1 ?_
    refine zad hl ?_
    exact hK
  · rw [zkU, hm, Bool.true_and] at hK
    refine gq1 ?_
    refine zpT hm ?_
    refine gq1 ?_
    refine c_auSigned (s := s) (hT.app _) (hG.app _) ?_
    refine gq1 ?_
    refine zad hl ?_
    exact hK
end Go.Proofs.YtjjchfbckfopkaaGreat

/- What a new view goes on with. No program in sight. -/
set_option linter.unusedSimpArgs false
namespace Go.AW

def zhD (f : Int) : Int := if f < 1 ∨ f > 4 then 120 else 0
def zkV (n f : Int) : Int := if f < 1 ∨ f > 4 then 0 else n * f + 1
end Go.AW

/- Contracts: how many brokers there are, and a quorum has. -/
set_option maxRecDepth 100000
set_option linter.unusedSimpArgs false
namespace Go.Proofs.YtjjchfbckfopkaaGreat
open Go.AW

theorem gqc4 {A B : Prop} (a : A) (b : B) : A ∧ B := ⟨a, b⟩
theorem gq38 {A P Q : Prop} (a : A) (h : Q) (e : A → P = Q := by intro a; simp -dsimp only [↓zex, ↓zav, ↓zbj, ↓zey, ↓zer, ↓zep, ↓zes, ↓zeq, ↓zbo, ↓zbk, ↓zbp, ↓zbl, ↓zet, ↓zbh, ↓zbq, ↓zbm, ↓zbr, ↓zbn, ↓zem, ↓zew, ↓zbg, ↓zbt, ↓zeh, ↓zeg, ↓zel, iN, bT, bF, eN, ↓zcm, ↓unC, ↓zU, ↓zE, ↓zF, ↓zK, ↓zab, ↓zaA, ↓zct, ↓zY, ↓zbd, ↓zX, ↓zj, ↓zq, ↓zbI, ↓zf, ↓zac, ↓zJ, ↓zaB, ↓zaK, ↓zd, ↓zD, ↓zn, ↓zr, ↓zal, ↓zcE, ↓zcM, ↓zak, ↓zas, ↓zaG, ↓zaM, ↓zaS, ↓zl, ↓zae, ↓zG, ↓zo, ↓zZ, zcK, zbc, zba, unA, zcS, bnd, zdq, zaa, zai, zdr, dm, dm1, zP, zaC, zdL, zdK, zT, Q0, Q1, Q2, Q3, Q4, Q5, zS, zh, zm, zw, zA, Q6, Q7, Q8, Q9, Q10, Q11, Q12, Q13, Q14, Nat.reduceAdd, Q15, Int.reduceToNat, Q16, Q17, Q18, Q19, Q20, reduceIte, Q21, Q22, zx, rep, zV, zei, toD, zaf, Q23, Q24, Q25, Q26, Q27, Q28, Nat.reduceLeDiff, Q29, Nat.reduceSub, Q30, Q31, Q32, sc, Q33, Q34, Q35, a]; rfl) : P := (e a).mpr h
theorem znm {σ : List zb} {f : Int} {K : AV → List zb → Prop} (hK : K (.d (.int .i64 (zhD f))) σ) : zp Tryz.prog zcV [.d (.int .i64 f)] σ K := by
  refine zil znS fun hl => ?_
  simp only [ziJ, iN, bT, bF, eN]
  cases h1 : decide (f < 1) <;> cases h2 : decide (f > 4)
  all_goals
    (refine gq38 (gqc4 h1 h2) ?_; try with_reducible exact True.intro)
    refine zad hl ?_
    simp only [decide_eq_true_eq, decide_eq_false_iff_not] at h1 h2
  · rw [zhD, if_neg (by omega)] at hK; exact hK
  all_goals (rw [zhD, if_pos (by omega)] at hK; exact hK)
theorem gq39 {P Q : Prop} (h : Q) (e : P = Q := by simp -dsimp only [↓zex, ↓zav, ↓zbj, ↓zey, ↓zer, ↓zep, ↓zes, ↓zeq, ↓zbo, ↓zbk, ↓zbp, ↓zbl, ↓zet, ↓zbh, ↓zbq, ↓zbm, ↓zbr, ↓zbn, ↓zem, ↓zew, ↓zbg, ↓zbt, ↓zeh, ↓zeg, ↓zel, iN, bT, bF, eN, ↓zcm, ↓unC, ↓zU, ↓zE, ↓zF, ↓zK, ↓zab, ↓zaA, ↓zct, ↓zY, ↓zbd, ↓zX, ↓zj, ↓zq, ↓zbI, ↓zf, ↓zac, ↓zJ, ↓zaB, ↓zaK, ↓zd, ↓zD, ↓zn, ↓zr, ↓zal, ↓zcE, ↓zcM, ↓zak, ↓zas, ↓zaG, ↓zaM, ↓zaS, ↓zl, ↓zae, ↓zG, ↓zo, ↓zZ, zcK, zbc, zba, unA, zcS, bnd, zdq, zaa, zai, zdr, dm, dm1, zP, zaC, zdL, zdK, zT, Q0, Q1, Q2, Q3, Q4, Q5, zS, zh, zm, zw, zA, Q6, Q7, Q8, Q9, Q10, Q11, Q12, Q13, Q14, Nat.reduceAdd, Q15, Int.reduceToNat, Q16, Q17, Q18, Q19, Q20, reduceIte, Q21, Q22, zx, rep, zV, zei, toD, zaf, Q23, Q24, Q25, Q26, Q27, Q28, Nat.reduceLeDiff, Q29, Nat.reduceSub, Q30, Q31, Q32, sc, Q33, Q34, Q35]; rfl) : P := e.mpr h
theorem c_times {σ : List zb} {n f : Int} (hn : 0 ≤ n ∧ n ≤ 3) {K : AV → List zb → Prop} (hK : K (.d (.int .i64 (zkV n f))) σ) : zp Tryz.prog zfS [.d (.int .i64 n), .d (.int .i64 f)] σ K := by
  refine zgK znR fun hl => ?_
  simp only [ziI, iN, bT, bF, eN]
  (refine gq39 ?_; try with_reducible exact True.intro)
  refine znm ?_
  by_cases h : f < 1 ∨ f > 4
  · rw [zkV, if_pos h] at hK
    rw [zhD, if_pos h]
    (refine gq38 (show ((120 : Int) != 0) = true from rfl) ?_; try with_reducible exact True.intro)
    refine zad hl ?_
    exact hK
  · rw [zkV, if_neg h] at hK
    rw [zhD, if_neg h]
    have h1 : 0 ≤ n * f := Int.mul_nonneg hn.1 (by omega)
    have h2 : n * f ≤ 3 * 4 := Int.mul_le_mul hn.2 (by omega) (by omega) (by omega)
    have w1 : IntKind.i64.wrap (n * f) = n * f := zan (by omega) (by omega)
    have w2 : IntKind.i64.wrap (n * f + 1) = n * f + 1 := zan (by omega) (by omega)
    (refine gq38 (gqc4 (show ((0 : Int) != 0) = false from rfl) (gqc4 w1 w2)) ?_; try with_reducible exact True.intro)
    refine zad hl ?_
    exact hK
theorem znn {σ : List zb} {f : Int} {K : AV → List zb → Prop} (hK : K (.d (.int .i64 (zkV 3 f))) σ) : zp Tryz.prog zdb [.d (.int .i64 f)] σ K := by
  refine zil zlS fun hl => ?_
  simp only [zgV, iN, bT, bF, eN]
  (refine gq39 ?_; try with_reducible exact True.intro)
  refine c_times (by omega) ?_
  (refine gq39 ?_; try with_reducible exact True.intro)
  refine zad hl ?_
  exact hK
end Go.Proofs.YtjjchfbckfopkaaGreat
