/- Contracts: votes, the program's. -/
import Derived.Test.YtjjchfbckfopkaaGreatId5
import Derived.Test.YtjjchfbckfopkaaGreatSpNum
import Derived.Test.YtjjchfbckfopkaaGreatSh
import Derived.Test.YtjjchfbckfopkaaGreatAwEnd
set_option linter.all false
set_option maxRecDepth 100000
set_option linter.unusedSimpArgs false
set_option linter.unusedVariables false
namespace Go.Proofs.YtjjchfbckfopkaaGreat
open Go.AW

theorem may_all {a b c d : Int} (h : znU a b c d = true) : ∀ x ∈ [a, b, c, d], 0 ≤ x ∧ x ≤ 9007199254740992 := by
  rw [mayV_all, List.all_eq_true] at h
  exact fun x hx => zmT.1 (h x hx)
theorem zqg {σ : List zb} {a b c d : Int} (h : znU a b c d = true) {K : AV → List zb → Prop} (hK : K (.d (.slice (bcs (zhB a b c d)))) σ) :
    zt Tryz.prog zeT [.d (.int .i64 a), .d (.int .i64 b), .d (.int .i64 c), .d (.int .i64 d)] σ K := by
  refine acE4 zmo fun hl => ?_
  simp only [zht, iN, bT, bF, eN]
  refine gq1 ?_
  refine c_auPut (b := [4]) (l := [a, b, c, d]) (by simp) (by simp) (may_all h) ?_
  refine gq1 ?_
  refine zam hl ?_
  exact hK
theorem c_auMade {σ : List zb} {id m t id2 m2 t2 : Nat} {l : List (List UInt8)} {g : List zP} (hT : zde σ id m t l) (hG : zdg σ id2 m2 t2 g) (hL : TabI l) (hg : g.length ≤ 1073741824) {K : AV → List zb → Prop}
    (hK : K (.d (.bool true)) σ) : zt Tryz.prog zjl [.box id 0, .box id2 0] σ K := by
  refine zhh e_auth_made fun hl => ?_
  simp only [znR, iN, bT, bF, eN]
  refine gq1 ?_
  refine c_tClone hT hL.nd hL.len hL.each ?_
  refine gq1 ?_
  refine c_gClone (hG.app _) hg fun g' => ?_
  refine gq1 ?_
  refine zam hl ?_
  exact hK
theorem c_auSigned {σ : List zb} {id m t id2 m2 t2 : Nat} {L : List (List UInt8)} {G : List zP} {s : zP} {key : Int} {b : List UInt8} (hT : zde σ id m t L) (hG : zdg σ id2 m2 t2 G) {K : AV → List zb → Prop}
    (hK : K (.d (.bool (zjg L G s key b))) σ) : zt Tryz.prog zgT [.box id 0, .box id2 0, .agg [.d (.int .i64 s.key), .d (.int .i64 s.dig)], .d (.int .i64 key), .d (.slice (bcs b))] σ K := by
  refine acE5 zpT fun hl => ?_
  have hT1 := fun τ => hT.app τ
  have hG1 := fun τ => hG.app τ
  simp only [zkE, iN, bT, bF, eN]
  refine gq1 ?_
  refine zpX (hT1 _) ?_
  have fin : ∀ z, zjg L G s key b = z → K (.d (.bool z)) σ := fun z h => h ▸ hK
  clear hK
  cases hlk : zeb L b with
  | none =>
    refine gq5 ?_
    refine zam hl ?_
    exact fin _ (by simp [zjg, hlk])
  | some i =>
    simp only [numOf]
    cases h1 : (s.key == key)
    · refine gq8 h1 ?_
      refine zam hl ?_
      exact fin _ (by simp at h1; simp [zjg, hlk, h1])
    · cases h2 : (s.dig == ((i + 1 : Nat) : Int))
      · refine gq8 (zj h1 h2) ?_
        refine zam hl ?_
        exact fin _ (by simp at h1 h2; simp [zjg, hlk, h1]; omega)
      · refine gq8 (zj h1 h2) ?_
        refine c_gSigned (s := s) (hG1 _) ?_
        refine gq1 ?_
        refine zam hl ?_
        exact fin _ (by simp at h1 h2; simp [zjg, hlk, h1, h2])
theorem zkr {σ : List zb} {id m t id2 m2 t2 : Nat} {L : List (List UInt8)} {G : List zP} {s : zP} {key a b c d : Int} (hT : zde σ id m t L) (hG : zdg σ id2 m2 t2 G) (hL : TabI L) (hg : G.length ≤ 1073741824) {K : AV → List zb → Prop}
    (hK : K (.d (.bool (zlu L G s key a b c d))) σ) :
    zt Tryz.prog zdn [.box id 0, .box id2 0, .agg [.d (.int .i64 s.key), .d (.int .i64 s.dig)], .d (.int .i64 key), .d (.int .i64 a), .d (.int .i64 b), .d (.int .i64 c), .d (.int .i64 d)] σ K := by
  refine acE8 zmp fun hl => ?_
  simp only [zhu, iN, bT, bF, eN]
  refine gq1 ?_
  refine c_auMade (hT.app _) (hG.app _) hL hg ?_
  refine gq1 ?_
  refine c_auMay ?_
  cases hm : znU a b c d
  · rw [zlu, hm, Bool.false_and] at hK
    refine gq1 ?_
    refine zam hl ?_
    exact hK
  · rw [zlu, hm, Bool.true_and] at hK
    refine gq1 ?_
    refine zqg hm ?_
    refine gq1 ?_
    refine c_auSigned (s := s) (hT.app _) (hG.app _) ?_
    refine gq1 ?_
    refine zam hl ?_
    exact hK
end Go.Proofs.YtjjchfbckfopkaaGreat

/- What a new view goes on with. No program in sight. -/
set_option linter.unusedSimpArgs false
namespace Go.AW

def zhS (f : Int) : Int := if f < 1 ∨ f > 4 then 120 else 0
def zlv (n f : Int) : Int := if f < 1 ∨ f > 4 then 0 else n * f + 1
end Go.AW

/- Contracts: how many brokers there are, and a quorum has. -/
set_option maxRecDepth 100000
set_option linter.unusedSimpArgs false
namespace Go.Proofs.YtjjchfbckfopkaaGreat
open Go.AW

theorem gqc4 {A B : Prop} (a : A) (b : B) : A ∧ B := ⟨a, b⟩
theorem gq38 {A P Q : Prop} (a : A) (h : Q) (e : A → P = Q := by intro a; simp -dsimp only [↓zek, ↓zar, ↓zbg, ↓zel, ↓zef, ↓zed, ↓zeg, ↓zee, ↓zbl, ↓zbh, ↓zbm, ↓zbi, ↓zeh, ↓zbe, ↓zbn, ↓zbj, ↓zbo, ↓zbk, ↓zec, ↓zej, ↓zbd, ↓zbp, ↓zdW, ↓zdV, ↓zea, iN, bT, bF, eN, ↓zci, ↓unC, ↓zS, ↓zE, ↓zF, ↓zJ, ↓zZ, ↓zaD, ↓zcj, ↓zab, ↓zbr, ↓zU, ↓zl, ↓zo, ↓zbz, ↓zg, ↓zad, ↓zI, ↓zaz, ↓zaJ, ↓zc, ↓zB, ↓zn, ↓zq, ↓zaj, ↓zcB, ↓zcE, ↓zah, ↓zao, ↓zaA, ↓zaO, ↓zaT, ↓zm, ↓zae, ↓zG, ↓zp, ↓zY, zcD, zaV, zaU, unA, zcK, bnd, zcZ, zaa, zag, zdh, dm, dm1, zM, zau, zdy, zdx, zT, Q0, Q1, Q2, Q3, Q4, Q5, zR, zi, zk, zu, zy, Q6, Q7, Q8, Q9, Q10, Q11, Q12, Q13, Q14, Nat.reduceAdd, Q15, Int.reduceToNat, Q16, Q17, Q18, Q19, Q20, reduceIte, Q21, Q22, zA, rep, zV, zdX, toD, zaf, Q23, Q24, Q25, Q26, Q27, Q28, Nat.reduceLeDiff, Q29, Nat.reduceSub, Q30, Q31, Q32, sc, Q33, Q34, Q35, a]; rfl) : P := (e a).mpr h
theorem znE {σ : List zb} {f : Int} {K : AV → List zb → Prop} (hK : K (.d (.int .i64 (zhS f))) σ) : zt Tryz.prog zdd [.d (.int .i64 f)] σ K := by
  refine ziC zoj fun hl => ?_
  simp only [zjd, iN, bT, bF, eN]
  cases h1 : decide (f < 1) <;> cases h2 : decide (f > 4)
  all_goals
    (refine gq38 (gqc4 h1 h2) ?_; try with_reducible exact True.intro)
    refine zam hl ?_
    simp only [decide_eq_true_eq, decide_eq_false_iff_not] at h1 h2
  · rw [zhS, if_neg (by omega)] at hK; exact hK
  all_goals (rw [zhS, if_pos (by omega)] at hK; exact hK)
theorem gq39 {P Q : Prop} (h : Q) (e : P = Q := by simp -dsimp only [↓zek, ↓zar, ↓zbg, ↓zel, ↓zef, ↓zed, ↓zeg, ↓zee, ↓zbl, ↓zbh, ↓zbm, ↓zbi, ↓zeh, ↓zbe, ↓zbn, ↓zbj, ↓zbo, ↓zbk, ↓zec, ↓zej, ↓zbd, ↓zbp, ↓zdW, ↓zdV, ↓zea, iN, bT, bF, eN, ↓zci, ↓unC, ↓zS, ↓zE, ↓zF, ↓zJ, ↓zZ, ↓zaD, ↓zcj, ↓zab, ↓zbr, ↓zU, ↓zl, ↓zo, ↓zbz, ↓zg, ↓zad, ↓zI, ↓zaz, ↓zaJ, ↓zc, ↓zB, ↓zn, ↓zq, ↓zaj, ↓zcB, ↓zcE, ↓zah, ↓zao, ↓zaA, ↓zaO, ↓zaT, ↓zm, ↓zae, ↓zG, ↓zp, ↓zY, zcD, zaV, zaU, unA, zcK, bnd, zcZ, zaa, zag, zdh, dm, dm1, zM, zau, zdy, zdx, zT, Q0, Q1, Q2, Q3, Q4, Q5, zR, zi, zk, zu, zy, Q6, Q7, Q8, Q9, Q10, Q11, Q12, Q13, Q14, Nat.reduceAdd, Q15, Int.reduceToNat, Q16, Q17, Q18, Q19, Q20, reduceIte, Q21, Q22, zA, rep, zV, zdX, toD, zaf, Q23, Q24, Q25, Q26, Q27, Q28, Nat.reduceLeDiff, Q29, Nat.reduceSub, Q30, Q31, Q32, sc, Q33, Q34, Q35]; rfl) : P := e.mpr h
theorem c_times {σ : List zb} {n f : Int} (hn : 0 ≤ n ∧ n ≤ 3) {K : AV → List zb → Prop} (hK : K (.d (.int .i64 (zlv n f))) σ) : zt Tryz.prog zgh [.d (.int .i64 n), .d (.int .i64 f)] σ K := by
  refine zhh zoi fun hl => ?_
  simp only [zjc, iN, bT, bF, eN]
  (refine gq39 ?_; try with_reducible exact True.intro)
  refine znE ?_
  by_cases h : f < 1 ∨ f > 4
  · rw [zlv, if_pos h] at hK
    rw [zhS, if_pos h]
    (refine gq38 (show ((120 : Int) != 0) = true from rfl) ?_; try with_reducible exact True.intro)
    refine zam hl ?_
    exact hK
  · rw [zlv, if_neg h] at hK
    rw [zhS, if_neg h]
    have h1 : 0 ≤ n * f := Int.mul_nonneg hn.1 (by omega)
    have h2 : n * f ≤ 3 * 4 := Int.mul_le_mul hn.2 (by omega) (by omega) (by omega)
    have w1 : IntKind.i64.wrap (n * f) = n * f := zap (by omega) (by omega)
    have w2 : IntKind.i64.wrap (n * f + 1) = n * f + 1 := zap (by omega) (by omega)
    (refine gq38 (gqc4 (show ((0 : Int) != 0) = false from rfl) (gqc4 w1 w2)) ?_; try with_reducible exact True.intro)
    refine zam hl ?_
    exact hK
theorem znF {σ : List zb} {f : Int} {K : AV → List zb → Prop} (hK : K (.d (.int .i64 (zlv 3 f))) σ) : zt Tryz.prog zdj [.d (.int .i64 f)] σ K := by
  refine ziC zmk fun hl => ?_
  simp only [zhm, iN, bT, bF, eN]
  (refine gq39 ?_; try with_reducible exact True.intro)
  refine c_times (by omega) ?_
  (refine gq39 ?_; try with_reducible exact True.intro)
  refine zam hl ?_
  exact hK
end Go.Proofs.YtjjchfbckfopkaaGreat
