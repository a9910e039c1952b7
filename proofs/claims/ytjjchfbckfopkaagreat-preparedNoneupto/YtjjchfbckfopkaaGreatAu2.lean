/- Contracts: votes, the program's. -/
import Derived.Test.YtjjchfbckfopkaaGreatId5
import Derived.Test.YtjjchfbckfopkaaGreatSpNum
import Derived.Test.YtjjchfbckfopkaaGreatSh
import Derived.Test.YtjjchfbckfopkaaGreatAwEnd
set_option linter.all false
set_option maxRecDepth 100000
set_option linter.unusedSimpArgs false
set_option linter.unusedVariables false
namespace Go.Proofs.YtjjchfbckfopkaaGreat
open Go.AW

theorem may_all {a b c d : Int} (h : zmH a b c d = true) : ∀ x ∈ [a, b, c, d], 0 ≤ x ∧ x ≤ 9007199254740992 := by
  rw [mayV_all, List.all_eq_true] at h
  exact fun x hx => zlJ.1 (h x hx)
theorem zoK {σ : List zb} {a b c d : Int} (h : zmH a b c d = true) {K : AV → List zb → Prop} (hK : K (.d (.slice (bcs (zgQ a b c d)))) σ) :
    zn Tryz.prog zey [.d (.int .i64 a), .d (.int .i64 b), .d (.int .i64 c), .d (.int .i64 d)] σ K := by
  refine acE4 zlg fun hl => ?_
  simp only [zgG, iN, bT, bF, eN]
  refine gq1 ?_
  refine c_auPut (b := [4]) (l := [a, b, c, d]) (by simp) (by simp) (may_all h) ?_
  refine gq1 ?_
  refine zam hl ?_
  exact hK
theorem c_auMade {σ : List zb} {id m t id2 m2 t2 : Nat} {l : List (List UInt8)} {g : List zO} (hT : zcF σ id m t l) (hG : zcS σ id2 m2 t2 g) (hL : TabI l) (hg : g.length ≤ 1073741824) {K : AV → List zb → Prop}
    (hK : K (.d (.bool true)) σ) : zn Tryz.prog zil [.box id 0, .box id2 0] σ K := by
  refine zia e_auth_made fun hl => ?_
  simp only [zmE, iN, bT, bF, eN]
  refine gq1 ?_
  refine zoD hT hL.nd hL.len hL.each ?_
  refine gq1 ?_
  refine c_gClone (hG.app _) hg fun g' => ?_
  refine gq1 ?_
  refine zam hl ?_
  exact hK
theorem c_auSigned {σ : List zb} {id m t id2 m2 t2 : Nat} {L : List (List UInt8)} {G : List zO} {s : zO} {key : Int} {b : List UInt8} (hT : zcF σ id m t L) (hG : zcS σ id2 m2 t2 G) {K : AV → List zb → Prop}
    (hK : K (.d (.bool (zih L G s key b))) σ) : zn Tryz.prog zgn [.box id 0, .box id2 0, .agg [.d (.int .i64 s.key), .d (.int .i64 s.dig)], .d (.int .i64 key), .d (.slice (bcs b))] σ K := by
  refine acE5 zoy fun hl => ?_
  have hT1 := fun τ => hT.app τ
  have hG1 := fun τ => hG.app τ
  simp only [zjq, iN, bT, bF, eN]
  refine gq1 ?_
  refine zoC (hT1 _) ?_
  have fin : ∀ z, zih L G s key b = z → K (.d (.bool z)) σ := fun z h => h ▸ hK
  clear hK
  cases hlk : zdE L b with
  | none =>
    refine gq5 ?_
    refine zam hl ?_
    exact fin _ (by simp [zih, hlk])
  | some i =>
    simp only [numOf]
    cases h1 : (s.key == key)
    · refine gq8 h1 ?_
      refine zam hl ?_
      exact fin _ (by simp at h1; simp [zih, hlk, h1])
    · cases h2 : (s.dig == ((i + 1 : Nat) : Int))
      · refine gq8 (zo h1 h2) ?_
        refine zam hl ?_
        exact fin _ (by simp at h1 h2; simp [zih, hlk, h1]; omega)
      · refine gq8 (zo h1 h2) ?_
        refine c_gSigned (s := s) (hG1 _) ?_
        refine gq1 ?_
        refine zam hl ?_
        exact fin _ (by simp at h1 h2; simp [zih, hlk, h1, h2])
theorem zjd {σ : List zb} {id m t id2 m2 t2 : Nat} {L : List (List UInt8)} {G : List zO} {s : zO} {key a b c d : Int} (hT : zcF σ id m t L) (hG : zcS σ id2 m2 t2 G) (hL : TabI L) (hg : G.length ≤ 1073741824) {K : AV → List zb → Prop}
    (hK : K (.d (.bool (zko L G s key a b c d))) σ) :
    zn Tryz.prog zcW [.box id 0, .box id2 0, .agg [.d (.int .i64 s.key), .d (.int .i64 s.dig)], .d (.int .i64 key), .d (.int .i64 a), .d (.int .i64 b), .d (.int .i64 c), .d (.int .i64 d)] σ K := by
  refine acE8 zlh fun hl => ?_
  simp only [zgH, iN, bT, bF, eN]
  refine gq1 ?_
  refine c_auMade (hT.app _) (hG.app _) hL hg ?_
  refine gq1 ?_
  refine c_auMay ?_
  cases hm : zmH a b c d
  · rw [zko, hm, Bool.false_and] at hK
    refine gq1 ?_
    refine zam hl ?_
    exact hK
  · rw [zko, hm, Bool.true_and] at hK
    refine gq1 ?_
    refine zoK hm ?_
    refine gq1 ?_
    refine c_auSigned (s := s) (hT.app _) (hG.app _) ?_
    refine gq1 ?_
    refine zam hl ?_
    exact hK
end Go.Proofs.YtjjchfbckfopkaaGreat

/- What a new view goes on with. No program in sight. -/
set_option linter.unusedSimpArgs false
namespace Go.AW

def zhh (f : Int) : Int := if f < 1 ∨ f > 4 then 120 else 0
def zkp (n f : Int) : Int := if f < 1 ∨ f > 4 then 0 else n * f + 1
end Go.AW

/- Contracts: how many brokers there are, and a quorum has. -/
set_option maxRecDepth 100000
set_option linter.unusedSimpArgs false
namespace Go.Proofs.YtjjchfbckfopkaaGreat
open Go.AW

theorem gqc3 {A B : Prop} (a : A) (b : B) : A ∧ B := ⟨a, b⟩
theorem gq36 {A P Q : Prop} (a : A) (h : Q) (e : A → P = Q := by intro a; simp -dsimp only [↓zem, ↓zas, ↓zbe, ↓zen, ↓zeg, ↓zee, ↓zeh, ↓zef, ↓zbj, ↓zbf, ↓zbk, ↓zbg, ↓zei, ↓zbd, ↓zbl, ↓zbh, ↓zbm, ↓zbi, ↓zec, ↓zel, ↓zbc, ↓zbo, ↓zdY, ↓zdX, ↓zeb, iN, bT, bF, eN, ↓zcx, ↓unC, ↓zU, ↓zE, ↓zF, ↓zI, ↓zaa, ↓zaE, ↓zco, ↓zZ, ↓zbw, ↓zQ, ↓zl, ↓zm, ↓zbF, ↓zf, ↓zab, ↓zK, ↓zay, ↓zaD, ↓zc, ↓zy, ↓zi, ↓zr, ↓zai, ↓zcz, ↓zcG, ↓zal, ↓zap, ↓zax, ↓zaG, ↓zaN, ↓zj, ↓zad, ↓zG, ↓zq, ↓zX, zcE, zaZ, zaW, unA, zcH, bnd, zdj, zY, zac, zdk, dm, dm1, zJ, zar, zdD, zdC, zT, Q0, Q1, Q2, Q3, Q4, Q5, zS, zg, zp, zu, zC, Q6, Q7, Q8, Q9, Q10, Q11, Q12, Q13, Q14, Nat.reduceAdd, Q15, Int.reduceToNat, Q16, Q17, Q18, Q19, Q20, reduceIte, Q21, Q22, zA, rep, zV, zdZ, toD, zaj, Q23, Q24, Q25, Q26, Q27, Q28, Nat.reduceLeDiff, Q29, Nat.reduceSub, Q30, Q31, Q32, sc, Q33, Q34, Q35, a]; rfl) : P := (e a).mpr h
theorem zmq {σ : List zb} {f : Int} {K : AV → List zb → Prop} (hK : K (.d (.int .i64 (zhh f))) σ) : zn Tryz.prog zcP [.d (.int .i64 f)] σ K := by
  refine zfz zmV fun hl => ?_
  simp only [zie, iN, bT, bF, eN]
  cases h1 : decide (f < 1) <;> cases h2 : decide (f > 4)
  all_goals
    (refine gq36 (gqc3 h1 h2) ?_; try with_reducible exact True.intro)
    refine zam hl ?_
    simp only [decide_eq_true_eq, decide_eq_false_iff_not] at h1 h2
  · rw [zhh, if_neg (by omega)] at hK; exact hK
  all_goals (rw [zhh, if_pos (by omega)] at hK; exact hK)
theorem gq37 {P Q : Prop} (h : Q) (e : P = Q := by simp -dsimp only [↓zem, ↓zas, ↓zbe, ↓zen, ↓zeg, ↓zee, ↓zeh, ↓zef, ↓zbj, ↓zbf, ↓zbk, ↓zbg, ↓zei, ↓zbd, ↓zbl, ↓zbh, ↓zbm, ↓zbi, ↓zec, ↓zel, ↓zbc, ↓zbo, ↓zdY, ↓zdX, ↓zeb, iN, bT, bF, eN, ↓zcx, ↓unC, ↓zU, ↓zE, ↓zF, ↓zI, ↓zaa, ↓zaE, ↓zco, ↓zZ, ↓zbw, ↓zQ, ↓zl, ↓zm, ↓zbF, ↓zf, ↓zab, ↓zK, ↓zay, ↓zaD, ↓zc, ↓zy, ↓zi, ↓zr, ↓zai, ↓zcz, ↓zcG, ↓zal, ↓zap, ↓zax, ↓zaG, ↓zaN, ↓zj, ↓zad, ↓zG, ↓zq, ↓zX, zcE, zaZ, zaW, unA, zcH, bnd, zdj, zY, zac, zdk, dm, dm1, zJ, zar, zdD, zdC, zT, Q0, Q1, Q2, Q3, Q4, Q5, zS, zg, zp, zu, zC, Q6, Q7, Q8, Q9, Q10, Q11, Q12, Q13, Q14, Nat.reduceAdd, Q15, Int.reduceToNat, Q16, Q17, Q18, Q19, Q20, reduceIte, Q21, Q22, zA, rep, zV, zdZ, toD, zaj, Q23, Q24, Q25, Q26, Q27, Q28, Nat.reduceLeDiff, Q29, Nat.reduceSub, Q30, Q31, Q32, sc, Q33, Q34, Q35]; rfl) : P := e.mpr h
theorem c_times {σ : List zb} {n f : Int} (hn : 0 ≤ n ∧ n ≤ 3) {K : AV → List zb → Prop} (hK : K (.d (.int .i64 (zkp n f))) σ) : zn Tryz.prog zfy [.d (.int .i64 n), .d (.int .i64 f)] σ K := by
  refine zia zmU fun hl => ?_
  simp only [zid, iN, bT, bF, eN]
  (refine gq37 ?_; try with_reducible exact True.intro)
  refine zmq ?_
  by_cases h : f < 1 ∨ f > 4
  · rw [zkp, if_pos h] at hK
    rw [zhh, if_pos h]
    (refine gq36 (show ((120 : Int) != 0) = true from rfl) ?_; try with_reducible exact True.intro)
    refine zam hl ?_
    exact hK
  · rw [zkp, if_neg h] at hK
    rw [zhh, if_neg h]
    have h1 : 0 ≤ n * f := Int.mul_nonneg hn.1 (by omega)
    have h2 : n * f ≤ 3 * 4 := Int.mul_le_mul hn.2 (by omega) (by omega) (by omega)
    have w1 : IntKind.i64.wrap (n * f) = n * f := zao (by omega) (by omega)
    have w2 : IntKind.i64.wrap (n * f + 1) = n * f + 1 := zao (by omega) (by omega)
    (refine gq36 (gqc3 (show ((0 : Int) != 0) = false from rfl) (gqc3 w1 w2)) ?_; try with_reducible exact True.intro)
    refine zam hl ?_
    exact hK
theorem zmr {σ : List zb} {f : Int} {K : AV → List zb → Prop} (hK : K (.d (.int .i64 (zkp 3 f))) σ) : zn Tryz.prog zcU [.d (.int .i64 f)] σ K := by
  refine zfz zld fun hl => ?_
  simp only [zgA, iN, bT, bF, eN]
  (refine gq37 ?_; try with_reducible exact True.intro)
  refine c_times (by omega) ?_
  (refine gq37 ?_; try with_reducible exact True.intro)
  refine zam hl ?_
  exact hK
end Go.Proofs.YtjjchfbckfopkaaGreat
