/- Contracts: what a new view goes on with. -/
import Derived.Test.YtpgahkdjkanblaaGreatSpMap
import Derived.Test.YtpgahkdjkanblaaGreatNr3
set_option linter.all false
set_option maxRecDepth 100000
set_option linter.unusedSimpArgs false
set_option linter.unusedVariables false
namespace Go.Proofs.YtpgahkdjkanblaaGreat
open Go.AW

def zgl (p : zca) : AV := .agg (latC (some p))
theorem latStep_map (q : zca) (o : Int → Option zca) : (fun s => (zjb s (o s) q).map zgl) = fun s => if s = q.seq then (zjb q.seq (o q.seq) q).map zgl else (o s).map zgl := by
  funext s
  by_cases h : s = q.seq
  · subst h; rw [if_pos rfl]
  · rw [if_neg h]; unfold zjb; rw [if_neg (fun e => h e.symm)]
def SelR (n : Nat) (xs : List zaI) (G : AV) (R : List zd) : Prop := (xs = [] ∧ G = .exact [] ∧ R = []) ∨ (xs ≠ [] ∧ ∃ g, G = .rsl n g 5 0 xs.length ∧ R = [.row g 5 (zbb (zah xs))])
theorem gq17 {A P Q : Prop} (a : A) (h : Q) (e : A → P = Q := by intro a; simp -dsimp only [↓zfa, ↓zat, ↓zbt, ↓zfb, ↓zeW, ↓zeU, ↓zeX, ↓zeV, ↓zby, ↓zbu, ↓zbz, ↓zbv, ↓zeY, ↓zbs, ↓zbA, ↓zbw, ↓zbB, ↓zbx, ↓zeT, ↓zeZ, ↓zbr, ↓zbC, ↓zeQ, ↓zeP, ↓zeS, iN, bT, bF, eN, ↓zcO, ↓unC, ↓zP, ↓zG, ↓zH, ↓zK, ↓zW, ↓zaz, ↓zdn, ↓zau, ↓zbf, ↓zQ, ↓zg, ↓zf, ↓zbY, ↓zb, ↓zae, ↓zL, ↓zaN, ↓zaO, ↓zc, ↓zB, ↓zj, ↓zE, ↓zY, ↓zdz, ↓zdA, ↓zam, ↓zap, ↓zaK, ↓zaV, ↓zbj, ↓zm, ↓zai, ↓zJ, ↓zr, ↓zT, zdD, zbo, zbk, unA, zcZ, bnd, zdZ, zac, zR, zdT, dm, dm1, zI, zan, zeq, zep, zZ, Q0, Q1, Q2, Q3, Q4, Q5, zX, zn, zo, zF, zA, Q6, Q7, Q8, Q9, Q10, Q11, Q12, Q13, Q14, Nat.reduceAdd, Q15, Int.reduceToNat, Q16, Q17, Q18, Q19, Q20, reduceIte, Q21, Q22, zw, rep, zU, zeo, toD, zaa, Q23, Q24, Q25, Q26, Q27, Q28, Nat.reduceLeDiff, Q29, Nat.reduceSub, Q30, Q31, Q32, sc, Q33, Q34, Q35, Int.toNat_zero, List.length_map, zbH, a]; rfl) : P := (e a).mpr h
theorem gq18 {A P Q : Prop} (a : A) (h : Q) (e : A → P = Q := by intro a; simp -dsimp only [↓zfa, ↓zat, ↓zbt, ↓zfb, ↓zeW, ↓zeU, ↓zeX, ↓zeV, ↓zby, ↓zbu, ↓zbz, ↓zbv, ↓zeY, ↓zbs, ↓zbA, ↓zbw, ↓zbB, ↓zbx, ↓zeT, ↓zeZ, ↓zbr, ↓zbC, ↓zeQ, ↓zeP, ↓zeS, iN, bT, bF, eN, ↓zcO, ↓unC, ↓zP, ↓zG, ↓zH, ↓zK, ↓zW, ↓zaz, ↓zdn, ↓zau, ↓zbf, ↓zQ, ↓zg, ↓zf, ↓zbY, ↓zb, ↓zae, ↓zL, ↓zaN, ↓zaO, ↓zc, ↓zB, ↓zj, ↓zE, ↓zY, ↓zdz, ↓zdA, ↓zam, ↓zap, ↓zaK, ↓zaV, ↓zbj, ↓zm, ↓zai, ↓zJ, ↓zr, ↓zT, zdD, zbo, zbk, unA, zcZ, bnd, zdZ, zac, zR, zdT, dm, dm1, zI, zan, zeq, zep, zZ, Q0, Q1, Q2, Q3, Q4, Q5, zX, zn, zo, zF, zA, Q6, Q7, Q8, Q9, Q10, Q11, Q12, Q13, Q14, Nat.reduceAdd, Q15, Int.reduceToNat, Q16, Q17, Q18, Q19, Q20, reduceIte, Q21, Q22, zw, rep, zU, zeo, toD, zaa, Q23, Q24, Q25, Q26, Q27, Q28, Nat.reduceLeDiff, Q29, Nat.reduceSub, Q30, Q31, Q32, sc, Q33, Q34, Q35, List.length_map, zbH, a]; rfl) : P := (e a).mpr h
theorem gq19 {A P Q : Prop} (a : A) (h : Q) (e : A → P = Q := by intro a; simp -dsimp only [↓zfa, ↓zat, ↓zbt, ↓zfb, ↓zeW, ↓zeU, ↓zeX, ↓zeV, ↓zby, ↓zbu, ↓zbz, ↓zbv, ↓zeY, ↓zbs, ↓zbA, ↓zbw, ↓zbB, ↓zbx, ↓zeT, ↓zeZ, ↓zbr, ↓zbC, ↓zeQ, ↓zeP, ↓zeS, iN, bT, bF, eN, ↓zcO, ↓unC, ↓zP, ↓zG, ↓zH, ↓zK, ↓zW, ↓zaz, ↓zdn, ↓zau, ↓zbf, ↓zQ, ↓zg, ↓zf, ↓zbY, ↓zb, ↓zae, ↓zL, ↓zaN, ↓zaO, ↓zc, ↓zB, ↓zj, ↓zE, ↓zY, ↓zdz, ↓zdA, ↓zam, ↓zap, ↓zaK, ↓zaV, ↓zbj, ↓zm, ↓zai, ↓zJ, ↓zr, ↓zT, zdD, zbo, zbk, unA, zcZ, bnd, zdZ, zac, zR, zdT, dm, dm1, zI, zan, zeq, zep, zZ, Q0, Q1, Q2, Q3, Q4, Q5, zX, zn, zo, zF, zA, Q6, Q7, Q8, Q9, Q10, Q11, Q12, Q13, Q14, Nat.reduceAdd, Q15, Int.reduceToNat, Q16, Q17, Q18, Q19, Q20, reduceIte, Q21, Q22, zw, rep, zU, zeo, toD, zaa, Q23, Q24, Q25, Q26, Q27, Q28, Nat.reduceLeDiff, Q29, Nat.reduceSub, Q30, Q31, Q32, sc, Q33, Q34, Q35, Bool.not_false, Bool.not_true, zej, ents_add, zfp, zuH, zgI, a]; rfl) : P := (e a).mpr h
theorem gq20 {A P Q : Prop} (a : A) (h : Q) (e : A → P = Q := by intro a; simp -dsimp only [↓zfa, ↓zat, ↓zbt, ↓zfb, ↓zeW, ↓zeU, ↓zeX, ↓zeV, ↓zby, ↓zbu, ↓zbz, ↓zbv, ↓zeY, ↓zbs, ↓zbA, ↓zbw, ↓zbB, ↓zbx, ↓zeT, ↓zeZ, ↓zbr, ↓zbC, ↓zeQ, ↓zeP, ↓zeS, iN, bT, bF, eN, ↓zcO, ↓unC, ↓zP, ↓zG, ↓zH, ↓zK, ↓zW, ↓zaz, ↓zdn, ↓zau, ↓zbf, ↓zQ, ↓zg, ↓zf, ↓zbY, ↓zb, ↓zae, ↓zL, ↓zaN, ↓zaO, ↓zc, ↓zB, ↓zj, ↓zE, ↓zY, ↓zdz, ↓zdA, ↓zam, ↓zap, ↓zaK, ↓zaV, ↓zbj, ↓zm, ↓zai, ↓zJ, ↓zr, ↓zT, zdD, zbo, zbk, unA, zcZ, bnd, zdZ, zac, zR, zdT, dm, dm1, zI, zan, zeq, zep, zZ, Q0, Q1, Q2, Q3, Q4, Q5, zX, zn, zo, zF, zA, Q6, Q7, Q8, Q9, Q10, Q11, Q12, Q13, Q14, Nat.reduceAdd, Q15, Int.reduceToNat, Q16, Q17, Q18, Q19, Q20, reduceIte, Q21, Q22, zw, rep, zU, zeo, toD, zaa, Q23, Q24, Q25, Q26, Q27, Q28, Nat.reduceLeDiff, Q29, Nat.reduceSub, Q30, Q31, Q32, sc, Q33, Q34, Q35, Bool.not_false, Bool.not_true, zej, zfp, latC, zuH, zgI, zgl, a]; rfl) : P := (e a).mpr h
theorem gq21 {A P Q : Prop} (a : A) (h : Q) (e : A → P = Q := by intro a; simp -dsimp only [↓zfa, ↓zat, ↓zbt, ↓zfb, ↓zeW, ↓zeU, ↓zeX, ↓zeV, ↓zby, ↓zbu, ↓zbz, ↓zbv, ↓zeY, ↓zbs, ↓zbA, ↓zbw, ↓zbB, ↓zbx, ↓zeT, ↓zeZ, ↓zbr, ↓zbC, ↓zeQ, ↓zeP, ↓zeS, iN, bT, bF, eN, ↓zcO, ↓unC, ↓zP, ↓zG, ↓zH, ↓zK, ↓zW, ↓zaz, ↓zdn, ↓zau, ↓zbf, ↓zQ, ↓zg, ↓zf, ↓zbY, ↓zb, ↓zae, ↓zL, ↓zaN, ↓zaO, ↓zc, ↓zB, ↓zj, ↓zE, ↓zY, ↓zdz, ↓zdA, ↓zam, ↓zap, ↓zaK, ↓zaV, ↓zbj, ↓zm, ↓zai, ↓zJ, ↓zr, ↓zT, zdD, zbo, zbk, unA, zcZ, bnd, zdZ, zac, zR, zdT, dm, dm1, zI, zan, zeq, zep, zZ, Q0, Q1, Q2, Q3, Q4, Q5, zX, zn, zo, zF, zA, Q6, Q7, Q8, Q9, Q10, Q11, Q12, Q13, Q14, Nat.reduceAdd, Q15, Int.reduceToNat, Q16, Q17, Q18, Q19, Q20, reduceIte, Q21, Q22, zw, rep, zU, zeo, toD, zaa, Q23, Q24, Q25, Q26, Q27, Q28, Nat.reduceLeDiff, Q29, Nat.reduceSub, Q30, Q31, Q32, sc, Q33, Q34, Q35, Bool.not_false, Bool.not_true, zej, ents_set, zfp, latC, zuH, zgI, zgl, a]; rfl) : P := (e a).mpr h
theorem gq22 {A P Q : Prop} (a : A) (h : Q) (e : A → Hd Q → P := by intro a h; (repeat' first | simp -dsimp only [↓zfa, ↓zat, ↓zbt, ↓zfb, ↓zeW, ↓zeU, ↓zeX, ↓zeV, ↓zby, ↓zbu, ↓zbz, ↓zbv, ↓zeY, ↓zbs, ↓zbA, ↓zbw, ↓zbB, ↓zbx, ↓zeT, ↓zeZ, ↓zbr, ↓zbC, ↓zeQ, ↓zeP, ↓zeS, iN, bT, bF, eN, ↓zcO, ↓unC, ↓zP, ↓zG, ↓zH, ↓zK, ↓zW, ↓zaz, ↓zdn, ↓zau, ↓zbf, ↓zQ, ↓zg, ↓zf, ↓zbY, ↓zb, ↓zae, ↓zL, ↓zaN, ↓zaO, ↓zc, ↓zB, ↓zj, ↓zE, ↓zY, ↓zdz, ↓zdA, ↓zam, ↓zap, ↓zaK, ↓zaV, ↓zbj, ↓zm, ↓zai, ↓zJ, ↓zr, ↓zT, zdD, zbo, zbk, unA, zcZ, bnd, zdZ, zac, zR, zdT, dm, dm1, zI, zan, zeq, zep, zZ, Q0, Q1, Q2, Q3, Q4, Q5, zX, zn, zo, zF, zA, Q6, Q7, Q8, Q9, Q10, Q11, Q12, Q13, Q14, Nat.reduceAdd, Q15, Int.reduceToNat, Q16, Q17, Q18, Q19, Q20, reduceIte, Q21, Q22, zw, rep, zU, zeo, toD, zaa, Q23, Q24, Q25, Q26, Q27, Q28, Nat.reduceLeDiff, Q29, Nat.reduceSub, Q30, Q31, Q32, sc, Q33, Q34, Q35, Q36, Q37, Q26, Q38, Q39, zlJ, zlG, zlD, zlK, zeM, zlH, zlE, zlI, zlF, zeL, zeN, zlL, zlM, Bool.not_true, Bool.not_false, List.length_map, zfA, zqz, a] | with_reducible refine zmc ?_ | fail); exact h.go) : P := e a ⟨h⟩
theorem zlu {A P Q : Prop} (a : A) (h : Q) (e : A → Hd Q → P := by intro a h; (repeat' first | simp -dsimp only [↓zfa, ↓zat, ↓zbt, ↓zfb, ↓zeW, ↓zeU, ↓zeX, ↓zeV, ↓zby, ↓zbu, ↓zbz, ↓zbv, ↓zeY, ↓zbs, ↓zbA, ↓zbw, ↓zbB, ↓zbx, ↓zeT, ↓zeZ, ↓zbr, ↓zbC, ↓zeQ, ↓zeP, ↓zeS, iN, bT, bF, eN, ↓zcO, ↓unC, ↓zP, ↓zG, ↓zH, ↓zK, ↓zW, ↓zaz, ↓zdn, ↓zau, ↓zbf, ↓zQ, ↓zg, ↓zf, ↓zbY, ↓zb, ↓zae, ↓zL, ↓zaN, ↓zaO, ↓zc, ↓zB, ↓zj, ↓zE, ↓zY, ↓zdz, ↓zdA, ↓zam, ↓zap, ↓zaK, ↓zaV, ↓zbj, ↓zm, ↓zai, ↓zJ, ↓zr, ↓zT, zdD, zbo, zbk, unA, zcZ, bnd, zdZ, zac, zR, zdT, dm, dm1, zI, zan, zeq, zep, zZ, Q0, Q1, Q2, Q3, Q4, Q5, zX, zn, zo, zF, zA, Q6, Q7, Q8, Q9, Q10, Q11, Q12, Q13, Q14, Nat.reduceAdd, Q15, Int.reduceToNat, Q16, Q17, Q18, Q19, Q20, reduceIte, Q21, Q22, zw, rep, zU, zeo, toD, zaa, Q23, Q24, Q25, Q26, Q27, Q28, Nat.reduceLeDiff, Q29, Nat.reduceSub, Q30, Q31, Q32, sc, Q33, Q34, Q35, Q36, Q37, Q26, Q38, Q39, zlJ, zlG, zlD, zlK, zeM, zlH, zlE, zlI, zlF, zeL, zeN, zlL, zlM, Bool.not_true, Bool.not_false, List.length_map, a] | with_reducible refine zmc ?_ | fail); exact h.go) : P := e a ⟨h⟩
theorem gq24 {A P Q : Prop} (a : A) (h : Q) (e : A → Hd Q → P := by intro a h; (repeat' first | simp -dsimp only [↓zfa, ↓zat, ↓zbt, ↓zfb, ↓zeW, ↓zeU, ↓zeX, ↓zeV, ↓zby, ↓zbu, ↓zbz, ↓zbv, ↓zeY, ↓zbs, ↓zbA, ↓zbw, ↓zbB, ↓zbx, ↓zeT, ↓zeZ, ↓zbr, ↓zbC, ↓zeQ, ↓zeP, ↓zeS, iN, bT, bF, eN, ↓zcO, ↓unC, ↓zP, ↓zG, ↓zH, ↓zK, ↓zW, ↓zaz, ↓zdn, ↓zau, ↓zbf, ↓zQ, ↓zg, ↓zf, ↓zbY, ↓zb, ↓zae, ↓zL, ↓zaN, ↓zaO, ↓zc, ↓zB, ↓zj, ↓zE, ↓zY, ↓zdz, ↓zdA, ↓zam, ↓zap, ↓zaK, ↓zaV, ↓zbj, ↓zm, ↓zai, ↓zJ, ↓zr, ↓zT, zdD, zbo, zbk, unA, zcZ, bnd, zdZ, zac, zR, zdT, dm, dm1, zI, zan, zeq, zep, zZ, Q0, Q1, Q2, Q3, Q4, Q5, zX, zn, zo, zF, zA, Q6, Q7, Q8, Q9, Q10, Q11, Q12, Q13, Q14, Nat.reduceAdd, Q15, Int.reduceToNat, Q16, Q17, Q18, Q19, Q20, reduceIte, Q21, Q22, zw, rep, zU, zeo, toD, zaa, Q23, Q24, Q25, Q26, Q27, Q28, Nat.reduceLeDiff, Q29, Nat.reduceSub, Q30, Q31, Q32, sc, Q33, Q34, Q35, Q36, Q37, Q26, Q38, Q39, zlJ, zlG, zlD, zlK, zeM, zlH, zlE, zlI, zlF, zeL, zeN, zlL, zlM, Bool.not_true, Bool.not_false, List.length_map, zhr, zej, zdB, zfp, latC, zaK, zuH, zaV, zgl, a] | with_reducible refine zmc ?_ | fail); exact h.go) : P := e a ⟨h⟩
theorem zsB {σ : List zd} {f view : Int} {cs : List zO} (hs : ztp cs) (hR : ∀ c ∈ cs, zik c) {K : KT}
    (hK0 : zmw f view cs ≠ 0 → K (.tup [.agg [.d (.int .i64 0), .d (.int .i64 0), .exact []], .exact [], .d (.int .i64 (zmw f view cs))]) σ)
    (hK : zmw f view cs = 0 → ∀ g G R, SelR (σ.length + 1) (zga f view cs).2.1 G R → K (.tup [.agg [.d (.int .i64 (zga f view cs).1.seq), .d (.int .i64 (zga f view cs).1.dig), .rsl σ.length g 2 0 (zga f view cs).1.signs.length], G, .d (.int .i64 0)]) (σ ++ (.row g 2 (zbb (zab (zga f view cs).1.signs)) :: R))) :
    zl Tryz.prog zcn [.d (.int .i64 f), .d (.int .i64 view), .d (.slice (zaL cs))] σ K := by
  refine acall_keepX zkJ.is rfl fun hl _ => zkJ.goes ?_
  obtain ⟨hs1, hs2⟩ := hs
  simp only [zkX, iN, bT, bF, eN]
  (refine gq2 ?_; try with_reducible exact True.intro)
  refine c_may hs1 ?_
  cases h0 : (zmw f view cs != 0)
  rotate_left
  · (refine gq1 h0 ?_; try with_reducible exact True.intro)
    exact zqC (ks := []) (os := []) hl (by simp) (by simp) rfl (by simp) rfl (by rw [List.append_nil]; exact hK0 (by simpa using h0))
  have h0' : zmw f view cs = 0 := by simpa using h0
  obtain ⟨hne, hcf⟩ := mayF_ne h0'
  have hlen : 0 < cs.length := List.length_pos_iff.2 hne
  have hx0 : cs[0]? = some cs[0] := by simp [hlen]
  have hgx0 := zal (f := zbH) hx0
  have hb0 : zmx cs 0 = cs[0].cert := by
    cases cs with
    | nil => exact absurd rfl hne
    | cons c cs => rfl
  (refine gq17 (zS h0 hgx0) ?_; try with_reducible exact True.intro)
  refine ⟨by omega, ?_⟩
  try (refine gq2 ?_; try with_reducible exact True.intro)
  refine zy cs.length (fun k vs s => vs = [.d (.int .i64 (zdU (zee cs k))), .d (.int .i64 k)] ∧ ∃ l T, znp l (fun q => (zuK (zee cs k) q).map zgl) ∧ s = σ ++ (.box [.d (.int .i64 0), .d (.int .i64 0), .exact []] :: .box [.d (.int .i64 (zmx cs k).seq), .d (.int .i64 (zmx cs k).dig), .d (.slice (zab (zmx cs k).signs))] :: .map (zuQ l) :: T)) ⟨rfl, [], [], znp.nil, by rw [hb0]; rfl⟩ ?_
  rintro k vs s hk ⟨rfl, l, T, hmap, rfl⟩
  (refine gq2 ?_; try with_reducible exact True.intro)
  refine zaU (fun h => ?_) (fun h => ?_)
  · have hlt : k < cs.length := by simp at h; omega
    have hx : cs[k]? = some cs[k] := by simp [hlt]
    have hgx := zal (f := zbH) hx
    obtain ⟨_, ha, _⟩ := hs2 _ (List.getElem_mem hlt)
    obtain ⟨c, hce⟩ : ∃ c, cs[k] = c := ⟨_, rfl⟩
    rw [hce] at hx hgx ha
    have hps := prepsOf_succ hx
    have hbs := zuf hx
    have hwk : IntKind.i64.wrap ((k : Int) + 1) = ((k + 1 : Nat) : Int) := by rw [zbE (by omega) (by omega)]; rfl
    (refine gq18 hgx ?_; try with_reducible exact True.intro)
    refine ⟨by omega, ?_⟩
    obtain ⟨b, hbe⟩ : ∃ b, zmx cs (k + 1) = b := ⟨_, rfl⟩
    cases h2 : decide (c.cert.seq > (zmx cs k).seq)
    all_goals
      first
        | (have hcb : zmx cs k = b := by rw [← hbe, hbs, zpF, if_neg (by simpa using h2)])
        | (have hcb : c.cert = b := by rw [← hbe, hbs, zpF, if_pos (by simpa using h2)])
      (refine gq18 (zS hgx h2) ?_; try with_reducible exact True.intro)
      rw [hcb]
      refine zy c.above.length (fun j vs s => vs = [.d (.int .i64 (zdU (zee cs k ++ c.above.take j))), .d (.int .i64 j)] ∧ ∃ l T, znp l (fun q => (zuK (zee cs k ++ c.above.take j) q).map zgl) ∧ s = σ ++ (.box [.d (.int .i64 0), .d (.int .i64 0), .exact []] :: .box [.d (.int .i64 b.seq), .d (.int .i64 b.dig), .d (.slice (zab b.signs))] :: .map (zuQ l) :: T)) ⟨by simp, l, _, by simpa using hmap, rfl⟩ ?_
      rintro j vs s hj ⟨rfl, l, T, hmap, rfl⟩
      (refine gq11 ?_; try with_reducible exact True.intro)
      refine zaU (fun h => ?_) (fun h => ?_)
      · have hjt : j < c.above.length := by simp at h; omega
        have hy : c.above[j]? = some c.above[j] := by simp [hjt]
        have hgy := zal (f := zgI) hy
        obtain ⟨p, hpe⟩ : ∃ p, c.above[j] = p := ⟨_, rfl⟩
        rw [hpe] at hy hgy
        have htk : c.above.take (j + 1) = c.above.take j ++ [p] := by rw [List.take_add_one, hy]; rfl
        have hw : IntKind.i64.wrap ((j : Int) + 1) = ((j + 1 : Nat) : Int) := by rw [zbE (by omega) (by omega)]; rfl
        obtain ⟨L, hLe⟩ : ∃ L, zee cs k ++ c.above.take j = L := ⟨_, rfl⟩
        have hL1 : zee cs k ++ c.above.take (j + 1) = L ++ [p] := by rw [htk, ← List.append_assoc, hLe]
        rw [hLe] at hmap ⊢
        have hg : (if p.seq > zdU L then p.seq else zdU L) = zdU (L ++ [p]) := by rw [greatF_snoc]; rfl
        have hm2 : (fun q => (zuK (L ++ [p]) q).map zgl) = fun s => if s = p.seq then (zjb p.seq (zuK L p.seq) p).map zgl else (zuK L s).map zgl := by
          rw [← latStep_map]; funext q; rw [latF_snoc]
        have next : ∀ l T, znp l (fun q => (zuK (L ++ [p]) q).map zgl) → zbp c.above.length (fun j vs s => vs = [.d (.int .i64 (zdU (zee cs k ++ c.above.take j))), .d (.int .i64 j)] ∧ ∃ l T, znp l (fun q => (zuK (zee cs k ++ c.above.take j) q).map zgl) ∧ s = σ ++ (.box [.d (.int .i64 0), .d (.int .i64 0), .exact []] :: .box [.d (.int .i64 b.seq), .d (.int .i64 b.dig), .d (.slice (zab b.signs))] :: .map (zuQ l) :: T)) j
            [.d (.int .i64 (zdU (L ++ [p]))), .d (.int .i64 (j + 1 : Nat))] (σ ++ (.box [.d (.int .i64 0), .d (.int .i64 0), .exact []] :: .box [.d (.int .i64 b.seq), .d (.int .i64 b.dig), .d (.slice (zab b.signs))] :: .map (zuQ l) :: T)) := fun l T h => zbp.next hjt ⟨by rw [hL1], l, T, by rw [hL1]; exact h, rfl⟩
        cases ho : zuK L p.seq with
        | none =>
          have hf := hmap.none (s := p.seq) (by simp only [ho]; rfl)
          have hnew := hmap.add (t := p.seq) (x := zgl p) (by simp only [ho]; rfl)
          (refine gq19 (zS hgy (zS hf (zS hg hw))) ?_; try with_reducible exact True.intro)
          repeat' ((with_reducible refine And.intro ?_ ?_); focus (first | omega | rfl | decide))
          try (refine gq19 (zS hgy (zS hf (zS hg hw))) ?_; try with_reducible exact True.intro)
          refine next _ _ ?_
          rw [hm2, ho]
          simp only [zjb, if_true, Option.map_some]
          exact hnew
        | some r =>
          obtain ⟨i, hf, hfi⟩ := hmap.some (s := p.seq) (v := zgl r) (by simp only [ho]; rfl)
          cases h3 : decide (p.view > r.view)
          · (refine gq20 (zS hgy (zS hf (zS hg (zS hw h3)))) ?_; try with_reducible exact True.intro)
            repeat' ((with_reducible refine And.intro ?_ ?_); focus (first | omega | rfl | decide))
            try (refine gq20 (zS hgy (zS hf (zS hg (zS hw h3)))) ?_; try with_reducible exact True.intro)
            refine next _ _ ?_
            have : (fun q => (zuK (L ++ [p]) q).map zgl) = fun q => (zuK L q).map zgl := by
              funext q
              rw [latF_snoc]
              unfold zjb
              by_cases e : p.seq = q
              · subst e
                rw [if_pos rfl, ho]
                simp only
                rw [if_neg (by simpa using h3)]
              · rw [if_neg e]
            rw [this]
            exact hmap
          · have hnew := hmap.put (x := zgl p) hfi
            (refine gq21 (zS hgy (zS hf (zS hg (zS hw h3)))) ?_; try with_reducible exact True.intro)
            repeat' ((with_reducible refine And.intro ?_ ?_); focus (first | omega | rfl | decide))
            try (refine gq21 (zS hgy (zS hf (zS hg (zS hw h3)))) ?_; try with_reducible exact True.intro)
            refine next _ _ ?_
            rw [hm2, ho]
            simp only [zjb, if_true]
            rw [if_pos (by simpa using h3)]
            exact hnew
      · have hn : j = c.above.length := by simp at h; omega
        subst hn
        rw [List.take_length, ← hps] at hmap ⊢
        (refine gq1 hwk ?_; try with_reducible exact True.intro)
        exact zbp.next hlt ⟨rfl, l, T, hmap, by rw [hbe]⟩
  · have hn : k = cs.length := by simp at h; omega
    subst hn
    obtain ⟨L, hLe⟩ : ∃ L, zee cs cs.length = L := ⟨_, rfl⟩
    obtain ⟨b, hbe⟩ : ∃ b, zmx cs cs.length = b := ⟨_, rfl⟩
    have hg1 := great_le hR cs.length
    have hg0 := greatF_nn L
    have hbR := best_mem_R hR (Nat.le_refl _) hne
    obtain ⟨c0, hc0, hcb⟩ := zpG (cs := cs) (Nat.le_refl _) hne
    have hbs : b.signs.length ≤ 1073741824 := by rw [← hbe, hcb]; exact (hs2 c0 hc0).1
    have hLs : ∀ p ∈ L, ziR p.batch := fun p hp => by
      rw [← hLe] at hp
      obtain ⟨c, hc, hp⟩ := zlk hp
      exact (hs2 c hc).2.2 p hp
    have hsel : zga f view cs = if b.seq < 0 ∨ zdU L ≤ b.seq then (b, [], 0) else (b, zks view L b.seq (manyF (zdU L) b.seq), 0) := by
      rw [zga, if_neg (by rw [h0']; simp)]; simp only [hLe, hbe]
    rw [hLe] at hg1 hmap ⊢
    rw [hbe] at hbR ⊢
    have hK := hK h0'
    rw [hsel] at hK
    clear hcb hbe hLe hK0 hsel
    have hsl : (zab b.signs).length = b.signs.length := List.length_map ..
    have hs2' := zrL b.signs
    have hs16 : b.signs.length * 16 ≤ 140737488355328 := by omega
    have none0 : ∀ τ t0, (σ ++ τ)[t0]? = some (.row 0 2 (zbb (zab b.signs))) → σ.length ≤ t0 → (∀ g, K (.tup [.agg [.d (.int .i64 b.seq), .d (.int .i64 b.dig), .rsl σ.length g 2 0 b.signs.length], .exact [], .d (.int .i64 0)]) (σ ++ [.row g 2 (zbb (zab b.signs))])) →
        EndsX σ.length K (some [.agg [.d (.int .i64 b.seq), .d (.int .i64 b.dig), .rsl t0 0 2 0 b.signs.length], .exact [], .d (.int .i64 0)]) (σ ++ τ) := fun τ t0 ht h0 h => by
      have h1 : ¬ t0 < σ.length := by omega
      exact zqC (ks := [t0]) (os := [.row 0 2 (zbb (zab b.signs))]) hl (by simpa using h0) (by simp) (by simp only [getL, ht]) (by intro x hx; simp only [List.mem_singleton] at hx; subst hx; exact lowO_flat _ _ _ _)
        (by simp only [zdy, zdF, ziT, zkn, idxK, h1, if_false, if_true]) (h 0)
    cases h6 : decide (b.seq < 0)
    rotate_left
    · rw [if_pos (.inl (by simpa using h6))] at hK
      refine gq22 (zS hsl (zS hs2' (zS hs16 h6))) ?_
      exact none0 _ _ (by rw [zn]; simp) (by omega) fun g => hK g _ [] (.inl ⟨rfl, rfl, rfl⟩)
    cases h7 : decide (zdU L ≤ b.seq)
    rotate_left
    · rw [if_pos (.inr (by simpa using h7))] at hK
      refine gq22 (zS hsl (zS hs2' (zS hs16 (zS h6 h7)))) ?_
      exact none0 _ _ (by rw [zn]; simp) (by omega) fun g => hK g _ [] (.inl ⟨rfl, rfl, rfl⟩)
    have h6' : 0 ≤ b.seq := by simpa using h6
    have h7' : b.seq < zdU L := by simpa using h7
    rw [if_neg (by omega)] at hK
    have hw1 : IntKind.i64.wrap (zdU L - b.seq) = zdU L - b.seq := zbE (by omega) (by omega)
    obtain ⟨N, hN⟩ : ∃ N, manyF (zdU L) b.seq = N := ⟨_, rfl⟩
    have hmin : (if (8 : Int) < zdU L - b.seq then (8 : Int) else zdU L - b.seq) = (N : Int) := by
      rw [← hN]; unfold manyF; split <;> omega
    have hN8 := zrZ (zdU L) b.seq
    rw [hN] at hN8 hK
    have hNg : (N : Int) ≤ zdU L - b.seq := by rw [← hN]; unfold manyF; omega
    have hN0 : 0 < N := by rw [← hN]; unfold manyF; omega
    refine gq22 (zS hsl (zS hs2' (zS hs16 (zS h6 (zS h7 (zS hw1 hmin)))))) ?_
    obtain ⟨t0, ht0⟩ : ∃ t0, σ.length + (T.length + 3) = t0 := ⟨_, rfl⟩
    rw [ht0]
    obtain ⟨S0, hS0⟩ : ∃ S0, σ ++ zd.box [.d (.int .i64 0), .d (.int .i64 0), .exact []] :: zd.box [.d (.int .i64 b.seq), .d (.int .i64 b.dig), .rsl t0 0 2 0 b.signs.length] :: zd.map (zuQ l) :: (T ++ [zd.row 0 2 (List.map AV.d (zab b.signs).flatten)]) = S0 := ⟨_, rfl⟩
    have gA : ∀ τ, (S0 ++ τ)[σ.length]? = some (.box [.d (.int .i64 0), .d (.int .i64 0), .exact []]) := fun τ => zM (by rw [← hS0, zo]; rfl)
    have gB : ∀ τ, (S0 ++ τ)[σ.length + 1]? = some (.box [.d (.int .i64 b.seq), .d (.int .i64 b.dig), .rsl t0 0 2 0 b.signs.length]) := fun τ => zM (by rw [← hS0, zn]; rfl)
    have gM : ∀ τ, (S0 ++ τ)[σ.length + 2]? = some (.map (zuQ l)) := fun τ => zM (by rw [← hS0, zn]; rfl)
    have gT : ∀ τ, (S0 ++ τ)[t0]? = some (.row 0 2 (zbb (zab b.signs))) := fun τ => zM (by rw [← hS0, ← ht0, zn]; simp)
    have sA : ∀ τ Y, (S0 ++ τ).set σ.length Y = σ ++ (Y :: zd.box [.d (.int .i64 b.seq), .d (.int .i64 b.dig), .rsl t0 0 2 0 b.signs.length] :: zd.map (zuQ l) :: (T ++ [zd.row 0 2 (List.map AV.d (zab b.signs).flatten)] ++ τ)) := fun τ Y => by
      rw [← hS0, List.append_assoc, zA]; rfl
    have hSl : S0.length = t0 + 1 := by rw [← hS0, ← ht0]; simp; omega
    rw [hS0]
    refine zgb N (fun n vs s => vs = [.rsl S0.length n 5 0 n, .d (.int .i64 n)] ∧ ∃ T2, s = S0 ++ (.row n 5 (zbb (zah (zks view L b.seq n))) :: T2)) (.row 0 5 rfl (by omega) (.refl _ _)) ⟨rfl, [], rfl⟩ ?_
    rintro n vs s hn ⟨rfl, T2, rfl⟩
    have hel : (zks view L b.seq n).length = n := by simp [zks]
    have hfl : (zbb (zah (zks view L b.seq n))).length = n * 5 := by
      rw [zgu (sz := 5) (zfS (f := zdC) (fun _ => rfl) _), List.length_map, hel]
    by_cases hnN : n = N
    · have hd : decide ((n : Int) < (N : Int)) = false := by simp; omega
      refine zlu (zS hd (zS gB (zS gA sA))) ?_
      obtain ⟨X, hX⟩ : ∃ X, zd.box [.d (.int .i64 b.seq), .d (.int .i64 b.dig), .rsl t0 0 2 0 b.signs.length] :: zd.box [.d (.int .i64 b.seq), .d (.int .i64 b.dig), .rsl t0 0 2 0 b.signs.length] :: zd.map (zuQ l) :: (T ++ zd.row 0 2 (List.map AV.d (zab b.signs).flatten) :: zd.row n 5 (zbb (zah (zks view L b.seq n))) :: T2) = X := ⟨_, rfl⟩
      have g1 : (σ ++ X)[t0]? = some (.row 0 2 (zbb (zab b.signs))) := by rw [← hX, ← ht0, zn]; simp
      have g2 : (σ ++ X)[t0 + 1]? = some (.row n 5 (zbb (zah (zks view L b.seq n)))) := by
        rw [← hX, ← ht0, Nat.add_assoc, zn]
        simp [List.getElem?_append_right]
      rw [hX, hSl]
      have n1 : ¬ t0 < σ.length := by omega
      have n2 : ¬ t0 + 1 < σ.length := by omega
      have n3 : ¬ t0 + 1 = t0 := by omega
      have hne : zks view L b.seq N ≠ [] := fun h => by have := congrArg List.length h; rw [← hnN, hel] at this; simp at this; omega
      exact zqC (ks := [t0, t0 + 1]) (os := [.row 0 2 (zbb (zab b.signs)), .row n 5 (zbb (zah (zks view L b.seq n)))]) hl (by simp; omega) (by simp) (by simp only [getL, g1, g2])
        (by
          intro x hx
          simp only [List.mem_cons, List.not_mem_nil, or_false] at hx
          rcases hx with rfl | rfl <;> exact lowO_flat _ _ _ _)
        (by simp only [zdy, zdF, ziT, zkn, idxK, n1, n2, n3, if_false, if_true]) (hK 0 (.rsl (σ.length + 1) n 5 0 n) _ (.inr ⟨hne, n, by rw [← hnN, hel], by rw [← hnN]⟩))
    · have hd : decide ((n : Int) < (N : Int)) = true := by simp; omega
      have hw2 : IntKind.i64.wrap (b.seq + (n : Int)) = b.seq + n := zbE (by omega) (by omega)
      have hw3 : IntKind.i64.wrap (b.seq + (n : Int) + 1) = b.seq + n + 1 := zbE (by omega) (by omega)
      have hw4 : IntKind.i64.wrap ((n : Int) + 1) = ((n + 1 : Nat) : Int) := by rw [zbE (by omega) (by omega)]; rfl
      have hsn : zah (zks view L b.seq n) ++ [zdC (entAt view L b.seq n)] = zah (zks view L b.seq (n + 1)) := by rw [← entsF_snoc]; simp
      have next : ∀ bt, zqM (zuK L (b.seq + n + 1)) = bt → zbb (zah (zks view L b.seq n)) ++ [AV.d (.int .i64 view), .d (.int .i64 (b.seq + n + 1)), .d (.slice (zbD bt)), .d (.int .i64 0), .d (.int .i64 0)] = zbb (zah (zks view L b.seq (n + 1))) := fun bt h => by
        rw [← hsn]; simp [zbb, entAt, zdC, h]
      have hol : (n + 1) * 56 ≤ 140737488355328 := by omega
      cases ho : zuK L (b.seq + n + 1) with
      | none =>
        have hf := hmap.none (s := b.seq + n + 1) (by simp only [ho]; rfl)
        refine gq24 (zS hf (zS hd (zS hw2 (zS hw3 (zS hw4 (zS gB gM)))))) ?_
        refine zl.pre (.data 0 (.exact []) [] rfl rfl (.refl _ _)) ?_
        refine zkR (b := []) ⟨by simp, by simp⟩ ?_
        refine gq22 (zS hw4 (zS hfl hol)) ?_
        refine zbp.next (by omega) ⟨rfl, T2 ++ [.row 0 5 [.d (.int .i64 view), .d (.int .i64 (b.seq + n + 1)), .d (.slice (zbD [])), .d (.int .i64 0), .d (.int .i64 0)]], ?_⟩
        rw [← next [] (by rw [ho]; rfl)]; rfl
      | some r =>
        obtain ⟨i, hf, hfi⟩ := hmap.some (s := b.seq + n + 1) (v := zgl r) (by simp only [ho]; rfl)
        refine gq24 (zS hf (zS hd (zS hw2 (zS hw3 (zS hw4 (zS gB gM)))))) ?_
        refine zkR (b := r.batch) (hLs r (zuJ ho).2) ?_
        refine gq22 (zS hw4 (zS hfl hol)) ?_
        refine zbp.next (by omega) ⟨rfl, T2 ++ [.row 0 5 [.d (.int .i64 view), .d (.int .i64 (b.seq + n + 1)), .d (.slice (zbD r.batch)), .d (.int .i64 0), .d (.int .i64 0)]], ?_⟩
        rw [← next r.batch (by rw [ho]; rfl)]
theorem zoA {σ : List zd} {n₀ m t g sz : Nat} {es : List (List D)} (ht : σ[t]? = some (.row g sz (zbb es))) (hn : n₀ ≤ t) (h : ∀ e ∈ es, e.length = sz) : frz σ n₀ (m + 2) (.rsl t g sz 0 es.length) = some (.slice es) := by
  have hf : ∀ ds : List D, allO ((ds.map AV.d).map (frz σ n₀ (m + 1))) = some ds := by
    intro ds
    induction ds with
    | nil => rfl
    | cons d ds ih =>
      have : frz σ n₀ (m + 1) (.d d) = some d := rfl
      simp only [List.map_cons, this, allO, ih]
  have hc : ∀ (es : List (List D)), (∀ e ∈ es, e.length = sz) → zaa sz es.length es.flatten = es := by
    intro es
    induction es with
    | nil => intro _; rfl
    | cons e es ih =>
      intro h
      have he := h e List.mem_cons_self
      simp only [List.length_cons, zaa, List.flatten_cons]
      rw [List.take_left' he, List.drop_left' he, ih fun x hx => h x (List.mem_cons_of_mem _ hx)]
  have hl : (zbb es).length = es.length * sz := zgu h
  simp only [frz, ht, hn, true_and, and_self, if_true, Nat.zero_mul, List.drop_zero, Nat.sub_zero]
  rw [List.take_of_length_le (by omega), hf]
  simp only
  rw [hc es h]
theorem frz_d (σ : List zd) (n m : Nat) (x : D) : frz σ n m (.d x) = some x := by cases m <;> rfl
theorem zqG {σ : List zd} {f view : Int} {cs : List zO} (hs : ztp cs) (hR : ∀ c ∈ cs, zik c) {K : KT}
    (hK : K (.tup [zfX (zga f view cs).1, .d (.slice (zah (zga f view cs).2.1)), .d (.int .i64 (zga f view cs).2.2)]) σ) :
    zl Tryz.prog zcn [.d (.int .i64 f), .d (.int .i64 view), .d (.slice (zaL cs))] σ K := by
  refine zl.frz 2 (zsB hs hR (fun h => ?_) fun h g G R hG => ?_)
  · have e : zga f view cs = (ziU, [], zmw f view cs) := by rw [zga, if_pos h]
    rw [e] at hK
    exact ⟨_, rfl, List.take_length, hK⟩
  · have e2 : (zga f view cs).2.2 = 0 := by
      unfold zga
      rw [if_neg (by simpa using h)]
      simp only
      split <;> rfl
    rw [e2] at hK
    obtain ⟨c, hc⟩ : ∃ c, (zga f view cs).1 = c := ⟨_, rfl⟩
    obtain ⟨xs, hxs⟩ : ∃ c, (zga f view cs).2.1 = c := ⟨_, rfl⟩
    rw [hc, hxs] at hK
    rw [hxs] at hG
    rw [hc]
    have hsl : (zab c.signs).length = c.signs.length := List.length_map ..
    have hel : (zah xs).length = xs.length := List.length_map ..
    have f1 : frz (σ ++ .row g 2 (zbb (zab c.signs)) :: R) σ.length 2 (.rsl σ.length g 2 0 c.signs.length) = some (.slice (zab c.signs)) := by
      rw [← hsl]
      exact zoA (m := 0) (by rw [zo]; rfl) (Nat.le_refl _) (zrL _)
    have f2 : frz (σ ++ .row g 2 (zbb (zab c.signs)) :: R) σ.length 2 G = some (.slice (zah xs)) := by
      rcases hG with ⟨rfl, rfl, rfl⟩ | ⟨_, g2, rfl, rfl⟩
      · rfl
      · rw [← hel]
        exact zoA (m := 0) (by rw [zn]; rfl) (by omega) (zfS (f := zdC) (fun _ => rfl) _)
    have f2' : ztL (σ ++ .row g 2 (zbb (zab c.signs)) :: R) σ.length 2 G = some (.d (.slice (zah xs))) := by
      rcases hG with ⟨rfl, rfl, rfl⟩ | ⟨_, g2, rfl, rfl⟩
      · rfl
      · simp only [ztL, f2]
    refine ⟨.tup [zfX c, .d (.slice (zah xs)), .d (.int .i64 0)], ?_, by simp, hK⟩
    have f1' : ztL (σ ++ .row g 2 (zbb (zab c.signs)) :: R) σ.length 2 (.agg [.d (.int .i64 c.seq), .d (.int .i64 c.dig), .rsl σ.length g 2 0 c.signs.length]) = some (zfX c) := by
      simp only [ztL, List.map_cons, List.map_nil, frz_d, f1, allO]
    have f3 : ∀ x, ztL (σ ++ .row g 2 (zbb (zab c.signs)) :: R) σ.length 2 (.d x) = some (.d x) := fun _ => rfl
    simp only [frzT, List.map_cons, List.map_nil, f1', f2', f3, allO]
end Go.Proofs.YtpgahkdjkanblaaGreat
