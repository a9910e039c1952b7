/- Contracts: batches that are the same, the program's. -/
import Derived.Test.YtdgcepphjnoalaaGreatRq1
import Derived.Test.YtdgcepphjnoalaaGreatOp2
set_option linter.all false
set_option maxRecDepth 100000
set_option linter.unusedSimpArgs false
set_option linter.unusedVariables false
namespace Go.Proofs.YtdgcepphjnoalaaGreat
open Go.AW

theorem zpb {A P Q : Prop} (a : A) (h : Q) (e : A → Hd Q → P := by intro a h; (repeat' first | simp -dsimp only [↓zgn, ↓zaG, ↓zca, ↓zgo, ↓zgh, ↓zgf, ↓zgi, ↓zgg, ↓zcf, ↓zcb, ↓zcg, ↓zcc, ↓zgj, ↓zbW, ↓zch, ↓zcd, ↓zci, ↓zce, ↓zge, ↓zgl, ↓zbV, ↓zck, ↓zgb, ↓zga, ↓zgd, iN, bT, bF, eN, ↓zds, ↓unC, ↓zX, ↓zJ, ↓zK, ↓zM, ↓zal, ↓zaV, ↓zdU, ↓zay, ↓zbD, ↓zR, ↓zi, ↓zg, ↓zbr, ↓zd, ↓zan, ↓zO, ↓zbf, ↓zbg, ↓zf, ↓zB, ↓zn, ↓zD, ↓zZ, ↓zeb, ↓zes, ↓zaq, ↓zaC, ↓zbe, ↓zbl, ↓zbG, ↓zp, ↓zao, ↓zL, ↓zr, ↓zaj, zen, zbP, zbL, unA, zdF, bnd, zeV, zaf, zac, zeF, dm, dm1, zQ, zaz, zfy, zfx, zI, Q0, Q1, Q2, Q3, Q4, Q5, zam, zw, zu, zN, zG, Q6, Q7, Q8, Q9, Q10, Q11, Q12, Q13, Q14, Nat.reduceAdd, Q15, Int.reduceToNat, Q16, Q17, Q18, Q19, Q20, reduceIte, Q21, Q22, zC, rep, zV, zfi, toD, zad, Q23, Q24, Q25, Q26, Q27, Q28, Nat.reduceLeDiff, Q29, Nat.reduceSub, Q30, Q31, Q32, sc, Q33, Q34, Q35, Q36, Q37, Q26, Q38, Q39, zmU, zmR, zmO, zmV, zfD, zmS, zmP, zmT, zmQ, zfC, zfE, zmY, zmZ, Bool.not_true, Bool.not_false, List.length_map, Bool.and_false, Bool.and_self, Bool.false_and, Bool.not_false, Bool.not_true, Bool.true_and, Int.toNat_natCast, Int.toNat_zero, List.drop_zero, List.length_map, List.length_nil, List.nil_append, List.take_length, Nat.sub_zero, Nat.zero_add, Option.isSome_none, Option.isSome_some, Option.map_none, Option.map_some, zaJ, beq_self_eq_true, bne_self_eq_false, zbK, zcD, zei, zbM, opA, zhG, ziU, zfO, zaH, a] | with_reducible refine zni ?_ | fail); exact h.go) : P := e a ⟨h⟩
theorem c_Same1 {σ : List zc} {a b : zt} (ha : a.op.recs.length ≤ 1073741824) (hb : b.op.recs.length ≤ 1073741824) {K : AV → List zc → Prop} (hK : K (.d (.bool (decide (a = b)))) σ) : zl Tryz.prog zeq [zfO a, zfO b] σ K := by
  refine zjc znu fun hl => ?_
  have e : a = b ↔ a.key = b.key ∧ a.dig = b.dig ∧ a.client = b.client ∧ a.time = b.time ∧ a.op = b.op := by cases a; cases b; simp; constructor <;> (intro h; simp_all)
  have fin : ∀ z, decide (a = b) = z → K (.d (.bool z)) σ := fun z h => h ▸ hK
  clear hK
  simp only [ziN, iN, bT, bF, eN, zfO]
  cases h1 : (a.key == b.key)
  · refine zpb h1 ?_
    refine zap hl ?_
    refine fin _ (decide_eq_false fun h => ?_)
    have := (e.1 h).1; simp [this] at h1
  cases h2 : (a.dig == b.dig)
  · refine zpb (zj h1 h2) ?_
    refine zap hl ?_
    refine fin _ (decide_eq_false fun h => ?_)
    have := (e.1 h).2.1; simp [this] at h2
  cases h3 : (a.client == b.client)
  · refine zpb (zj h1 (zj h2 h3)) ?_
    refine zap hl ?_
    refine fin _ (decide_eq_false fun h => ?_)
    have := (e.1 h).2.2.1; simp [this] at h3
  cases h4 : (a.time == b.time)
  · refine zpb (zj h1 (zj h2 (zj h3 h4))) ?_
    refine zap hl ?_
    refine fin _ (decide_eq_false fun h => ?_)
    have := (e.1 h).2.2.2.1; simp [this] at h4
  refine zpb (zj h1 (zj h2 (zj h3 h4))) ?_
  refine c_Same (a := a.op) (b := b.op) ha hb ?_
  refine zaP ?_
  refine zap hl ?_
  refine fin _ ?_
  rw [Bool.eq_iff_iff, decide_eq_true_eq, decide_eq_true_eq, e]
  simp only [beq_iff_eq] at h1 h2 h3 h4
  simp [h1, h2, h3, h4]
theorem zbi {A P Q : Prop} (a : A) (h : Q) (e : A → Hd Q → P := by intro a h; (repeat' first | simp -dsimp only [↓zgn, ↓zaG, ↓zca, ↓zgo, ↓zgh, ↓zgf, ↓zgi, ↓zgg, ↓zcf, ↓zcb, ↓zcg, ↓zcc, ↓zgj, ↓zbW, ↓zch, ↓zcd, ↓zci, ↓zce, ↓zge, ↓zgl, ↓zbV, ↓zck, ↓zgb, ↓zga, ↓zgd, iN, bT, bF, eN, ↓zds, ↓unC, ↓zX, ↓zJ, ↓zK, ↓zM, ↓zal, ↓zaV, ↓zdU, ↓zay, ↓zbD, ↓zR, ↓zi, ↓zg, ↓zbr, ↓zd, ↓zan, ↓zO, ↓zbf, ↓zbg, ↓zf, ↓zB, ↓zn, ↓zD, ↓zZ, ↓zeb, ↓zes, ↓zaq, ↓zaC, ↓zbe, ↓zbl, ↓zbG, ↓zp, ↓zao, ↓zL, ↓zr, ↓zaj, zen, zbP, zbL, unA, zdF, bnd, zeV, zaf, zac, zeF, dm, dm1, zQ, zaz, zfy, zfx, zI, Q0, Q1, Q2, Q3, Q4, Q5, zam, zw, zu, zN, zG, Q6, Q7, Q8, Q9, Q10, Q11, Q12, Q13, Q14, Nat.reduceAdd, Q15, Int.reduceToNat, Q16, Q17, Q18, Q19, Q20, reduceIte, Q21, Q22, zC, rep, zV, zfi, toD, zad, Q23, Q24, Q25, Q26, Q27, Q28, Nat.reduceLeDiff, Q29, Nat.reduceSub, Q30, Q31, Q32, sc, Q33, Q34, Q35, Q36, Q37, Q26, Q38, Q39, zmU, zmR, zmO, zmV, zfD, zmS, zmP, zmT, zmQ, zfC, zfE, zmY, zmZ, Bool.not_true, Bool.not_false, List.length_map, a] | with_reducible refine zni ?_ | fail); exact h.go) : P := e a ⟨h⟩
theorem zlG {σ : List zc} {a b : List zt} (ha : ziF a) (hb : ziF b) {K : AV → List zc → Prop} (hK : K (.d (.bool (decide (a = b)))) σ) :
    zl Tryz.prog zW [.d (.slice (zcR a)), .d (.slice (zcR b)), .fn (.func zeq) [] []] σ K := by
  refine acE3 zby fun hl => ?_
  have fin : ∀ z, decide (a = b) = z → K (.d (.bool z)) σ := fun z h => h ▸ hK
  clear hK
  obtain ⟨ha1, ha2⟩ := ha
  obtain ⟨hb1, hb2⟩ := hb
  simp only [zax, iN, bT, bF, eN, zl0]
  cases hl0 : ((a.length : Int) != (b.length : Int))
  rotate_left
  · refine zbi hl0 ?_
    refine zap hl ?_
    refine fin _ (decide_eq_false fun h => ?_)
    rw [h] at hl0; simp at hl0
  have hl2 : a.length = b.length := by simp at hl0; omega
  refine zbi hl0 ?_
  refine zae a.length (fun k vs s => vs = [.d (.int .i64 k)] ∧ (∃ T, s = σ ++ T) ∧ a.take k = b.take k) ⟨rfl, ⟨[], by simp⟩, by simp⟩ ?_
  rintro k vs s hk ⟨rfl, ⟨T, rfl⟩, htk⟩
  by_cases hlt : k < a.length
  · have hd : decide ((k : Int) < (a.length : Int)) = true := by simp; omega
    have hx : a[k]? = some a[k] := by simp [hlt]
    have hy : b[k]? = some (b[k]'(by omega)) := List.getElem?_eq_getElem _
    have hgx := zbZ (f := zaH) hx
    have hgy := zbZ (f := zaH) hy
    have hxs := (ha2 _ (List.getElem_mem hlt)).1
    have hys := (hb2 _ (List.getElem_mem (show k < b.length by omega))).1
    obtain ⟨x, hxe⟩ : ∃ x, a[k] = x := ⟨_, rfl⟩
    obtain ⟨y, hye⟩ : ∃ y, (b[k]'(by omega)) = y := ⟨_, rfl⟩
    rw [hxe] at hx hgx hxs
    rw [hye] at hy hgy hys
    obtain ⟨S, hS⟩ : ∃ S, σ ++ T = S := ⟨_, rfl⟩
    rw [hS]
    refine zpb (zj hd (zj hgx hgy)) ?_
    refine c_Same1 (a := x) (b := y) hxs hys ?_
    cases he : decide (x = y)
    · refine zbi hd ?_
      rw [← hS, List.append_assoc]
      refine zap hl ?_
      refine fin _ (decide_eq_false fun h => ?_)
      subst h
      rw [hx] at hy
      have := Option.some.inj hy
      simp [this] at he
    · refine zbi (wk1 k (by omega)) ?_
      exact zdE.next hlt ⟨rfl, ⟨_, by rw [← hS, List.append_assoc]⟩, zdc hx hy htk (by simpa using he)⟩
  · have hd : decide ((k : Int) < (a.length : Int)) = false := by simp; omega
    refine zbi hd ?_
    refine zap hl ?_
    exact fin _ (decide_eq_true (zeB hl2 (k := k) (by omega) htk))
theorem zoK {σ : List zc} {a b : List zt} (ha : ziF a) (hb : ziF b) {K : AV → List zc → Prop} (hK : K (.d (.bool (decide (a = b)))) σ) : zl Tryz.prog zeg [.d (.slice (zcR a)), .d (.slice (zcR b))] σ K := by
  refine zjc zpo fun hl => ?_
  simp only [zkn, iN, bT, bF, eN]
  refine zaP ?_
  refine zlG ha hb ?_
  refine zaP ?_
  refine zap hl ?_
  exact hK

end Go.Proofs.YtdgcepphjnoalaaGreat
