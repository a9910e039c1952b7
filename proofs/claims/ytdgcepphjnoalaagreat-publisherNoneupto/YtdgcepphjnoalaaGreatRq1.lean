/- Contracts: batches: in memory of their own; which are the same, by the reference. -/
import Derived.Test.YtdgcepphjnoalaaGreatOpC
import Derived.Test.YtdgcepphjnoalaaGreatSpDec
import Derived.Test.YtdgcepphjnoalaaGreatSpUtf
import Derived.Test.YtdgcepphjnoalaaGreatOp2
set_option linter.all false
set_option maxRecDepth 100000
set_option linter.unusedSimpArgs false
namespace Go.Proofs.YtdgcepphjnoalaaGreat
open Go.AW

def ziF (b : List zt) : Prop := b.length ≤ 1073741824 ∧ ∀ x ∈ b, x.op.recs.length ≤ 1073741824 ∧ ∀ r ∈ x.op.recs, r.length ≤ 1073741824
theorem gq17 {A P Q : Prop} (a : A) (h : Q) (e : A → P = Q := by intro a; simp -dsimp only [↓zgn, ↓zaG, ↓zca, ↓zgo, ↓zgh, ↓zgf, ↓zgi, ↓zgg, ↓zcf, ↓zcb, ↓zcg, ↓zcc, ↓zgj, ↓zbW, ↓zch, ↓zcd, ↓zci, ↓zce, ↓zge, ↓zgl, ↓zbV, ↓zck, ↓zgb, ↓zga, ↓zgd, iN, bT, bF, eN, ↓zds, ↓unC, ↓zX, ↓zJ, ↓zK, ↓zM, ↓zal, ↓zaV, ↓zdU, ↓zay, ↓zbD, ↓zR, ↓zi, ↓zg, ↓zbr, ↓zd, ↓zan, ↓zO, ↓zbf, ↓zbg, ↓zf, ↓zB, ↓zn, ↓zD, ↓zZ, ↓zeb, ↓zes, ↓zaq, ↓zaC, ↓zbe, ↓zbl, ↓zbG, ↓zp, ↓zao, ↓zL, ↓zr, ↓zaj, zen, zbP, zbL, unA, zdF, bnd, zeV, zaf, zac, zeF, dm, dm1, zQ, zaz, zfy, zfx, zI, Q0, Q1, Q2, Q3, Q4, Q5, zam, zw, zu, zN, zG, Q6, Q7, Q8, Q9, Q10, Q11, Q12, Q13, Q14, Nat.reduceAdd, Q15, Int.reduceToNat, Q16, Q17, Q18, Q19, Q20, reduceIte, Q21, Q22, zC, rep, zV, zfi, toD, zad, Q23, Q24, Q25, Q26, Q27, Q28, Nat.reduceLeDiff, Q29, Nat.reduceSub, Q30, Q31, Q32, sc, Q33, Q34, Q35, Bool.and_false, Bool.and_self, Bool.false_and, Bool.not_false, Bool.not_true, Bool.true_and, Int.toNat_natCast, Int.toNat_zero, List.drop_zero, List.length_map, List.length_nil, List.nil_append, List.take_length, Nat.sub_zero, Nat.zero_add, Option.isSome_none, Option.isSome_some, Option.map_none, Option.map_some, zaJ, beq_self_eq_true, bne_self_eq_false, zbK, zcD, zei, zbM, opA, zhG, ziU, zaH, a]; rfl) : P := (e a).mpr h
theorem gq18 {P Q : Prop} (h : Q) (e : P = Q := by simp -dsimp only [↓zgn, ↓zaG, ↓zca, ↓zgo, ↓zgh, ↓zgf, ↓zgi, ↓zgg, ↓zcf, ↓zcb, ↓zcg, ↓zcc, ↓zgj, ↓zbW, ↓zch, ↓zcd, ↓zci, ↓zce, ↓zge, ↓zgl, ↓zbV, ↓zck, ↓zgb, ↓zga, ↓zgd, iN, bT, bF, eN, ↓zds, ↓unC, ↓zX, ↓zJ, ↓zK, ↓zM, ↓zal, ↓zaV, ↓zdU, ↓zay, ↓zbD, ↓zR, ↓zi, ↓zg, ↓zbr, ↓zd, ↓zan, ↓zO, ↓zbf, ↓zbg, ↓zf, ↓zB, ↓zn, ↓zD, ↓zZ, ↓zeb, ↓zes, ↓zaq, ↓zaC, ↓zbe, ↓zbl, ↓zbG, ↓zp, ↓zao, ↓zL, ↓zr, ↓zaj, zen, zbP, zbL, unA, zdF, bnd, zeV, zaf, zac, zeF, dm, dm1, zQ, zaz, zfy, zfx, zI, Q0, Q1, Q2, Q3, Q4, Q5, zam, zw, zu, zN, zG, Q6, Q7, Q8, Q9, Q10, Q11, Q12, Q13, Q14, Nat.reduceAdd, Q15, Int.reduceToNat, Q16, Q17, Q18, Q19, Q20, reduceIte, Q21, Q22, zC, rep, zV, zfi, toD, zad, Q23, Q24, Q25, Q26, Q27, Q28, Nat.reduceLeDiff, Q29, Nat.reduceSub, Q30, Q31, Q32, sc, Q33, Q34, Q35, Bool.and_false, Bool.and_self, Bool.false_and, Bool.not_false, Bool.not_true, Bool.true_and, Int.toNat_natCast, Int.toNat_zero, List.drop_zero, List.length_map, List.length_nil, List.nil_append, List.take_length, Nat.sub_zero, Nat.zero_add, Option.isSome_none, Option.isSome_some, Option.map_none, Option.map_some, zaJ, beq_self_eq_true, bne_self_eq_false, zbK, zcD, zei, zbM, opA, zhG, ziU, zaH]; rfl) : P := e.mpr h
theorem zlD {σ : List zc} {b : List zt} (hb : ziF b) {K : AV → List zc → Prop} (hK : K (.d (.slice (zcR b))) σ) : zl Tryz.prog zbI [.d (.slice (zcR b))] σ K := by
  refine zfT zox fun hl => ?_
  simp only [zjA, iN, bT, bF, eN, zl0]
  (refine gq14 ?_; try with_reducible exact True.intro)
  refine zae b.length (fun j vs q => ∃ B T, vs = [if j = 0 then .exact [] else .own (σ.length + 1) (zcR (b.take j)), .d (.int .i64 j)] ∧ q = σ ++ (if j = 0 then [] else B :: .tok 9 (zcR (b.take j)).length :: T)) ⟨.tok 1 0, [], rfl, by simp⟩ ?_
  rintro j vs q hj ⟨B, T, rfl, rfl⟩
  obtain ⟨hb1, hb2⟩ := hb
  by_cases hj0 : j = 0
  · subst hj0
    simp only [if_true]
    (refine gq14 ?_; try with_reducible exact True.intro)
    refine zbh (fun h => ?_) (fun h => ?_)
    · have hlt : 0 < b.length := by simp at h; omega
      have hx : b[0]? = some b[0] := by simp [hlt]
      obtain ⟨hr1, hr2⟩ := hb2 _ (List.getElem_mem hlt)
      have hgx := zbZ (f := zaH) hx
      have hsn := map_snoc (f := zaH) hx
      obtain ⟨x, hxe⟩ : ∃ x, b[0] = x := ⟨_, rfl⟩
      rw [hxe] at hgx hsn hr1 hr2
      (refine gq17 (gqc1 (show ((0 : Nat) : Int) = 0 from rfl) hgx) ?_; try with_reducible exact True.intro)
      refine ⟨by omega, zhP (o := x.op) hr1 hr2 ?_⟩
      (refine gq18 ?_; try with_reducible exact True.intro)
      repeat' ((with_reducible refine And.intro ?_ ?_); focus (first | omega | simp))
      refine zdE.next hlt ⟨.box ((zaH x).map .d), [], ?_, ?_⟩
      · rw [if_neg (by omega)]
        simp only [List.take_zero, List.map_nil, List.nil_append, zaH] at hsn
        simp only [zcR, ← hsn, Nat.zero_add]
        rfl
      · rw [if_neg (by omega)]
        try rw [List.length_map]
        rw [show (List.take (0 + 1) b).length = 1 by rw [List.length_take]; omega]
        rfl
    · have hn : b = [] := by simp at h; exact h
      refine zap hl ?_
      rw [hn] at hK
      exact hK
  · simp only [if_neg hj0]
    have hlj : (b.take j).length = j := by rw [List.length_take]; omega
    (refine gq14 ?_; try with_reducible exact True.intro)
    refine zbh (fun h => ?_) (fun h => ?_)
    · have hlt : j < b.length := by simp at h; omega
      have hx : b[j]? = some b[j] := by simp [hlt]
      obtain ⟨hr1, hr2⟩ := hb2 _ (List.getElem_mem hlt)
      have hgx := zbZ (f := zaH) hx
      have hsn := map_snoc (f := zaH) hx
      obtain ⟨x, hxe⟩ : ∃ x, b[j] = x := ⟨_, rfl⟩
      rw [hxe] at hgx hsn hr1 hr2
      (refine gq17 hgx ?_; try with_reducible exact True.intro)
      refine ⟨by omega, zhP (o := x.op) hr1 hr2 ?_⟩
      (refine gq18 ?_; try with_reducible exact True.intro)
      repeat' ((with_reducible refine And.intro ?_ ?_); focus (first | omega | (simp only [List.length_map, List.length_take]; omega) | simp))
      refine zdE.next hlt ⟨B, T ++ [.box ((zaH x).map .d)], ?_, ?_⟩
      · rw [if_neg (by omega), show (j : Int) + 1 = ((j + 1 : Nat) : Int) by omega, zdf (by omega) (by omega)]
        simp only [zaH] at hsn
        simp only [zcR, ← hsn]
      · rw [if_neg (by omega)]
        simp only [List.length_map, List.length_take, List.cons_append]
        rw [show min j b.length + 1 = min (j + 1) b.length by omega]
        rfl
    · have hn : j = b.length := by simp at h; omega
      subst hn
      (refine gq16 ?_; try with_reducible exact True.intro)
      refine zap hl ?_
      exact hK
def zfO (x : zt) : AV := .agg [.d (.int .i64 x.client), .d (.int .i64 x.time), .d (.int .i64 x.op.kind), .d (.str x.op.topic), .d (.str x.op.group), .d (.int .i64 x.op.offset), .d (.slice (zeE x.op.recs)), .d (.int .i64 x.key), .d (.int .i64 x.dig)]
def reqA (x : zt) : AV := .agg [.d (.int .i64 x.client), .d (.int .i64 x.time), .d (.int .i64 x.op.kind), .d (.str x.op.topic), .d (.str x.op.group), .d (.int .i64 x.op.offset), .d (.slice (zeE x.op.recs))]
end Go.Proofs.YtdgcepphjnoalaaGreat

/- What is wrong with requests, signatures and batches, as the document says. No program in sight. -/
set_option linter.unusedSimpArgs false
namespace Go.AW

def zaA (x : zt) : Int := if x.client < 0 ∨ x.client ≥ 8 ∨ x.time < 1 ∨ x.time > 9007199254740992 then 80 else zdm zjk x.op
def zaF (k d : Int) : Int := if k < 0 ∨ k ≥ 21 ∨ d < 1 ∨ d > 9007199254740992 then 81 else 0
def errF (s : zt) : Int := if zaA s ≠ 0 then zaA s else zaF s.key s.dig
def errsF : List zt → Int
  | [] => 0
  | s :: r => if errF s ≠ 0 then errF s else errsF r
def ndup (a b : zt) : Prop := ¬ (a.client = b.client ∧ a.time = b.time)
instance : DecidableRel ndup := fun a b => inferInstanceAs (Decidable (¬ _))
def zbB (l : List zt) : Int :=
  if l.length > 4 then 3 else if errsF l ≠ 0 then errsF l else if l.Pairwise ndup then 0 else 5

def okO (o : TOp) : Prop := o.topic.length ≤ 1073741824 ∧ o.group.length ≤ 1073741824 ∧ o.recs.length ≤ 1073741824 ∧ ∀ r ∈ o.recs, r.length ≤ 1073741824
def okB (b : List zt) : Prop := b.length ≤ 1073741824 ∧ ∀ x ∈ b, okO x.op
end Go.AW

/- Contracts: what is wrong with requests, signatures and batches, on both sides. -/
set_option maxRecDepth 100000
set_option linter.unusedSimpArgs false
set_option linter.unusedVariables false
namespace Go.Proofs.YtdgcepphjnoalaaGreat
open Go.AW

theorem zaP {P Q : Prop} (h : Q) (e : Hd Q → P := by intro h; (repeat' first | simp -dsimp only [↓zgn, ↓zaG, ↓zca, ↓zgo, ↓zgh, ↓zgf, ↓zgi, ↓zgg, ↓zcf, ↓zcb, ↓zcg, ↓zcc, ↓zgj, ↓zbW, ↓zch, ↓zcd, ↓zci, ↓zce, ↓zge, ↓zgl, ↓zbV, ↓zck, ↓zgb, ↓zga, ↓zgd, iN, bT, bF, eN, ↓zds, ↓unC, ↓zX, ↓zJ, ↓zK, ↓zM, ↓zal, ↓zaV, ↓zdU, ↓zay, ↓zbD, ↓zR, ↓zi, ↓zg, ↓zbr, ↓zd, ↓zan, ↓zO, ↓zbf, ↓zbg, ↓zf, ↓zB, ↓zn, ↓zD, ↓zZ, ↓zeb, ↓zes, ↓zaq, ↓zaC, ↓zbe, ↓zbl, ↓zbG, ↓zp, ↓zao, ↓zL, ↓zr, ↓zaj, zen, zbP, zbL, unA, zdF, bnd, zeV, zaf, zac, zeF, dm, dm1, zQ, zaz, zfy, zfx, zI, Q0, Q1, Q2, Q3, Q4, Q5, zam, zw, zu, zN, zG, Q6, Q7, Q8, Q9, Q10, Q11, Q12, Q13, Q14, Nat.reduceAdd, Q15, Int.reduceToNat, Q16, Q17, Q18, Q19, Q20, reduceIte, Q21, Q22, zC, rep, zV, zfi, toD, zad, Q23, Q24, Q25, Q26, Q27, Q28, Nat.reduceLeDiff, Q29, Nat.reduceSub, Q30, Q31, Q32, sc, Q33, Q34, Q35, Q36, Q37, Q26, Q38, Q39, zmU, zmR, zmO, zmV, zfD, zmS, zmP, zmT, zmQ, zfC, zfE, zmY, zmZ, Bool.not_true, Bool.not_false, List.length_map] | with_reducible refine zni ?_ | fail); exact h.go) : P := e ⟨h⟩
theorem c_rqCheck {σ : List zc} {x : zt} (hx : okO x.op) {K : AV → List zc → Prop} (hK : K (.d (.int .i64 (zaA x))) σ) : zl Tryz.prog zgA [reqA x] σ K := by
  refine zfT zoy fun hl => ?_
  have fin : ∀ z, zaA x = z → K (.d (.int .i64 z)) σ := fun z h => h ▸ hK
  clear hK
  simp only [zjB, iN, bT, bF, eN, reqA]
  (repeat' (first | (refine gq4 ?_; try with_reducible exact True.intro) | (refine zbh (fun h => ?_) (fun h => ?_) <;> (try rw [h])) | ((with_reducible refine And.intro ?_ ?_); focus (first | omega | rfl | decide))))
  all_goals first
    | (refine zap hl ?_
       (try simp only [decide_eq_true_eq, decide_eq_false_iff_not, beq_iff_eq, beq_eq_false_iff_ne, bne_iff_ne, ne_eq, Bool.not_eq_true', Bool.not_eq_false', bne_eq_false_iff_eq] at *)
       exact fin _ (by rw [zaA, if_pos (by omega)]))
    | skip
  refine c_Check (o := x.op) hx.1 hx.2.1 hx.2.2.1 ?_
  refine zaP ?_
  refine zap hl ?_
  (try simp only [decide_eq_true_eq, decide_eq_false_iff_not, beq_iff_eq, beq_eq_false_iff_ne, bne_iff_ne, ne_eq, Bool.not_eq_true', Bool.not_eq_false', bne_eq_false_iff_eq] at *)
  exact fin _ (by rw [zaA, if_neg (by omega)])
theorem zlE {σ : List zc} {k d : Int} {K : AV → List zc → Prop} (hK : K (.d (.int .i64 (zaF k d))) σ) : zl Tryz.prog zdi [.agg [.d (.int .i64 k), .d (.int .i64 d)]] σ K := by
  refine zfT zkJ fun hl => ?_
  have fin : ∀ z, zaF k d = z → K (.d (.int .i64 z)) σ := fun z h => h ▸ hK
  clear hK
  simp only [zgM, iN, bT, bF, eN]
  (repeat' (first | (refine gq4 ?_; try with_reducible exact True.intro) | (refine zbh (fun h => ?_) (fun h => ?_) <;> (try rw [h])) | ((with_reducible refine And.intro ?_ ?_); focus (first | omega | rfl | decide))))
  all_goals
    refine zap hl ?_
    (try simp only [decide_eq_true_eq, decide_eq_false_iff_not, beq_iff_eq, beq_eq_false_iff_ne, bne_iff_ne, ne_eq, Bool.not_eq_true', Bool.not_eq_false', bne_eq_false_iff_eq] at *)
    first | exact fin _ (by rw [zaF, if_pos (by omega)]) | exact fin _ (by rw [zaF, if_neg (by omega)])

theorem wk1 (k : Nat) (h : k ≤ 1073741824) : IntKind.i64.wrap ((k : Int) + 1) = ((k + 1 : Nat) : Int) := by rw [zdf (by omega) (by omega)]; rfl
end Go.Proofs.YtdgcepphjnoalaaGreat
