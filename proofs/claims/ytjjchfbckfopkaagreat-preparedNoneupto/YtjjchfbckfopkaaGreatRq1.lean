/- Contracts: batches: in memory of their own; which are the same, by the reference. -/
import Derived.Test.YtjjchfbckfopkaaGreatOpC
import Derived.Test.YtjjchfbckfopkaaGreatSpNum
import Derived.Test.YtjjchfbckfopkaaGreatSpUtf
set_option linter.all false
set_option maxRecDepth 100000
set_option linter.unusedSimpArgs false
namespace Go.Proofs.YtjjchfbckfopkaaGreat
open Go.AW

def smallB (b : List ze) : Prop := b.length ≤ 1073741824 ∧ ∀ x ∈ b, x.op.recs.length ≤ 1073741824 ∧ ∀ r ∈ x.op.recs, r.length ≤ 1073741824
theorem gq31 {A P Q : Prop} (a : A) (h : Q) (e : A → P = Q := by intro a; simp -dsimp only [↓zem, ↓zas, ↓zbe, ↓zen, ↓zeg, ↓zee, ↓zeh, ↓zef, ↓zbj, ↓zbf, ↓zbk, ↓zbg, ↓zei, ↓zbd, ↓zbl, ↓zbh, ↓zbm, ↓zbi, ↓zec, ↓zel, ↓zbc, ↓zbo, ↓zdY, ↓zdX, ↓zeb, iN, bT, bF, eN, ↓zcx, ↓unC, ↓zU, ↓zE, ↓zF, ↓zI, ↓zaa, ↓zaE, ↓zco, ↓zZ, ↓zbw, ↓zQ, ↓zl, ↓zm, ↓zbF, ↓zf, ↓zab, ↓zK, ↓zay, ↓zaD, ↓zc, ↓zy, ↓zi, ↓zr, ↓zai, ↓zcz, ↓zcG, ↓zal, ↓zap, ↓zax, ↓zaG, ↓zaN, ↓zj, ↓zad, ↓zG, ↓zq, ↓zX, zcE, zaZ, zaW, unA, zcH, bnd, zdj, zY, zac, zdk, dm, dm1, zJ, zar, zdD, zdC, zT, Q0, Q1, Q2, Q3, Q4, Q5, zS, zg, zp, zu, zC, Q6, Q7, Q8, Q9, Q10, Q11, Q12, Q13, Q14, Nat.reduceAdd, Q15, Int.reduceToNat, Q16, Q17, Q18, Q19, Q20, reduceIte, Q21, Q22, zA, rep, zV, zdZ, toD, zaj, Q23, Q24, Q25, Q26, Q27, Q28, Nat.reduceLeDiff, Q29, Nat.reduceSub, Q30, Q31, Q32, sc, Q33, Q34, Q35, Bool.and_false, Bool.and_self, Bool.false_and, Bool.not_false, Bool.not_true, Bool.true_and, Int.toNat_natCast, Int.toNat_zero, List.drop_zero, List.length_map, List.length_nil, List.nil_append, List.take_length, Nat.sub_zero, Nat.zero_add, Option.isSome_none, Option.isSome_some, Option.map_none, Option.map_some, zaq, beq_self_eq_true, bne_self_eq_false, zbu, zbC, opA, prepD, zgb, zaK, a]; rfl) : P := (e a).mpr h
theorem gq32 {P Q : Prop} (h : Q) (e : P = Q := by simp -dsimp only [↓zem, ↓zas, ↓zbe, ↓zen, ↓zeg, ↓zee, ↓zeh, ↓zef, ↓zbj, ↓zbf, ↓zbk, ↓zbg, ↓zei, ↓zbd, ↓zbl, ↓zbh, ↓zbm, ↓zbi, ↓zec, ↓zel, ↓zbc, ↓zbo, ↓zdY, ↓zdX, ↓zeb, iN, bT, bF, eN, ↓zcx, ↓unC, ↓zU, ↓zE, ↓zF, ↓zI, ↓zaa, ↓zaE, ↓zco, ↓zZ, ↓zbw, ↓zQ, ↓zl, ↓zm, ↓zbF, ↓zf, ↓zab, ↓zK, ↓zay, ↓zaD, ↓zc, ↓zy, ↓zi, ↓zr, ↓zai, ↓zcz, ↓zcG, ↓zal, ↓zap, ↓zax, ↓zaG, ↓zaN, ↓zj, ↓zad, ↓zG, ↓zq, ↓zX, zcE, zaZ, zaW, unA, zcH, bnd, zdj, zY, zac, zdk, dm, dm1, zJ, zar, zdD, zdC, zT, Q0, Q1, Q2, Q3, Q4, Q5, zS, zg, zp, zu, zC, Q6, Q7, Q8, Q9, Q10, Q11, Q12, Q13, Q14, Nat.reduceAdd, Q15, Int.reduceToNat, Q16, Q17, Q18, Q19, Q20, reduceIte, Q21, Q22, zA, rep, zV, zdZ, toD, zaj, Q23, Q24, Q25, Q26, Q27, Q28, Nat.reduceLeDiff, Q29, Nat.reduceSub, Q30, Q31, Q32, sc, Q33, Q34, Q35, Bool.and_false, Bool.and_self, Bool.false_and, Bool.not_false, Bool.not_true, Bool.true_and, Int.toNat_natCast, Int.toNat_zero, List.drop_zero, List.length_map, List.length_nil, List.nil_append, List.take_length, Nat.sub_zero, Nat.zero_add, Option.isSome_none, Option.isSome_some, Option.map_none, Option.map_some, zaq, beq_self_eq_true, bne_self_eq_false, zbu, zbC, opA, prepD, zgb, zaK]; rfl) : P := e.mpr h
theorem c_rqClone {σ : List zb} {b : List ze} (hb : smallB b) {K : AV → List zb → Prop} (hK : K (.d (.slice (zbn b))) σ) : zn Tryz.prog zdo [.d (.slice (zbn b))] σ K := by
  refine zfz zmg fun hl => ?_
  simp only [zhn, iN, bT, bF, eN, zl2]
  (refine gq28 ?_; try with_reducible exact True.intro)
  refine zR b.length (fun j vs q => ∃ B T, vs = [if j = 0 then .exact [] else .own (σ.length + 1) (zbn (b.take j)), .d (.int .i64 j)] ∧ q = σ ++ (if j = 0 then [] else B :: .tok 9 (zbn (b.take j)).length :: T)) ⟨.tok 1 0, [], rfl, by simp⟩ ?_
  rintro j vs q hj ⟨B, T, rfl, rfl⟩
  obtain ⟨hb1, hb2⟩ := hb
  by_cases hj0 : j = 0
  · subst hj0
    simp only [if_true]
    (refine gq28 ?_; try with_reducible exact True.intro)
    refine zM (fun h => ?_) (fun h => ?_)
    · have hlt : 0 < b.length := by simp at h; omega
      have hx : b[0]? = some b[0] := by simp [hlt]
      obtain ⟨hr1, hr2⟩ := hb2 _ (List.getElem_mem hlt)
      have hgx := zaT (f := zaK) hx
      have hsn := map_snoc (f := zaK) hx
      obtain ⟨x, hxe⟩ : ∃ x, b[0] = x := ⟨_, rfl⟩
      rw [hxe] at hgx hsn hr1 hr2
      (refine gq31 (gqc2 (show ((0 : Nat) : Int) = 0 from rfl) hgx) ?_; try with_reducible exact True.intro)
      refine ⟨by omega, c_opClone (o := x.op) hr1 hr2 ?_⟩
      (refine gq32 ?_; try with_reducible exact True.intro)
      repeat' ((with_reducible refine And.intro ?_ ?_); focus (first | omega | simp))
      refine zbq.next hlt ⟨.box ((zaK x).map .d), [], ?_, ?_⟩
      · rw [if_neg (by omega)]
        simp only [List.take_zero, List.map_nil, List.nil_append, zaK] at hsn
        simp only [zbn, ← hsn, Nat.zero_add]
        rfl
      · rw [if_neg (by omega)]
        try rw [List.length_map]
        rw [show (List.take (0 + 1) b).length = 1 by rw [List.length_take]; omega]
        rfl
    · have hn : b = [] := by simp at h; exact h
      refine zam hl ?_
      rw [hn] at hK
      exact hK
  · simp only [if_neg hj0]
    have hlj : (b.take j).length = j := by rw [List.length_take]; omega
    (refine gq28 ?_; try with_reducible exact True.intro)
    refine zM (fun h => ?_) (fun h => ?_)
    · have hlt : j < b.length := by simp at h; omega
      have hx : b[j]? = some b[j] := by simp [hlt]
      obtain ⟨hr1, hr2⟩ := hb2 _ (List.getElem_mem hlt)
      have hgx := zaT (f := zaK) hx
      have hsn := map_snoc (f := zaK) hx
      obtain ⟨x, hxe⟩ : ∃ x, b[j] = x := ⟨_, rfl⟩
      rw [hxe] at hgx hsn hr1 hr2
      (refine gq31 hgx ?_; try with_reducible exact True.intro)
      refine ⟨by omega, c_opClone (o := x.op) hr1 hr2 ?_⟩
      (refine gq32 ?_; try with_reducible exact True.intro)
      repeat' ((with_reducible refine And.intro ?_ ?_); focus (first | omega | (simp only [List.length_map, List.length_take]; omega) | simp))
      refine zbq.next hlt ⟨B, T ++ [.box ((zaK x).map .d)], ?_, ?_⟩
      · rw [if_neg (by omega), show (j : Int) + 1 = ((j + 1 : Nat) : Int) by omega, zao (by omega) (by omega)]
        simp only [zaK] at hsn
        simp only [zbn, ← hsn]
      · rw [if_neg (by omega)]
        simp only [List.length_map, List.length_take, List.cons_append]
        rw [show min j b.length + 1 = min (j + 1) b.length by omega]
        rfl
    · have hn : j = b.length := by simp at h; omega
      subst hn
      (refine gq30 ?_; try with_reducible exact True.intro)
      refine zam hl ?_
      exact hK
def zet (x : ze) : AV := .agg [.d (.int .i64 x.client), .d (.int .i64 x.time), .d (.int .i64 x.op.kind), .d (.str x.op.topic), .d (.str x.op.group), .d (.int .i64 x.op.offset), .d (.slice (zeu x.op.recs)), .d (.int .i64 x.key), .d (.int .i64 x.dig)]
def reqA (x : ze) : AV := .agg [.d (.int .i64 x.client), .d (.int .i64 x.time), .d (.int .i64 x.op.kind), .d (.str x.op.topic), .d (.str x.op.group), .d (.int .i64 x.op.offset), .d (.slice (zeu x.op.recs))]
end Go.Proofs.YtjjchfbckfopkaaGreat

/- What is wrong with requests, signatures and batches, as the document says. No program in sight. -/
set_option linter.unusedSimpArgs false
namespace Go.AW

def zB (x : ze) : Int := if x.client < 0 ∨ x.client ≥ 8 ∨ x.time < 1 ∨ x.time > 9007199254740992 then 80 else zbE zgK x.op
def zah (k d : Int) : Int := if k < 0 ∨ k ≥ 21 ∨ d < 1 ∨ d > 9007199254740992 then 81 else 0
def znv (s : ze) : Int := if zB s ≠ 0 then zB s else zah s.key s.dig
def zgM : List ze → Int
  | [] => 0
  | s :: r => if znv s ≠ 0 then znv s else zgM r
def ndup (a b : ze) : Prop := ¬ (a.client = b.client ∧ a.time = b.time)
instance : DecidableRel ndup := fun a b => inferInstanceAs (Decidable (¬ _))
def zw (l : List ze) : Int :=
  if l.length > 4 then 3 else if zgM l ≠ 0 then zgM l else if l.Pairwise ndup then 0 else 5

theorem zhG {l : List ze} : ∀ {k : Nat} {x : ze}, l[k]? = some x → zgM (l.take k) = 0 → znv x ≠ 0 → zgM l = znv x := by
  induction l with
  | nil => intro k x h; simp at h
  | cons s r ih =>
    intro k x h h0 hx
    cases k with
    | zero => simp at h; subst h; simp [zgM, hx]
    | succ k =>
      simp only [List.take_succ_cons, zgM] at h0 ⊢
      simp at h
      split at h0
      · rename_i hs; exact absurd h0 hs
      · rename_i hs; rw [if_neg hs]; exact ih h h0 hx
theorem znu {l : List ze} {k : Nat} {x : ze} (h : l[k]? = some x) (h0 : zgM (l.take k) = 0) (hx : znv x = 0) : zgM (l.take (k + 1)) = 0 := by
  have key : ∀ (a : List ze), zgM a = 0 → zgM (a ++ [x]) = 0 := by
    intro a
    induction a with
    | nil => intro _; simp [zgM, hx]
    | cons s r ih =>
      intro h
      simp only [List.cons_append, zgM] at h ⊢
      split at h
      · rename_i hs; exact absurd h hs
      · rename_i hs; rw [if_neg hs]; exact ih h
  rw [List.take_add_one, h]
  exact key _ h0
theorem zng {l : List ze} {k : Nat} {x : ze} (h : l[k]? = some x) (h0 : (l.take k).Pairwise ndup) (hx : ∀ y ∈ l.take k, ¬ (x.client = y.client ∧ x.time = y.time)) : (l.take (k + 1)).Pairwise ndup := by
  rw [List.take_add_one, h]
  refine List.pairwise_append.2 ⟨h0, by simp, fun a ha b hb => ?_⟩
  simp at hb; subst hb
  exact fun e => hx a ha ⟨e.1.symm, e.2.symm⟩
theorem pairs_not {l : List ze} {k j : Nat} {x y : ze} (h : l[k]? = some x) (hy : l[j]? = some y) (hj : j < k) (hxy : x.client = y.client ∧ x.time = y.time) : ¬ l.Pairwise ndup := by
  intro hp
  rw [List.pairwise_iff_getElem] at hp
  obtain ⟨hk, rfl⟩ := List.getElem?_eq_some_iff.1 h
  obtain ⟨hj', rfl⟩ := List.getElem?_eq_some_iff.1 hy
  exact hp j k hj' hk hj ⟨hxy.1.symm, hxy.2.symm⟩

def okO (o : TOp) : Prop := o.topic.length ≤ 1073741824 ∧ o.group.length ≤ 1073741824 ∧ o.recs.length ≤ 1073741824 ∧ ∀ r ∈ o.recs, r.length ≤ 1073741824
def okB (b : List ze) : Prop := b.length ≤ 1073741824 ∧ ∀ x ∈ b, okO x.op
end Go.AW
