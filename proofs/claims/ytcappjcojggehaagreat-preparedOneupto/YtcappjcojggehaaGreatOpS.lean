/- Contracts: which operations are the same, by the reference. -/
import Derived.Test.YtcappjcojggehaaGreatSh
import Derived.Test.YtcappjcojggehaaGreatSpNum
import Derived.Test.YtcappjcojggehaaGreatOpC
import Derived.Test.YtcappjcojggehaaGreatSpUtf
set_option linter.all false

set_option maxRecDepth 100000
set_option linter.unusedSimpArgs false
namespace Go.Proofs.YtcappjcojggehaaGreat
open Go.AW

end Go.Proofs.YtcappjcojggehaaGreat

/- Contracts: batches: in memory of their own; which are the same, by the reference. -/
set_option maxRecDepth 100000
set_option linter.unusedSimpArgs false
namespace Go.Proofs.YtcappjcojggehaaGreat
open Go.AW

def smallB (b : List zd) : Prop := b.length ≤ 1073741824 ∧ ∀ x ∈ b, x.op.recs.length ≤ 1073741824 ∧ ∀ r ∈ x.op.recs, r.length ≤ 1073741824
theorem gq37 {A P Q : Prop} (a : A) (h : Q) (e : A → P = Q := by intro a; simp -dsimp only [↓zcI, ↓zai, ↓zaH, ↓zcJ, ↓zcE, ↓zcC, ↓zcF, ↓zcD, ↓zaM, ↓zaI, ↓zaN, ↓zaJ, ↓zcG, ↓zaG, ↓zaO, ↓zaK, ↓zaP, ↓zaL, ↓zcB, ↓zcH, ↓zaF, ↓zaQ, ↓zcy, ↓zcx, ↓zcA, iN, bT, bF, eN, ↓zbL, ↓unC, ↓zH, ↓zw, ↓zx, ↓zB, ↓zK, ↓zaz, ↓zbv, ↓zY, ↓zbh, ↓zP, ↓zr, ↓zp, ↓zbj, ↓zf, ↓zU, ↓zF, ↓zan, ↓zas, ↓zc, ↓zC, ↓zj, ↓zl, ↓zab, ↓zbK, ↓zbJ, ↓zae, ↓zah, ↓zam, ↓zav, ↓zaB, ↓zg, ↓zW, ↓zy, ↓zi, ↓zJ, zbM, zaE, zaD, unA, zbQ, bnd, zcb, zQ, zag, zcd, dm, dm1, zM, zao, zcr, zcq, zS, Q0, Q1, Q2, Q3, Q4, Q5, zG, zh, zn, zq, zt, Q6, Q7, Q8, Q9, Q10, Q11, Q12, Q13, Q14, Nat.reduceAdd, Q15, Int.reduceToNat, Q16, Q17, Q18, Q19, Q20, reduceIte, Q21, Q22, zm, rep, zL, zcz, toD, zac, Q23, Q24, Q25, Q26, Q27, Q28, Nat.reduceLeDiff, Q29, Nat.reduceSub, Q30, Q31, Q32, sc, Q33, Q34, Q35, zbr, a]; rfl) : P := (e a).mpr h
theorem gq38 {P Q : Prop} (h : Q) (e : P = Q := by simp -dsimp only [↓zcI, ↓zai, ↓zaH, ↓zcJ, ↓zcE, ↓zcC, ↓zcF, ↓zcD, ↓zaM, ↓zaI, ↓zaN, ↓zaJ, ↓zcG, ↓zaG, ↓zaO, ↓zaK, ↓zaP, ↓zaL, ↓zcB, ↓zcH, ↓zaF, ↓zaQ, ↓zcy, ↓zcx, ↓zcA, iN, bT, bF, eN, ↓zbL, ↓unC, ↓zH, ↓zw, ↓zx, ↓zB, ↓zK, ↓zaz, ↓zbv, ↓zY, ↓zbh, ↓zP, ↓zr, ↓zp, ↓zbj, ↓zf, ↓zU, ↓zF, ↓zan, ↓zas, ↓zc, ↓zC, ↓zj, ↓zl, ↓zab, ↓zbK, ↓zbJ, ↓zae, ↓zah, ↓zam, ↓zav, ↓zaB, ↓zg, ↓zW, ↓zy, ↓zi, ↓zJ, zbM, zaE, zaD, unA, zbQ, bnd, zcb, zQ, zag, zcd, dm, dm1, zM, zao, zcr, zcq, zS, Q0, Q1, Q2, Q3, Q4, Q5, zG, zh, zn, zq, zt, Q6, Q7, Q8, Q9, Q10, Q11, Q12, Q13, Q14, Nat.reduceAdd, Q15, Int.reduceToNat, Q16, Q17, Q18, Q19, Q20, reduceIte, Q21, Q22, zm, rep, zL, zcz, toD, zac, Q23, Q24, Q25, Q26, Q27, Q28, Nat.reduceLeDiff, Q29, Nat.reduceSub, Q30, Q31, Q32, sc, Q33, Q34, Q35, opA]; rfl) : P := e.mpr h
theorem c_rqClone {σ : List zb} {b : List zd} (hb : smallB b) {K : AV → List zb → Prop} (hK : K (.d (.slice (zbs b))) σ) : zN Tryz.prog zex [.d (.slice (zbs b))] σ K := by
  refine zk zhv.is rfl fun hl _ => zhv.goes ?_
  simp only [zhG, iN, bT, bF, eN]
  (refine gq33 ?_; try with_reducible exact True.intro)
  refine zV b.length (fun j vs q => ∃ B T, vs = [if j = 0 then .exact [] else .own (σ.length + 1) (zbs (b.take j)), .d (.int .i64 j)] ∧ q = σ ++ (if j = 0 then [] else B :: .tok 9 (zbs (b.take j)).length :: T)) ⟨.tok 1 0, [], rfl, by simp⟩ ?_
  rintro j vs q hj ⟨B, T, rfl, rfl⟩
  obtain ⟨hb1, hb2⟩ := hb
  by_cases hj0 : j = 0
  · subst hj0
    simp only [if_true]
    (refine gq33 ?_; try with_reducible exact True.intro)
    refine zZ (fun h => ?_) (fun h => ?_)
    · have hlt : 0 < b.length := by simp at h; omega
      have hx : b[0]? = some b[0] := by simp [hlt]
      obtain ⟨hr1, hr2⟩ := hb2 _ (List.getElem_mem hlt)
      have hgx := zaT (f := zbr) hx
      have hsn := map_snoc (f := zbr) hx
      obtain ⟨x, hxe⟩ : ∃ x, b[0] = x := ⟨_, rfl⟩
      rw [hxe] at hgx hsn hr1 hr2
      (refine gq37 (gqc2 (show ((0 : Nat) : Int) = 0 from rfl) hgx) ?_; try with_reducible exact True.intro)
      refine ⟨by omega, c_opClone (o := x.op) hr1 hr2 ?_⟩
      (refine gq38 ?_; try with_reducible exact True.intro)
      repeat' ((with_reducible refine And.intro ?_ ?_); focus (first | omega | simp))
      refine zaR.next hlt ⟨.box ((zbr x).map .d), [], ?_, ?_⟩
      · rw [if_neg (by omega)]
        simp only [List.take_zero, List.map_nil, List.nil_append, zbr] at hsn
        simp only [zbs, ← hsn, Nat.zero_add]
        rfl
      · rw [if_neg (by omega), List.length_map, show (List.take (0 + 1) b).length = 1 by rw [List.length_take]; omega]
        rfl
    · have hn : b = [] := by simp at h; exact h
      (first | refine zar hl ?_ | refine zaq hl ?_)
      rw [hn] at hK
      exact hK
  · simp only [if_neg hj0]
    have hlj : (b.take j).length = j := by rw [List.length_take]; omega
    (refine gq33 ?_; try with_reducible exact True.intro)
    refine zZ (fun h => ?_) (fun h => ?_)
    · have hlt : j < b.length := by simp at h; omega
      have hx : b[j]? = some b[j] := by simp [hlt]
      obtain ⟨hr1, hr2⟩ := hb2 _ (List.getElem_mem hlt)
      have hgx := zaT (f := zbr) hx
      have hsn := map_snoc (f := zbr) hx
      obtain ⟨x, hxe⟩ : ∃ x, b[j] = x := ⟨_, rfl⟩
      rw [hxe] at hgx hsn hr1 hr2
      (refine gq37 hgx ?_; try with_reducible exact True.intro)
      refine ⟨by omega, c_opClone (o := x.op) hr1 hr2 ?_⟩
      (refine gq38 ?_; try with_reducible exact True.intro)
      repeat' ((with_reducible refine And.intro ?_ ?_); focus (first | omega | (simp only [List.length_map, List.length_take]; omega) | simp))
      refine zaR.next hlt ⟨B, T ++ [.box ((zbr x).map .d)], ?_, ?_⟩
      · rw [if_neg (by omega), show (j : Int) + 1 = ((j + 1 : Nat) : Int) by omega, zaj (by omega) (by omega)]
        simp only [zbr] at hsn
        simp only [zbs, ← hsn]
      · rw [if_neg (by omega)]
        simp only [List.length_map, List.length_take, List.cons_append]
        rw [show min j b.length + 1 = min (j + 1) b.length by omega]
        rfl
    · have hn : j = b.length := by simp at h; omega
      subst hn
      (refine gq36 ?_; try with_reducible exact True.intro)
      (first | refine zar hl ?_ | refine zaq hl ?_)
      exact hK
def zet (x : zd) : AV := .agg [.d (.int .i64 x.client), .d (.int .i64 x.time), .d (.int .i64 x.op.kind), .d (.str x.op.topic), .d (.str x.op.group), .d (.int .i64 x.op.offset), .d (.slice (zdy x.op.recs)), .d (.int .i64 x.key), .d (.int .i64 x.dig)]
def reqA (x : zd) : AV := .agg [.d (.int .i64 x.client), .d (.int .i64 x.time), .d (.int .i64 x.op.kind), .d (.str x.op.topic), .d (.str x.op.group), .d (.int .i64 x.op.offset), .d (.slice (zdy x.op.recs))]
end Go.Proofs.YtcappjcojggehaaGreat

/- What is wrong with requests, signatures and batches, as the document says. No program in sight. -/
set_option linter.unusedSimpArgs false
namespace Go.AW

def zI (x : zd) : Int := if x.client < 0 ∨ x.client ≥ 8 ∨ x.time < 1 ∨ x.time > 9007199254740992 then 80 else zbA zhf x.op
def zal (k d : Int) : Int := if k < 0 ∨ k ≥ 21 ∨ d < 1 ∨ d > 9007199254740992 then 81 else 0
def znl (s : zd) : Int := if zI s ≠ 0 then zI s else zal s.key s.dig
def zhh : List zd → Int
  | [] => 0
  | s :: r => if znl s ≠ 0 then znl s else zhh r
def ndup (a b : zd) : Prop := ¬ (a.client = b.client ∧ a.time = b.time)
instance : DecidableRel ndup := fun a b => inferInstanceAs (Decidable (¬ _))
def zD (l : List zd) : Int :=
  if l.length > 4 then 3 else if zhh l ≠ 0 then zhh l else if l.Pairwise ndup then 0 else 5

theorem zhW {l : List zd} : ∀ {k : Nat} {x : zd}, l[k]? = some x → zhh (l.take k) = 0 → znl x ≠ 0 → zhh l = znl x := by
  induction l with
  | nil => intro k x h; simp at h
  | cons s r ih =>
    intro k x h h0 hx
    cases k with
    | zero => simp at h; subst h; simp [zhh, hx]
    | succ k =>
      simp only [List.take_succ_cons, zhh] at h0 ⊢
      simp at h
      split at h0
      · rename_i hs; exact absurd h0 hs
      · rename_i hs; rw [if_neg hs]; exact ih h h0 hx
theorem znk {l : List zd} {k : Nat} {x : zd} (h : l[k]? = some x) (h0 : zhh (l.take k) = 0) (hx : znl x = 0) : zhh (l.take (k + 1)) = 0 := by
  have key : ∀ (a : List zd), zhh a = 0 → zhh (a ++ [x]) = 0 := by
    intro a
    induction a with
    | nil => intro _; simp [zhh, hx]
    | cons s r ih =>
      intro h
      simp only [List.cons_append, zhh] at h ⊢
      split at h
      · rename_i hs; exact absurd h hs
      · rename_i hs; rw [if_neg hs]; exact ih h
  rw [List.take_add_one, h]
  exact key _ h0
theorem zmU {l : List zd} {k : Nat} {x : zd} (h : l[k]? = some x) (h0 : (l.take k).Pairwise ndup) (hx : ∀ y ∈ l.take k, ¬ (x.client = y.client ∧ x.time = y.time)) : (l.take (k + 1)).Pairwise ndup := by
  rw [List.take_add_one, h]
  refine List.pairwise_append.2 ⟨h0, by simp, fun a ha b hb => ?_⟩
  simp at hb; subst hb
  exact fun e => hx a ha ⟨e.1.symm, e.2.symm⟩
theorem pairs_not {l : List zd} {k j : Nat} {x y : zd} (h : l[k]? = some x) (hy : l[j]? = some y) (hj : j < k) (hxy : x.client = y.client ∧ x.time = y.time) : ¬ l.Pairwise ndup := by
  intro hp
  rw [List.pairwise_iff_getElem] at hp
  obtain ⟨hk, rfl⟩ := List.getElem?_eq_some_iff.1 h
  obtain ⟨hj', rfl⟩ := List.getElem?_eq_some_iff.1 hy
  exact hp j k hj' hk hj ⟨hxy.1.symm, hxy.2.symm⟩

def okO (o : TOp) : Prop := o.topic.length ≤ 1073741824 ∧ o.group.length ≤ 1073741824 ∧ o.recs.length ≤ 1073741824 ∧ ∀ r ∈ o.recs, r.length ≤ 1073741824
def okB (b : List zd) : Prop := b.length ≤ 1073741824 ∧ ∀ x ∈ b, okO x.op
end Go.AW
