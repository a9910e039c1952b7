/- Contracts: Parse. -/
import Derived.Test.YtahbjkanmagndaaRd3
set_option linter.all false
set_option maxRecDepth 100000
set_option linter.unusedSimpArgs false
namespace Go.Proofs.Ytahbjkanmagndaa
open Go.AW

def parseF (b : List UInt8) : TOp × Int :=
  let x := takeOpP false nameF ⟨b, 0⟩
  let e := if x.2.e = 0 ∧ 0 < x.2.b.length then 12 else x.2.e
  (if e = 0 then x.1 else noOp, e)
theorem opA_noOp : opA noOp = .agg [.d (.int .i64 0), .d (.str []), .d (.str []), .d (.int .i64 0), .d (.slice [])] := rfl
theorem c_opParse {σ : List AObj} {b : List UInt8} (hb : b.length ≤ 1073741824) {K : AV → List AObj → Prop} (hK : K (.tup [opA (parseF b).1, .d (.int .i64 (parseF b).2)]) σ) : ACall Try.prog n_op_Parse [.d (.slice (bcs b))] σ K := by
  refine acall_of isA_op_Parse rfl fun hl _ => s_op_Parse ?_
  simp only [S_op_Parse]
  simp -dsimp only [↓acallL, ↓loopL, ↓binC, ↓unC, ↓condC_b, ↓guardC_T, ↓guardC_F, ↓guardC_0, ↓pickC_b, ↓lenC, ↓slcC, ↓convC, ↓boxC, ↓allocC, ↓loadC, ↓storeC, ↓nilC, ↓faddrC, ↓fieldC, ↓iaddrC, ↓idxSC, ↓idxAC, ↓extractC, ↓buildC, ↓mksliceC, ↓appendC, ↓isnilC, ↓maxC, ↓minC, ↓callvC, ↓mkmapC, ↓mgetC, ↓msetC, ↓mdelC, ↓headC_cons, ↓rangeC, ↓BBL_true, ↓BBL_false, ↓BBL_not, binA, intOp, strOp, unA, esOf, bnd, intV, cellsA, fillV, srcE, dm, dm1, consO, cellA, maxL, minL, keepO, List.getElem?_cons_zero, List.getElem?_cons_succ, List.map_cons, List.map_nil, List.length_cons, List.length_nil, len_app, get_app, get_app0, set_app, set_app0, List.append_assoc, List.cons_append, List.nil_append, List.set_cons_zero, List.set_cons_succ, Nat.add_assoc, Nat.zero_add, Nat.add_zero, Nat.mul_one, Nat.reduceAdd, Int.toNat_natCast, Int.reduceToNat, Option.map_some, Option.map_none, Bool.false_eq_true, if_true, if_false, reduceIte, true_and, and_true, recsE_len, rep, splice, toDs, toD, chunks, List.take_succ_cons, List.take_zero, List.drop_succ_cons, List.drop_zero, List.take_nil, List.drop_nil, Nat.reduceLeDiff, Nat.le_refl, Nat.reduceSub, List.append_nil, List.all_cons, List.all_nil, sc, Bool.and_true, Bool.and_self, Nat.lt_irrefl]
  refine c_Read bcs_one (by rw [bcs_length]; omega) ?_
  simp -dsimp only [↓acallL, ↓loopL, ↓binC, ↓unC, ↓condC_b, ↓guardC_T, ↓guardC_F, ↓guardC_0, ↓pickC_b, ↓lenC, ↓slcC, ↓convC, ↓boxC, ↓allocC, ↓loadC, ↓storeC, ↓nilC, ↓faddrC, ↓fieldC, ↓iaddrC, ↓idxSC, ↓idxAC, ↓extractC, ↓buildC, ↓mksliceC, ↓appendC, ↓isnilC, ↓maxC, ↓minC, ↓callvC, ↓mkmapC, ↓mgetC, ↓msetC, ↓mdelC, ↓headC_cons, ↓rangeC, ↓BBL_true, ↓BBL_false, ↓BBL_not, binA, intOp, strOp, unA, esOf, bnd, intV, cellsA, fillV, srcE, dm, dm1, consO, cellA, maxL, minL, keepO, List.getElem?_cons_zero, List.getElem?_cons_succ, List.map_cons, List.map_nil, List.length_cons, List.length_nil, len_app, get_app, get_app0, set_app, set_app0, List.append_assoc, List.cons_append, List.nil_append, List.set_cons_zero, List.set_cons_succ, Nat.add_assoc, Nat.zero_add, Nat.add_zero, Nat.mul_one, Nat.reduceAdd, Int.toNat_natCast, Int.reduceToNat, Option.map_some, Option.map_none, Bool.false_eq_true, if_true, if_false, reduceIte, true_and, and_true, recsE_len, rep, splice, toDs, toD, chunks, List.take_succ_cons, List.take_zero, List.drop_succ_cons, List.drop_zero, List.take_nil, List.drop_nil, Nat.reduceLeDiff, Nat.le_refl, Nat.reduceSub, List.append_nil, List.all_cons, List.all_nil, sc, Bool.and_true, Bool.and_self, Nat.lt_irrefl]
  obtain ⟨x, hx⟩ : ∃ x, (takeOpP false nameF ⟨b, 0⟩).1 = x := ⟨_, rfl⟩
  obtain ⟨s2, hs2⟩ : ∃ s2, (takeOpP false nameF ⟨b, 0⟩).2 = s2 := ⟨_, rfl⟩
  have hP : parseF b = (if (if s2.e = 0 ∧ 0 < s2.b.length then 12 else s2.e) = 0 then x else noOp, if s2.e = 0 ∧ 0 < s2.b.length then 12 else s2.e) := by rw [parseF, hx, hs2]
  rw [hP] at hK
  refine c_opTake (s := ⟨b, 0⟩) (by simp -dsimp only [↓acallL, ↓loopL, ↓binC, ↓unC, ↓condC_b, ↓guardC_T, ↓guardC_F, ↓guardC_0, ↓pickC_b, ↓lenC, ↓slcC, ↓convC, ↓boxC, ↓allocC, ↓loadC, ↓storeC, ↓nilC, ↓faddrC, ↓fieldC, ↓iaddrC, ↓idxSC, ↓idxAC, ↓extractC, ↓buildC, ↓mksliceC, ↓appendC, ↓isnilC, ↓maxC, ↓minC, ↓callvC, ↓mkmapC, ↓mgetC, ↓msetC, ↓mdelC, ↓headC_cons, ↓rangeC, ↓BBL_true, ↓BBL_false, ↓BBL_not, binA, intOp, strOp, unA, esOf, bnd, intV, cellsA, fillV, srcE, dm, dm1, consO, cellA, maxL, minL, keepO, List.getElem?_cons_zero, List.getElem?_cons_succ, List.map_cons, List.map_nil, List.length_cons, List.length_nil, len_app, get_app, get_app0, set_app, set_app0, List.append_assoc, List.cons_append, List.nil_append, List.set_cons_zero, List.set_cons_succ, Nat.add_assoc, Nat.zero_add, Nat.add_zero, Nat.mul_one, Nat.reduceAdd, Int.toNat_natCast, Int.reduceToNat, Option.map_some, Option.map_none, Bool.false_eq_true, if_true, if_false, reduceIte, true_and, and_true, recsE_len, rep, splice, toDs, toD, chunks, List.take_succ_cons, List.take_zero, List.drop_succ_cons, List.drop_zero, List.take_nil, List.drop_nil, Nat.reduceLeDiff, Nat.le_refl, Nat.reduceSub, List.append_nil, List.all_cons, List.all_nil, sc, Bool.and_true, Bool.and_self, Nat.lt_irrefl]; rfl) (.inr ⟨_, rfl⟩) hb ?_
  rw [hx, hs2]
  intro c' n' hc'
  simp -dsimp only [↓acallL, ↓loopL, ↓binC, ↓unC, ↓condC_b, ↓guardC_T, ↓guardC_F, ↓guardC_0, ↓pickC_b, ↓lenC, ↓slcC, ↓convC, ↓boxC, ↓allocC, ↓loadC, ↓storeC, ↓nilC, ↓faddrC, ↓fieldC, ↓iaddrC, ↓idxSC, ↓idxAC, ↓extractC, ↓buildC, ↓mksliceC, ↓appendC, ↓isnilC, ↓maxC, ↓minC, ↓callvC, ↓mkmapC, ↓mgetC, ↓msetC, ↓mdelC, ↓headC_cons, ↓rangeC, ↓BBL_true, ↓BBL_false, ↓BBL_not, binA, intOp, strOp, unA, esOf, bnd, intV, cellsA, fillV, srcE, dm, dm1, consO, cellA, maxL, minL, keepO, List.getElem?_cons_zero, List.getElem?_cons_succ, List.map_cons, List.map_nil, List.length_cons, List.length_nil, len_app, get_app, get_app0, set_app, set_app0, List.append_assoc, List.cons_append, List.nil_append, List.set_cons_zero, List.set_cons_succ, Nat.add_assoc, Nat.zero_add, Nat.add_zero, Nat.mul_one, Nat.reduceAdd, Int.toNat_natCast, Int.reduceToNat, Option.map_some, Option.map_none, Bool.false_eq_true, if_true, if_false, reduceIte, true_and, and_true, recsE_len, rep, splice, toDs, toD, chunks, List.take_succ_cons, List.take_zero, List.drop_succ_cons, List.drop_zero, List.take_nil, List.drop_nil, Nat.reduceLeDiff, Nat.le_refl, Nat.reduceSub, List.append_nil, List.all_cons, List.all_nil, sc, Bool.and_true, Bool.and_self, Nat.lt_irrefl, opA]
  refine c_Done (B := s2.b) (e := s2.e) (by simp -dsimp only [↓acallL, ↓loopL, ↓binC, ↓unC, ↓condC_b, ↓guardC_T, ↓guardC_F, ↓guardC_0, ↓pickC_b, ↓lenC, ↓slcC, ↓convC, ↓boxC, ↓allocC, ↓loadC, ↓storeC, ↓nilC, ↓faddrC, ↓fieldC, ↓iaddrC, ↓idxSC, ↓idxAC, ↓extractC, ↓buildC, ↓mksliceC, ↓appendC, ↓isnilC, ↓maxC, ↓minC, ↓callvC, ↓mkmapC, ↓mgetC, ↓msetC, ↓mdelC, ↓headC_cons, ↓rangeC, ↓BBL_true, ↓BBL_false, ↓BBL_not, binA, intOp, strOp, unA, esOf, bnd, intV, cellsA, fillV, srcE, dm, dm1, consO, cellA, maxL, minL, keepO, List.getElem?_cons_zero, List.getElem?_cons_succ, List.map_cons, List.map_nil, List.length_cons, List.length_nil, len_app, get_app, get_app0, set_app, set_app0, List.append_assoc, List.cons_append, List.nil_append, List.set_cons_zero, List.set_cons_succ, Nat.add_assoc, Nat.zero_add, Nat.add_zero, Nat.mul_one, Nat.reduceAdd, Int.toNat_natCast, Int.reduceToNat, Option.map_some, Option.map_none, Bool.false_eq_true, if_true, if_false, reduceIte, true_and, and_true, recsE_len, rep, splice, toDs, toD, chunks, List.take_succ_cons, List.take_zero, List.drop_succ_cons, List.drop_zero, List.take_nil, List.drop_nil, Nat.reduceLeDiff, Nat.le_refl, Nat.reduceSub, List.append_nil, List.all_cons, List.all_nil, sc, Bool.and_true, Bool.and_self, Nat.lt_irrefl]) hc' ?_
  obtain ⟨e, he⟩ : ∃ e, (if s2.e = 0 ∧ 0 < s2.b.length then 12 else s2.e) = e := ⟨_, rfl⟩
  rw [he] at hK ⊢
  simp -dsimp only [↓acallL, ↓loopL, ↓binC, ↓unC, ↓condC_b, ↓guardC_T, ↓guardC_F, ↓guardC_0, ↓pickC_b, ↓lenC, ↓slcC, ↓convC, ↓boxC, ↓allocC, ↓loadC, ↓storeC, ↓nilC, ↓faddrC, ↓fieldC, ↓iaddrC, ↓idxSC, ↓idxAC, ↓extractC, ↓buildC, ↓mksliceC, ↓appendC, ↓isnilC, ↓maxC, ↓minC, ↓callvC, ↓mkmapC, ↓mgetC, ↓msetC, ↓mdelC, ↓headC_cons, ↓rangeC, ↓BBL_true, ↓BBL_false, ↓BBL_not, binA, intOp, strOp, unA, esOf, bnd, intV, cellsA, fillV, srcE, dm, dm1, consO, cellA, maxL, minL, keepO, List.getElem?_cons_zero, List.getElem?_cons_succ, List.map_cons, List.map_nil, List.length_cons, List.length_nil, len_app, get_app, get_app0, set_app, set_app0, List.append_assoc, List.cons_append, List.nil_append, List.set_cons_zero, List.set_cons_succ, Nat.add_assoc, Nat.zero_add, Nat.add_zero, Nat.mul_one, Nat.reduceAdd, Int.toNat_natCast, Int.reduceToNat, Option.map_some, Option.map_none, Bool.false_eq_true, if_true, if_false, reduceIte, true_and, and_true, recsE_len, rep, splice, toDs, toD, chunks, List.take_succ_cons, List.take_zero, List.drop_succ_cons, List.drop_zero, List.take_nil, List.drop_nil, Nat.reduceLeDiff, Nat.le_refl, Nat.reduceSub, List.append_nil, List.all_cons, List.all_nil, sc, Bool.and_true, Bool.and_self, Nat.lt_irrefl]
  refine BBL_intro (fun h => ?_) (fun h => ?_)
  all_goals
    simp -dsimp only [↓acallL, ↓loopL, ↓binC, ↓unC, ↓condC_b, ↓guardC_T, ↓guardC_F, ↓guardC_0, ↓pickC_b, ↓lenC, ↓slcC, ↓convC, ↓boxC, ↓allocC, ↓loadC, ↓storeC, ↓nilC, ↓faddrC, ↓fieldC, ↓iaddrC, ↓idxSC, ↓idxAC, ↓extractC, ↓buildC, ↓mksliceC, ↓appendC, ↓isnilC, ↓maxC, ↓minC, ↓callvC, ↓mkmapC, ↓mgetC, ↓msetC, ↓mdelC, ↓headC_cons, ↓rangeC, ↓BBL_true, ↓BBL_false, ↓BBL_not, binA, intOp, strOp, unA, esOf, bnd, intV, cellsA, fillV, srcE, dm, dm1, consO, cellA, maxL, minL, keepO, List.getElem?_cons_zero, List.getElem?_cons_succ, List.map_cons, List.map_nil, List.length_cons, List.length_nil, len_app, get_app, get_app0, set_app, set_app0, List.append_assoc, List.cons_append, List.nil_append, List.set_cons_zero, List.set_cons_succ, Nat.add_assoc, Nat.zero_add, Nat.add_zero, Nat.mul_one, Nat.reduceAdd, Int.toNat_natCast, Int.reduceToNat, Option.map_some, Option.map_none, Bool.false_eq_true, if_true, if_false, reduceIte, true_and, and_true, recsE_len, rep, splice, toDs, toD, chunks, List.take_succ_cons, List.take_zero, List.drop_succ_cons, List.drop_zero, List.take_nil, List.drop_nil, Nat.reduceLeDiff, Nat.le_refl, Nat.reduceSub, List.append_nil, List.all_cons, List.all_nil, sc, Bool.and_true, Bool.and_self, Nat.lt_irrefl]
    repeat' ((with_reducible refine And.intro ?_ ?_); focus (first | omega | rfl | decide))
    try simp -dsimp only [↓acallL, ↓loopL, ↓binC, ↓unC, ↓condC_b, ↓guardC_T, ↓guardC_F, ↓guardC_0, ↓pickC_b, ↓lenC, ↓slcC, ↓convC, ↓boxC, ↓allocC, ↓loadC, ↓storeC, ↓nilC, ↓faddrC, ↓fieldC, ↓iaddrC, ↓idxSC, ↓idxAC, ↓extractC, ↓buildC, ↓mksliceC, ↓appendC, ↓isnilC, ↓maxC, ↓minC, ↓callvC, ↓mkmapC, ↓mgetC, ↓msetC, ↓mdelC, ↓headC_cons, ↓rangeC, ↓BBL_true, ↓BBL_false, ↓BBL_not, binA, intOp, strOp, unA, esOf, bnd, intV, cellsA, fillV, srcE, dm, dm1, consO, cellA, maxL, minL, keepO, List.getElem?_cons_zero, List.getElem?_cons_succ, List.map_cons, List.map_nil, List.length_cons, List.length_nil, len_app, get_app, get_app0, set_app, set_app0, List.append_assoc, List.cons_append, List.nil_append, List.set_cons_zero, List.set_cons_succ, Nat.add_assoc, Nat.zero_add, Nat.add_zero, Nat.mul_one, Nat.reduceAdd, Int.toNat_natCast, Int.reduceToNat, Option.map_some, Option.map_none, Bool.false_eq_true, if_true, if_false, reduceIte, true_and, and_true, recsE_len, rep, splice, toDs, toD, chunks, List.take_succ_cons, List.take_zero, List.drop_succ_cons, List.drop_zero, List.take_nil, List.drop_nil, Nat.reduceLeDiff, Nat.le_refl, Nat.reduceSub, List.append_nil, List.all_cons, List.all_nil, sc, Bool.and_true, Bool.and_self, Nat.lt_irrefl]
  · have h0 : ¬ e = 0 := by simpa using h
    rw [if_neg h0] at hK
    exact ends_plain (by simp [Low_d, dmT, dm, dm1, pack, Low_tup, Low_agg, opA]) hl hK
  · have h0 : e = 0 := by simpa using h
    rw [if_pos h0, h0] at hK
    exact ends_plain (by simp [Low_d, dmT, dm, dm1, pack, Low_tup, Low_agg, opA]) hl hK
/-- what was put is parsed -/
theorem parseF_put {o : TOp} (h : checkOpF nameF o = 0) : parseF (opB o) = (o, 0) := by
  have := takeOpP_put false h []
  rw [List.append_nil] at this
  rw [parseF, this]
  simp
/-- what is parsed may be, and has those bytes -/
theorem parseF_ok {b : List UInt8} (h : (parseF b).2 = 0) : checkOpF nameF (parseF b).1 = 0 ∧ b = opB (parseF b).1 := by
  have h1 : (takeOpP false nameF ⟨b, 0⟩).2.e = 0 ∧ (takeOpP false nameF ⟨b, 0⟩).2.b = [] := by
    simp only [parseF] at h
    split at h
    · omega
    · rename_i hn
      refine ⟨h, ?_⟩
      cases hb : (takeOpP false nameF ⟨b, 0⟩).2.b with
      | nil => rfl
      | cons c r => exact absurd ⟨h, by rw [hb]; simp⟩ hn
  obtain ⟨_, g2, g3⟩ := takeOpP_ok h1.1
  have e : (parseF b).1 = (takeOpP false nameF ⟨b, 0⟩).1 := by
    simp only [parseF, h1.1, h1.2]; simp
  rw [e]
  refine ⟨g2, ?_⟩
  rw [h1.2, List.append_nil] at g3
  exact g3
theorem fieldsP_sz {k : Nat} {s : Rd} : opSz (fieldsP false k s).1 ≤ 1024 := by
  have a := bytesP_len1 false 64 s
  have b := bytesP_len1 false 64 (bytesP false 64 s).2
  have hr : ∀ n s, n ≤ 4 → ((recsP false n s).1.map fun r => r.length + 10).sum ≤ 74 * n := by
    intro n s
    induction n with
    | zero => simp [recsP]
    | succ n ih =>
      intro h
      have := ih (by omega)
      have := bytesP_len1 false 64 (recsP false n s).2
      simp only [recsP, List.map_append, List.map_cons, List.map_nil, List.sum_append, List.sum_cons, List.sum_nil]
      omega
  have hn := numP_le false 4 (bytesP false 64 s).2
  have := hr _ (numP false 4 (bytesP false 64 s).2).2 hn
  unfold fieldsP opSz
  simp only
  split
  · simp [noOp]
  · split
    · simp only [List.length_nil]; omega
    · split
      · simp only [List.map_nil, List.sum_nil]; omega
      · split
        · simp only [List.map_nil, List.sum_nil, List.length_nil]; omega
        · simp only [List.map_nil, List.sum_nil, List.length_nil]; omega
theorem parseF_sz (b : List UInt8) : opSz (parseF b).1 ≤ 1024 := by
  have := @fieldsP_sz (numP false 4 ⟨b, 0⟩).1 (numP false 4 ⟨b, 0⟩).2
  have z : opSz noOp ≤ 1024 := by decide
  unfold parseF takeOpP
  simp only
  repeat' split
  all_goals first
    | exact this
    | exact z
end Go.Proofs.Ytahbjkanmagndaa
