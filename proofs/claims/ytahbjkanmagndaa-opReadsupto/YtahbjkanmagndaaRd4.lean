/- Contracts: Parse. -/
import Derived.Test.YtahbjkanmagndaaRd3
import Derived.Test.YtahbjkanmagndaaRd1
set_option linter.all false
set_option maxRecDepth 100000
set_option linter.unusedSimpArgs false
namespace Go.Proofs.Ytahbjkanmagndaa
open Go.AW

def parseF (b : List UInt8) : TOp × Int :=
  let x := takeOpP false nameF ⟨b, 0⟩
  let e := if x.2.e = 0 ∧ 0 < x.2.b.length then 12 else x.2.e
  (if e = 0 then x.1 else noOp, e)
theorem opA_noOp : opA noOp = .agg [.d (.int .i64 0), .d (.str []), .d (.str []), .d (.int .i64 0), .d (.slice [])] := rfl
theorem c_opParse {σ : List AObj} {b : List UInt8} (hb : b.length ≤ 1073741824) {K : AV → List AObj → Prop} (hK : K (.tup [opA (parseF b).1, .d (.int .i64 (parseF b).2)]) σ) : ACall Try.prog n_op_Parse [.d (.slice (bcs b))] σ K := by
  refine acall_of isA_op_Parse rfl fun hl _ => s_op_Parse ?_
  simp only [S_op_Parse]
  simp -dsimp only [↓acallL, ↓loopL, ↓binC, ↓unC, ↓condC_b, ↓guardC_T, ↓guardC_F, ↓guardC_0, ↓pickC_b, ↓lenC, ↓slcC, ↓convC, ↓boxC, ↓allocC, ↓loadC, ↓storeC, ↓nilC, ↓faddrC, ↓fieldC, ↓iaddrC, ↓idxSC, ↓idxAC, ↓extractC, ↓buildC, ↓mksliceC, ↓appendC, ↓isnilC, ↓maxC, ↓minC, ↓callvC, ↓mkmapC, ↓mgetC, ↓msetC, ↓mdelC, ↓headC_cons, ↓rangeC, ↓BBL_true, ↓BBL_false, ↓BBL_not, binA, intOp, strOp, unA, esOf, bnd, intV, cellsA, fillV, srcE, dm, dm1, consO, cellA, maxL, minL, keepO, List.getElem?_cons_zero, List.getElem?_cons_succ, List.map_cons, List.map_nil, List.length_cons, List.length_nil, len_app, get_app, get_app0, set_app, set_app0, List.append_assoc, List.cons_append, List.nil_append, List.set_cons_zero, List.set_cons_succ, Nat.add_assoc, Nat.zero_add, Nat.add_zero, Nat.mul_one, Nat.reduceAdd, Int.toNat_natCast, Int.reduceToNat, Option.map_some, Option.map_none, Bool.false_eq_true, if_true, if_false, reduceIte, true_and, and_true, recsE_len, rep, splice, toDs, toD, chunks, List.take_succ_cons, List.take_zero, List.drop_succ_cons, List.drop_zero, List.take_nil, List.drop_nil, Nat.reduceLeDiff, Nat.le_refl, Nat.reduceSub, List.append_nil, List.all_cons, List.all_nil, sc, Bool.and_true, Bool.and_self, Nat.lt_irrefl]
  refine c_Read bcs_one (by rw [bcs_length]; omega) ?_
  simp -dsimp only [↓acallL, ↓loopL, ↓binC, ↓unC, ↓condC_b, ↓guardC_T, ↓guardC_F, ↓guardC_0, ↓pickC_b, ↓lenC, ↓slcC, ↓convC, ↓boxC, ↓allocC, ↓loadC, ↓storeC, ↓nilC, ↓faddrC, ↓fieldC, ↓iaddrC, ↓idxSC, ↓idxAC, ↓extractC, ↓buildC, ↓mksliceC, ↓appendC, ↓isnilC, ↓maxC, ↓minC, ↓callvC, ↓mkmapC, ↓mgetC, ↓msetC, ↓mdelC, ↓headC_cons, ↓rangeC, ↓BBL_true, ↓BBL_false, ↓BBL_not, binA, intOp, strOp, unA, esOf, bnd, intV, cellsA, fillV, srcE, dm, dm1, consO, cellA, maxL, minL, keepO, List.getElem?_cons_zero, List.getElem?_cons_succ, List.map_cons, List.map_nil, List.length_cons, List.length_nil, len_app, get_app, get_app0, set_app, set_app0, List.append_assoc, List.cons_append, List.nil_append, List.set_cons_zero, List.set_cons_succ, Nat.add_assoc, Nat.zero_add, Nat.add_zero, Nat.mul_one, Nat.reduceAdd, Int.toNat_natCast, Int.reduceToNat, Option.map_some, Option.map_none, Bool.false_eq_true, if_true, if_false, reduceIte, true_and, and_true, recsE_len, rep, splice, toDs, toD, chunks, List.take_succ_cons, List.take_zero, List.drop_succ_cons, List.drop_zero, List.take_nil, List.drop_nil, Nat.reduceLeDiff, Nat.le_refl, Nat.reduceSub, List.append_nil, List.all_cons, List.all_nil, sc, Bool.and_true, Bool.and_self, Nat.lt_irrefl]
  obtain ⟨x, hx⟩ : ∃ x, (takeOpP false nameF ⟨b, 0⟩).1 = x := ⟨_, rfl⟩
  obtain ⟨s2, hs2⟩ : ∃ s2, (takeOpP false nameF ⟨b, 0⟩).2 = s2 := ⟨_, rfl⟩
  have hP : parseF b = (if (if s2.e = 0 ∧ 0 < s2.b.length then 12 else s2.e) = 0 then x else noOp, if s2.e = 0 ∧ 0 < s2.b.length then 12 else s2.e) := by rw [parseF, hx, hs2]
  rw [hP] at hK
  refine c_opTake (s := ⟨b, 0⟩) (by simp -dsimp only [↓acallL, ↓loopL, ↓binC, ↓unC, ↓condC_b, ↓guardC_T, ↓guardC_F, ↓guardC_0, ↓pickC_b, ↓lenC, ↓slcC, ↓convC, ↓boxC, ↓allocC, ↓loadC, ↓storeC, ↓nilC, ↓faddrC, ↓fieldC, ↓iaddrC, ↓idxSC, ↓idxAC, ↓extractC, ↓buildC, ↓mksliceC, ↓appendC, ↓isnilC, ↓maxC, ↓minC, ↓callvC, ↓mkmapC, ↓mgetC, ↓msetC, ↓mdelC, ↓headC_cons, ↓rangeC, ↓BBL_true, ↓BBL_false, ↓BBL_not, binA, intOp, strOp, unA, esOf, bnd, intV, cellsA, fillV, srcE, dm, dm1, consO, cellA, maxL, minL, keepO, List.getElem?_cons_zero, List.getElem?_cons_succ, List.map_cons, List.map_nil, List.length_cons, List.length_nil, len_app, get_app, get_app0, set_app, set_app0, List.append_assoc, List.cons_append, List.nil_append, List.set_cons_zero, List.set_cons_succ, Nat.add_assoc, Nat.zero_add, Nat.add_zero, Nat.mul_one, Nat.reduceAdd, Int.toNat_natCast, Int.reduceToNat, Option.map_some, Option.map_none, Bool.false_eq_true, if_true, if_false, reduceIte, true_and, and_true, recsE_len, rep, splice, toDs, toD, chunks, List.take_succ_cons, List.take_zero, List.drop_succ_cons, List.drop_zero, List.take_nil, List.drop_nil, Nat.reduceLeDiff, Nat.le_refl, Nat.reduceSub, List.append_nil, List.all_cons, List.all_nil, sc, Bool.and_true, Bool.and_self, Nat.lt_irrefl]; rfl) (.inr ⟨_, rfl⟩) hb ?_
  rw [hx, hs2]
  intro c' n' hc'
  simp -dsimp only [↓acallL, ↓loopL, ↓binC, ↓unC, ↓condC_b, ↓guardC_T, ↓guardC_F, ↓guardC_0, ↓pickC_b, ↓lenC, ↓slcC, ↓convC, ↓boxC, ↓allocC, ↓loadC, ↓storeC, ↓nilC, ↓faddrC, ↓fieldC, ↓iaddrC, ↓idxSC, ↓idxAC, ↓extractC, ↓buildC, ↓mksliceC, ↓appendC, ↓isnilC, ↓maxC, ↓minC, ↓callvC, ↓mkmapC, ↓mgetC, ↓msetC, ↓mdelC, ↓headC_cons, ↓rangeC, ↓BBL_true, ↓BBL_false, ↓BBL_not, binA, intOp, strOp, unA, esOf, bnd, intV, cellsA, fillV, srcE, dm, dm1, consO, cellA, maxL, minL, keepO, List.getElem?_cons_zero, List.getElem?_cons_succ, List.map_cons, List.map_nil, List.length_cons, List.length_nil, len_app, get_app, get_app0, set_app, set_app0, List.append_assoc, List.cons_append, List.nil_append, List.set_cons_zero, List.set_cons_succ, Nat.add_assoc, Nat.zero_add, Nat.add_zero, Nat.mul_one, Nat.reduceAdd, Int.toNat_natCast, Int.reduceToNat, Option.map_some, Option.map_none, Bool.false_eq_true, if_true, if_false, reduceIte, true_and, and_true, recsE_len, rep, splice, toDs, toD, chunks, List.take_succ_cons, List.take_zero, List.drop_succ_cons, List.drop_zero, List.take_nil, List.drop_nil, Nat.reduceLeDiff, Nat.le_refl, Nat.reduceSub, List.append_nil, List.all_cons, List.all_nil, sc, Bool.and_true, Bool.and_self, Nat.lt_irrefl, opA]
  refine c_Done (B := s2.b) (e := s2.e) (by simp -dsimp only [↓acallL, ↓loopL, ↓binC, ↓unC, ↓condC_b, ↓guardC_T, ↓guardC_F, ↓guardC_0, ↓pickC_b, ↓lenC, ↓slcC, ↓convC, ↓boxC, ↓allocC, ↓loadC, ↓storeC, ↓nilC, ↓faddrC, ↓fieldC, ↓iaddrC, ↓idxSC, ↓idxAC, ↓extractC, ↓buildC, ↓mksliceC, ↓appendC, ↓isnilC, ↓maxC, ↓minC, ↓callvC, ↓mkmapC, ↓mgetC, ↓msetC, ↓mdelC, ↓headC_cons, ↓rangeC, ↓BBL_true, ↓BBL_false, ↓BBL_not, binA, intOp, strOp, unA, esOf, bnd, intV, cellsA, fillV, srcE, dm, dm1, consO, cellA, maxL, minL, keepO, List.getElem?_cons_zero, List.getElem?_cons_succ, List.map_cons, List.map_nil, List.length_cons, List.length_nil, len_app, get_app, get_app0, set_app, set_app0, List.append_assoc, List.cons_append, List.nil_append, List.set_cons_zero, List.set_cons_succ, Nat.add_assoc, Nat.zero_add, Nat.add_zero, Nat.mul_one, Nat.reduceAdd, Int.toNat_natCast, Int.reduceToNat, Option.map_some, Option.map_none, Bool.false_eq_true, if_true, if_false, reduceIte, true_and, and_true, recsE_len, rep, splice, toDs, toD, chunks, List.take_succ_cons, List.take_zero, List.drop_succ_cons, List.drop_zero, List.take_nil, List.drop_nil, Nat.reduceLeDiff, Nat.le_refl, Nat.reduceSub, List.append_nil, List.all_cons, List.all_nil, sc, Bool.and_true, Bool.and_self, Nat.lt_irrefl]) hc' ?_
  obtain ⟨e, he⟩ : ∃ e, (if s2.e = 0 ∧ 0 < s2.b.length then 12 else s2.e) = e := ⟨_, rfl⟩
  rw [he] at hK ⊢
  simp -dsimp only [↓acallL, ↓loopL, ↓binC, ↓unC, ↓condC_b, ↓guardC_T, ↓guardC_F, ↓guardC_0, ↓pickC_b, ↓lenC, ↓slcC, ↓convC, ↓boxC, ↓allocC, ↓loadC, ↓storeC, ↓nilC, ↓faddrC, ↓fieldC, ↓iaddrC, ↓idxSC, ↓idxAC, ↓extractC, ↓buildC, ↓mksliceC, ↓appendC, ↓isnilC, ↓maxC, ↓minC, ↓callvC, ↓mkmapC, ↓mgetC, ↓msetC, ↓mdelC, ↓headC_cons, ↓rangeC, ↓BBL_true, ↓BBL_false, ↓BBL_not, binA, intOp, strOp, unA, esOf, bnd, intV, cellsA, fillV, srcE, dm, dm1, consO, cellA, maxL, minL, keepO, List.getElem?_cons_zero, List.getElem?_cons_succ, List.map_cons, List.map_nil, List.length_cons, List.length_nil, len_app, get_app, get_app0, set_app, set_app0, List.append_assoc, List.cons_append, List.nil_append, List.set_cons_zero, List.set_cons_succ, Nat.add_assoc, Nat.zero_add, Nat.add_zero, Nat.mul_one, Nat.reduceAdd, Int.toNat_natCast, Int.reduceToNat, Option.map_some, Option.map_none, Bool.false_eq_true, if_true, if_false, reduceIte, true_and, and_true, recsE_len, rep, splice, toDs, toD, chunks, List.take_succ_cons, List.take_zero, List.drop_succ_cons, List.drop_zero, List.take_nil, List.drop_nil, Nat.reduceLeDiff, Nat.le_refl, Nat.reduceSub, List.append_nil, List.all_cons, List.all_nil, sc, Bool.and_true, Bool.and_self, Nat.lt_irrefl]
  refine BBL_intro (fun h => ?_) (fun h => ?_)
  all_goals
    simp -dsimp only [↓acallL, ↓loopL, ↓binC, ↓unC, ↓condC_b, ↓guardC_T, ↓guardC_F, ↓guardC_0, ↓pickC_b, ↓lenC, ↓slcC, ↓convC, ↓boxC, ↓allocC, ↓loadC, ↓storeC, ↓nilC, ↓faddrC, ↓fieldC, ↓iaddrC, ↓idxSC, ↓idxAC, ↓extractC, ↓buildC, ↓mksliceC, ↓appendC, ↓isnilC, ↓maxC, ↓minC, ↓callvC, ↓mkmapC, ↓mgetC, ↓msetC, ↓mdelC, ↓headC_cons, ↓rangeC, ↓BBL_true, ↓BBL_false, ↓BBL_not, binA, intOp, strOp, unA, esOf, bnd, intV, cellsA, fillV, srcE, dm, dm1, consO, cellA, maxL, minL, keepO, List.getElem?_cons_zero, List.getElem?_cons_succ, List.map_cons, List.map_nil, List.length_cons, List.length_nil, len_app, get_app, get_app0, set_app, set_app0, List.append_assoc, List.cons_append, List.nil_append, List.set_cons_zero, List.set_cons_succ, Nat.add_assoc, Nat.zero_add, Nat.add_zero, Nat.mul_one, Nat.reduceAdd, Int.toNat_natCast, Int.reduceToNat, Option.map_some, Option.map_none, Bool.false_eq_true, if_true, if_false, reduceIte, true_and, and_true, recsE_len, rep, splice, toDs, toD, chunks, List.take_succ_cons, List.take_zero, List.drop_succ_cons, List.drop_zero, List.take_nil, List.drop_nil, Nat.reduceLeDiff, Nat.le_refl, Nat.reduceSub, List.append_nil, List.all_cons, List.all_nil, sc, Bool.and_true, Bool.and_self, Nat.lt_irrefl]
    repeat' ((with_reducible refine And.intro ?_ ?_); focus (first | omega | rfl | decide))
    try simp -dsimp only [↓acallL, ↓loopL, ↓binC, ↓unC, ↓condC_b, ↓guardC_T, ↓guardC_F, ↓guardC_0, ↓pickC_b, ↓lenC, ↓slcC, ↓convC, ↓boxC, ↓allocC, ↓loadC, ↓storeC, ↓nilC, ↓faddrC, ↓fieldC, ↓iaddrC, ↓idxSC, ↓idxAC, ↓extractC, ↓buildC, ↓mksliceC, ↓appendC, ↓isnilC, ↓maxC, ↓minC, ↓callvC, ↓mkmapC, ↓mgetC, ↓msetC, ↓mdelC, ↓headC_cons, ↓rangeC, ↓BBL_true, ↓BBL_false, ↓BBL_not, binA, intOp, strOp, unA, esOf, bnd, intV, cellsA, fillV, srcE, dm, dm1, consO, cellA, maxL, minL, keepO, List.getElem?_cons_zero, List.getElem?_cons_succ, List.map_cons, List.map_nil, List.length_cons, List.length_nil, len_app, get_app, get_app0, set_app, set_app0, List.append_assoc, List.cons_append, List.nil_append, List.set_cons_zero, List.set_cons_succ, Nat.add_assoc, Nat.zero_add, Nat.add_zero, Nat.mul_one, Nat.reduceAdd, Int.toNat_natCast, Int.reduceToNat, Option.map_some, Option.map_none, Bool.false_eq_true, if_true, if_false, reduceIte, true_and, and_true, recsE_len, rep, splice, toDs, toD, chunks, List.take_succ_cons, List.take_zero, List.drop_succ_cons, List.drop_zero, List.take_nil, List.drop_nil, Nat.reduceLeDiff, Nat.le_refl, Nat.reduceSub, List.append_nil, List.all_cons, List.all_nil, sc, Bool.and_true, Bool.and_self, Nat.lt_irrefl]
  · have h0 : ¬ e = 0 := by simpa using h
    rw [if_neg h0] at hK
    exact ends_plain (by simp [Low_d, dmT, dm, dm1, pack, Low_tup, Low_agg, opA]) hl hK
  · have h0 : e = 0 := by simpa using h
    rw [if_pos h0, h0] at hK
    exact ends_plain (by simp [Low_d, dmT, dm, dm1, pack, Low_tup, Low_agg, opA]) hl hK
/-- what was put is parsed -/
theorem parseF_put {o : TOp} (h : checkOpF nameF o = 0) : parseF (opB o) = (o, 0) := by
  have := takeOpP_put false h []
  rw [List.append_nil] at this
  rw [parseF, this]
  simp
/-- what is parsed may be, and has those bytes -/
theorem parseF_ok {b : List UInt8} (h : (parseF b).2 = 0) : checkOpF nameF (parseF b).1 = 0 ∧ b = opB (parseF b).1 := by
  have h1 : (takeOpP false nameF ⟨b, 0⟩).2.e = 0 ∧ (takeOpP false nameF ⟨b, 0⟩).2.b = [] := by
    simp only [parseF] at h
    split at h
    · omega
    · rename_i hn
      refine ⟨h, ?_⟩
      cases hb : (takeOpP false nameF ⟨b, 0⟩).2.b with
      | nil => rfl
      | cons c r => exact absurd ⟨h, by rw [hb]; simp⟩ hn
  obtain ⟨_, g2, g3⟩ := takeOpP_ok h1.1
  have e : (parseF b).1 = (takeOpP false nameF ⟨b, 0⟩).1 := by
    simp only [parseF, h1.1, h1.2]; simp
  rw [e]
  refine ⟨g2, ?_⟩
  rw [h1.2, List.append_nil] at g3
  exact g3
theorem fieldsP_sz {k : Nat} {s : Rd} : opSz (fieldsP false k s).1 ≤ 1024 := by
  have a := bytesP_len1 false 64 s
  have b := bytesP_len1 false 64 (bytesP false 64 s).2
  have hr : ∀ n s, n ≤ 4 → ((recsP false n s).1.map fun r => r.length + 10).sum ≤ 74 * n := by
    intro n s
    induction n with
    | zero => simp [recsP]
    | succ n ih =>
      intro h
      have := ih (by omega)
      have := bytesP_len1 false 64 (recsP false n s).2
      simp only [recsP, List.map_append, List.map_cons, List.map_nil, List.sum_append, List.sum_cons, List.sum_nil]
      omega
  have hn := numP_le false 4 (bytesP false 64 s).2
  have := hr _ (numP false 4 (bytesP false 64 s).2).2 hn
  unfold fieldsP opSz
  simp only
  split
  · simp [noOp]
  · split
    · simp only [List.length_nil]; omega
    · split
      · simp only [List.map_nil, List.sum_nil]; omega
      · split
        · simp only [List.map_nil, List.sum_nil, List.length_nil]; omega
        · simp only [List.map_nil, List.sum_nil, List.length_nil]; omega
theorem parseF_sz (b : List UInt8) : opSz (parseF b).1 ≤ 1024 := by
  have := @fieldsP_sz (numP false 4 ⟨b, 0⟩).1 (numP false 4 ⟨b, 0⟩).2
  have z : opSz noOp ≤ 1024 := by decide
  unfold parseF takeOpP
  simp only
  repeat' split
  all_goals first
    | exact this
    | exact z
end Go.Proofs.Ytahbjkanmagndaa

/- Contracts: the reference's reader. -/
set_option maxRecDepth 100000
set_option linter.unusedSimpArgs false
namespace Go.Proofs.Ytahbjkanmagndaa
open Go.AW

def rrO (c : AV) (e : Int) : AObj := .box [c, .d (.int .i64 e)]
theorem rrO_low {n : Nat} {c : AV} {e : Int} (h : Low n c) : LowO n (rrO c e) := by
  intro x hx
  simp only [List.mem_cons, List.not_mem_nil, or_false] at hx
  rcases hx with rfl | rfl
  · exact h
  · exact .d _
/-- the reference's cell with these bytes left -/
def RCell (c : AV) (s : Rd) : Prop := (c = .d (.slice (bcs s.b)) ∨ c = .exact (bcs s.b)) ∧ (s.e ≠ 0 → s.b = [])
theorem RCell.low {n : Nat} {c : AV} {s : Rd} (h : RCell c s) : Low n c := by
  rcases h.1 with rfl | rfl
  · exact .d _
  · exact .exact _
theorem c_rrFail {σ : List AObj} {id : Nat} {c : AV} {s : Rd} {f : Int} (hσ : σ[id]? = some (rrO c s.e)) (hc : RCell c s) {K : AV → List AObj → Prop}
    (hK : ∀ c', RCell c' (s.fail true f) → K (.tup []) (σ.set id (rrO c' (s.fail true f).e))) : ACall Try.prog n_r01_Reader_Fail [.box id 0, .d (.int .i64 f)] σ K := by
  refine acall_of isA_r01_Reader_Fail rfl fun hl _ => s_r01_Reader_Fail ?_
  have hs := hσ
  rw [rrO] at hs
  have hg : ∀ X, (σ.set id X)[id]? = some X := fun X => get_set_self hσ
  simp only [S_r01_Reader_Fail]
  simp -dsimp only [↓acallL, ↓loopL, ↓binC, ↓unC, ↓condC_b, ↓guardC_T, ↓guardC_F, ↓guardC_0, ↓pickC_b, ↓lenC, ↓slcC, ↓convC, ↓boxC, ↓allocC, ↓loadC, ↓storeC, ↓nilC, ↓faddrC, ↓fieldC, ↓iaddrC, ↓idxSC, ↓idxAC, ↓extractC, ↓buildC, ↓mksliceC, ↓appendC, ↓isnilC, ↓maxC, ↓minC, ↓callvC, ↓mkmapC, ↓mgetC, ↓msetC, ↓mdelC, ↓headC_cons, ↓rangeC, ↓BBL_true, ↓BBL_false, ↓BBL_not, binA, intOp, strOp, unA, esOf, bnd, intV, cellsA, fillV, srcE, dm, dm1, consO, cellA, maxL, minL, keepO, List.getElem?_cons_zero, List.getElem?_cons_succ, List.map_cons, List.map_nil, List.length_cons, List.length_nil, len_app, get_app, get_app0, set_app, set_app0, List.append_assoc, List.cons_append, List.nil_append, List.set_cons_zero, List.set_cons_succ, Nat.add_assoc, Nat.zero_add, Nat.add_zero, Nat.mul_one, Nat.reduceAdd, Int.toNat_natCast, Int.reduceToNat, Option.map_some, Option.map_none, Bool.false_eq_true, if_true, if_false, reduceIte, true_and, and_true, recsE_len, rep, splice, toDs, toD, chunks, List.take_succ_cons, List.take_zero, List.drop_succ_cons, List.drop_zero, List.take_nil, List.drop_nil, Nat.reduceLeDiff, Nat.le_refl, Nat.reduceSub, List.append_nil, List.all_cons, List.all_nil, sc, Bool.and_true, Bool.and_self, Nat.lt_irrefl, hs]
  have lowE : Low σ.length (dmT (pack [])) := by simp [dmT, dm, dm1, pack, Low_tup]
  by_cases h : s.e = 0
  · have b1 : (s.e == 0) = true := by simpa using h
    simp -dsimp only [↓acallL, ↓loopL, ↓binC, ↓unC, ↓condC_b, ↓guardC_T, ↓guardC_F, ↓guardC_0, ↓pickC_b, ↓lenC, ↓slcC, ↓convC, ↓boxC, ↓allocC, ↓loadC, ↓storeC, ↓nilC, ↓faddrC, ↓fieldC, ↓iaddrC, ↓idxSC, ↓idxAC, ↓extractC, ↓buildC, ↓mksliceC, ↓appendC, ↓isnilC, ↓maxC, ↓minC, ↓callvC, ↓mkmapC, ↓mgetC, ↓msetC, ↓mdelC, ↓headC_cons, ↓rangeC, ↓BBL_true, ↓BBL_false, ↓BBL_not, binA, intOp, strOp, unA, esOf, bnd, intV, cellsA, fillV, srcE, dm, dm1, consO, cellA, maxL, minL, keepO, List.getElem?_cons_zero, List.getElem?_cons_succ, List.map_cons, List.map_nil, List.length_cons, List.length_nil, len_app, get_app, get_app0, set_app, set_app0, List.append_assoc, List.cons_append, List.nil_append, List.set_cons_zero, List.set_cons_succ, Nat.add_assoc, Nat.zero_add, Nat.add_zero, Nat.mul_one, Nat.reduceAdd, Int.toNat_natCast, Int.reduceToNat, Option.map_some, Option.map_none, Bool.false_eq_true, if_true, if_false, reduceIte, true_and, and_true, recsE_len, rep, splice, toDs, toD, chunks, List.take_succ_cons, List.take_zero, List.drop_succ_cons, List.drop_zero, List.take_nil, List.drop_nil, Nat.reduceLeDiff, Nat.le_refl, Nat.reduceSub, List.append_nil, List.all_cons, List.all_nil, sc, Bool.and_true, Bool.and_self, Nat.lt_irrefl, hs, hg, b1, List.set_set]
    by_cases hf : f = 0
    · have b2 : (f != 0) = false := by simpa using hf
      simp -dsimp only [↓acallL, ↓loopL, ↓binC, ↓unC, ↓condC_b, ↓guardC_T, ↓guardC_F, ↓guardC_0, ↓pickC_b, ↓lenC, ↓slcC, ↓convC, ↓boxC, ↓allocC, ↓loadC, ↓storeC, ↓nilC, ↓faddrC, ↓fieldC, ↓iaddrC, ↓idxSC, ↓idxAC, ↓extractC, ↓buildC, ↓mksliceC, ↓appendC, ↓isnilC, ↓maxC, ↓minC, ↓callvC, ↓mkmapC, ↓mgetC, ↓msetC, ↓mdelC, ↓headC_cons, ↓rangeC, ↓BBL_true, ↓BBL_false, ↓BBL_not, binA, intOp, strOp, unA, esOf, bnd, intV, cellsA, fillV, srcE, dm, dm1, consO, cellA, maxL, minL, keepO, List.getElem?_cons_zero, List.getElem?_cons_succ, List.map_cons, List.map_nil, List.length_cons, List.length_nil, len_app, get_app, get_app0, set_app, set_app0, List.append_assoc, List.cons_append, List.nil_append, List.set_cons_zero, List.set_cons_succ, Nat.add_assoc, Nat.zero_add, Nat.add_zero, Nat.mul_one, Nat.reduceAdd, Int.toNat_natCast, Int.reduceToNat, Option.map_some, Option.map_none, Bool.false_eq_true, if_true, if_false, reduceIte, true_and, and_true, recsE_len, rep, splice, toDs, toD, chunks, List.take_succ_cons, List.take_zero, List.drop_succ_cons, List.drop_zero, List.take_nil, List.drop_nil, Nat.reduceLeDiff, Nat.le_refl, Nat.reduceSub, List.append_nil, List.all_cons, List.all_nil, sc, Bool.and_true, Bool.and_self, Nat.lt_irrefl, b2]
      have e : s.fail true f = s := by rw [Rd.fail, if_neg (by omega)]
      have := hK c (by rw [e]; exact hc)
      rw [e] at this
      rw [hf, ← h]
      exact ends_set0 lowE hl (rrO_low hc.low) this
    · have b2 : (f != 0) = true := by simpa using hf
      simp -dsimp only [↓acallL, ↓loopL, ↓binC, ↓unC, ↓condC_b, ↓guardC_T, ↓guardC_F, ↓guardC_0, ↓pickC_b, ↓lenC, ↓slcC, ↓convC, ↓boxC, ↓allocC, ↓loadC, ↓storeC, ↓nilC, ↓faddrC, ↓fieldC, ↓iaddrC, ↓idxSC, ↓idxAC, ↓extractC, ↓buildC, ↓mksliceC, ↓appendC, ↓isnilC, ↓maxC, ↓minC, ↓callvC, ↓mkmapC, ↓mgetC, ↓msetC, ↓mdelC, ↓headC_cons, ↓rangeC, ↓BBL_true, ↓BBL_false, ↓BBL_not, binA, intOp, strOp, unA, esOf, bnd, intV, cellsA, fillV, srcE, dm, dm1, consO, cellA, maxL, minL, keepO, List.getElem?_cons_zero, List.getElem?_cons_succ, List.map_cons, List.map_nil, List.length_cons, List.length_nil, len_app, get_app, get_app0, set_app, set_app0, List.append_assoc, List.cons_append, List.nil_append, List.set_cons_zero, List.set_cons_succ, Nat.add_assoc, Nat.zero_add, Nat.add_zero, Nat.mul_one, Nat.reduceAdd, Int.toNat_natCast, Int.reduceToNat, Option.map_some, Option.map_none, Bool.false_eq_true, if_true, if_false, reduceIte, true_and, and_true, recsE_len, rep, splice, toDs, toD, chunks, List.take_succ_cons, List.take_zero, List.drop_succ_cons, List.drop_zero, List.take_nil, List.drop_nil, Nat.reduceLeDiff, Nat.le_refl, Nat.reduceSub, List.append_nil, List.all_cons, List.all_nil, sc, Bool.and_true, Bool.and_self, Nat.lt_irrefl, hg, b2, List.set_set]
      have e : s.fail true f = ⟨[], f⟩ := by rw [Rd.fail, if_pos ⟨h, hf⟩]; rfl
      have := hK (.exact []) (by rw [e]; exact ⟨.inr rfl, fun _ => rfl⟩)
      rw [e] at this
      exact ends_set0 lowE hl (rrO_low (.exact _)) this
  · have b1 : (s.e == 0) = false := by simpa using h
    have b2 : (s.e != 0) = true := by simpa using h
    simp -dsimp only [↓acallL, ↓loopL, ↓binC, ↓unC, ↓condC_b, ↓guardC_T, ↓guardC_F, ↓guardC_0, ↓pickC_b, ↓lenC, ↓slcC, ↓convC, ↓boxC, ↓allocC, ↓loadC, ↓storeC, ↓nilC, ↓faddrC, ↓fieldC, ↓iaddrC, ↓idxSC, ↓idxAC, ↓extractC, ↓buildC, ↓mksliceC, ↓appendC, ↓isnilC, ↓maxC, ↓minC, ↓callvC, ↓mkmapC, ↓mgetC, ↓msetC, ↓mdelC, ↓headC_cons, ↓rangeC, ↓BBL_true, ↓BBL_false, ↓BBL_not, binA, intOp, strOp, unA, esOf, bnd, intV, cellsA, fillV, srcE, dm, dm1, consO, cellA, maxL, minL, keepO, List.getElem?_cons_zero, List.getElem?_cons_succ, List.map_cons, List.map_nil, List.length_cons, List.length_nil, len_app, get_app, get_app0, set_app, set_app0, List.append_assoc, List.cons_append, List.nil_append, List.set_cons_zero, List.set_cons_succ, Nat.add_assoc, Nat.zero_add, Nat.add_zero, Nat.mul_one, Nat.reduceAdd, Int.toNat_natCast, Int.reduceToNat, Option.map_some, Option.map_none, Bool.false_eq_true, if_true, if_false, reduceIte, true_and, and_true, recsE_len, rep, splice, toDs, toD, chunks, List.take_succ_cons, List.take_zero, List.drop_succ_cons, List.drop_zero, List.take_nil, List.drop_nil, Nat.reduceLeDiff, Nat.le_refl, Nat.reduceSub, List.append_nil, List.all_cons, List.all_nil, sc, Bool.and_true, Bool.and_self, Nat.lt_irrefl, hs, b1, b2]
    have e : s.fail true f = s := by rw [Rd.fail, if_neg (by omega)]
    have := hK (.exact []) (by rw [e]; exact ⟨.inr (by rw [hc.2 h]; rfl), hc.2⟩)
    rw [e] at this
    exact ends_set0 lowE hl (rrO_low (.exact _)) this
theorem fail_stuck {c : Bool} {s : Rd} {x : Int} (h : s.e ≠ 0) : s.fail c x = s := by rw [Rd.fail, if_neg (fun g => h g.1)]
theorem c_rrTake {σ : List AObj} {id : Nat} {c : AV} {s : Rd} {n : Nat} (hn : n < 9223372036854775808) (hσ : σ[id]? = some (rrO c s.e)) (hc : RCell c s) (hB : s.b.length ≤ 1073741824) {K : AV → List AObj → Prop}
    (hK : ∀ c', RCell c' (takeP true n s).2 → K (.d (.slice (bcs (takeP true n s).1))) (σ.set id (rrO c' (takeP true n s).2.e))) : ACall Try.prog n_r01_Reader_Take [.box id 0, .d (.int .i64 n)] σ K := by
  refine acall_of isA_r01_Reader_Take rfl fun hl _ => s_r01_Reader_Take ?_
  have hs := hσ
  rw [rrO] at hs
  have hg : ∀ X, (σ.set id X)[id]? = some X := fun X => get_set_self hσ
  have hneg : decide ((n : Int) < 0) = false := by simp
  simp only [S_r01_Reader_Take]
  simp -dsimp only [↓acallL, ↓loopL, ↓binC, ↓unC, ↓condC_b, ↓guardC_T, ↓guardC_F, ↓guardC_0, ↓pickC_b, ↓lenC, ↓slcC, ↓convC, ↓boxC, ↓allocC, ↓loadC, ↓storeC, ↓nilC, ↓faddrC, ↓fieldC, ↓iaddrC, ↓idxSC, ↓idxAC, ↓extractC, ↓buildC, ↓mksliceC, ↓appendC, ↓isnilC, ↓maxC, ↓minC, ↓callvC, ↓mkmapC, ↓mgetC, ↓msetC, ↓mdelC, ↓headC_cons, ↓rangeC, ↓BBL_true, ↓BBL_false, ↓BBL_not, binA, intOp, strOp, unA, esOf, bnd, intV, cellsA, fillV, srcE, dm, dm1, consO, cellA, maxL, minL, keepO, List.getElem?_cons_zero, List.getElem?_cons_succ, List.map_cons, List.map_nil, List.length_cons, List.length_nil, len_app, get_app, get_app0, set_app, set_app0, List.append_assoc, List.cons_append, List.nil_append, List.set_cons_zero, List.set_cons_succ, Nat.add_assoc, Nat.zero_add, Nat.add_zero, Nat.mul_one, Nat.reduceAdd, Int.toNat_natCast, Int.reduceToNat, Option.map_some, Option.map_none, Bool.false_eq_true, if_true, if_false, reduceIte, true_and, and_true, recsE_len, rep, splice, toDs, toD, chunks, List.take_succ_cons, List.take_zero, List.drop_succ_cons, List.drop_zero, List.take_nil, List.drop_nil, Nat.reduceLeDiff, Nat.le_refl, Nat.reduceSub, List.append_nil, List.all_cons, List.all_nil, sc, Bool.and_true, Bool.and_self, Nat.lt_irrefl, hneg, hs]
  by_cases h : s.e = 0
  · have b1 : (s.e == 0) = true := by simpa using h
    have b2 : (s.e != 0) = false := by simpa using h
    by_cases hlt : n > s.b.length
    · have hgt : decide ((n : Int) > (s.b.length : Int)) = true := by simp; omega
      have hT : takeP true n s = ([], s.fail true 10) := by rw [takeP, if_pos h, if_pos hlt]
      rw [hT] at hK
      have hf : (s.fail true 10).e = 10 := by rw [fail0 h (by omega)]
      have b3 : ((10 : Int) != 0) = true := by decide
      rcases hc.1 with rfl | rfl
      all_goals
        simp -dsimp only [↓acallL, ↓loopL, ↓binC, ↓unC, ↓condC_b, ↓guardC_T, ↓guardC_F, ↓guardC_0, ↓pickC_b, ↓lenC, ↓slcC, ↓convC, ↓boxC, ↓allocC, ↓loadC, ↓storeC, ↓nilC, ↓faddrC, ↓fieldC, ↓iaddrC, ↓idxSC, ↓idxAC, ↓extractC, ↓buildC, ↓mksliceC, ↓appendC, ↓isnilC, ↓maxC, ↓minC, ↓callvC, ↓mkmapC, ↓mgetC, ↓msetC, ↓mdelC, ↓headC_cons, ↓rangeC, ↓BBL_true, ↓BBL_false, ↓BBL_not, binA, intOp, strOp, unA, esOf, bnd, intV, cellsA, fillV, srcE, dm, dm1, consO, cellA, maxL, minL, keepO, List.getElem?_cons_zero, List.getElem?_cons_succ, List.map_cons, List.map_nil, List.length_cons, List.length_nil, len_app, get_app, get_app0, set_app, set_app0, List.append_assoc, List.cons_append, List.nil_append, List.set_cons_zero, List.set_cons_succ, Nat.add_assoc, Nat.zero_add, Nat.add_zero, Nat.mul_one, Nat.reduceAdd, Int.toNat_natCast, Int.reduceToNat, Option.map_some, Option.map_none, Bool.false_eq_true, if_true, if_false, reduceIte, true_and, and_true, recsE_len, rep, splice, toDs, toD, chunks, List.take_succ_cons, List.take_zero, List.drop_succ_cons, List.drop_zero, List.take_nil, List.drop_nil, Nat.reduceLeDiff, Nat.le_refl, Nat.reduceSub, List.append_nil, List.all_cons, List.all_nil, sc, Bool.and_true, Bool.and_self, Nat.lt_irrefl, hs, b1, bcs_length, hgt]
        refine c_rrFail hσ hc ?_
        intro c1 hc1
        have := hK c1 hc1
        rw [hf] at this ⊢
        simp -dsimp only [↓acallL, ↓loopL, ↓binC, ↓unC, ↓condC_b, ↓guardC_T, ↓guardC_F, ↓guardC_0, ↓pickC_b, ↓lenC, ↓slcC, ↓convC, ↓boxC, ↓allocC, ↓loadC, ↓storeC, ↓nilC, ↓faddrC, ↓fieldC, ↓iaddrC, ↓idxSC, ↓idxAC, ↓extractC, ↓buildC, ↓mksliceC, ↓appendC, ↓isnilC, ↓maxC, ↓minC, ↓callvC, ↓mkmapC, ↓mgetC, ↓msetC, ↓mdelC, ↓headC_cons, ↓rangeC, ↓BBL_true, ↓BBL_false, ↓BBL_not, binA, intOp, strOp, unA, esOf, bnd, intV, cellsA, fillV, srcE, dm, dm1, consO, cellA, maxL, minL, keepO, List.getElem?_cons_zero, List.getElem?_cons_succ, List.map_cons, List.map_nil, List.length_cons, List.length_nil, len_app, get_app, get_app0, set_app, set_app0, List.append_assoc, List.cons_append, List.nil_append, List.set_cons_zero, List.set_cons_succ, Nat.add_assoc, Nat.zero_add, Nat.add_zero, Nat.mul_one, Nat.reduceAdd, Int.toNat_natCast, Int.reduceToNat, Option.map_some, Option.map_none, Bool.false_eq_true, if_true, if_false, reduceIte, true_and, and_true, recsE_len, rep, splice, toDs, toD, chunks, List.take_succ_cons, List.take_zero, List.drop_succ_cons, List.drop_zero, List.take_nil, List.drop_nil, Nat.reduceLeDiff, Nat.le_refl, Nat.reduceSub, List.append_nil, List.all_cons, List.all_nil, sc, Bool.and_true, Bool.and_self, Nat.lt_irrefl, hg, rrO, b3]
        exact ends_set0 (by simp [Low_d, dmT, dm, dm1, pack]) hl (rrO_low hc1.low) this
    · have hgt : decide ((n : Int) > (s.b.length : Int)) = false := by simp; omega
      have hT : takeP true n s = (s.b.take n, ⟨s.b.drop n, 0⟩) := by rw [takeP, if_pos h, if_neg hlt]
      rw [hT] at hK
      have hK1 := hK (.d (.slice (bcs (s.b.drop n)))) ⟨.inl rfl, fun h => absurd rfl h⟩
      have htk : List.take n (bcs s.b) = bcs (s.b.take n) := by simp [bcs]
      have hdr : List.drop n (bcs s.b) = bcs (s.b.drop n) := by simp [bcs]
      have hs2 := fun τ => get_left (τ := τ) hs
      have hst : ∀ τ x, (σ ++ τ).set id x = σ.set id x ++ τ := fun τ x => set_left hs
      have hall : List.take s.b.length (bcs s.b) = bcs s.b := by rw [← bcs_length s.b]; exact List.take_length
      have htl : (s.b.take n).length ≤ 1073741824 := by rw [List.length_take]; omega
      clear hK
      rcases hc.1 with rfl | rfl
      all_goals
        simp -dsimp only [↓acallL, ↓loopL, ↓binC, ↓unC, ↓condC_b, ↓guardC_T, ↓guardC_F, ↓guardC_0, ↓pickC_b, ↓lenC, ↓slcC, ↓convC, ↓boxC, ↓allocC, ↓loadC, ↓storeC, ↓nilC, ↓faddrC, ↓fieldC, ↓iaddrC, ↓idxSC, ↓idxAC, ↓extractC, ↓buildC, ↓mksliceC, ↓appendC, ↓isnilC, ↓maxC, ↓minC, ↓callvC, ↓mkmapC, ↓mgetC, ↓msetC, ↓mdelC, ↓headC_cons, ↓rangeC, ↓BBL_true, ↓BBL_false, ↓BBL_not, binA, intOp, strOp, unA, esOf, bnd, intV, cellsA, fillV, srcE, dm, dm1, consO, cellA, maxL, minL, keepO, List.getElem?_cons_zero, List.getElem?_cons_succ, List.map_cons, List.map_nil, List.length_cons, List.length_nil, len_app, get_app, get_app0, set_app, set_app0, List.append_assoc, List.cons_append, List.nil_append, List.set_cons_zero, List.set_cons_succ, Nat.add_assoc, Nat.zero_add, Nat.add_zero, Nat.mul_one, Nat.reduceAdd, Int.toNat_natCast, Int.reduceToNat, Option.map_some, Option.map_none, Bool.false_eq_true, if_true, if_false, reduceIte, true_and, and_true, recsE_len, rep, splice, toDs, toD, chunks, List.take_succ_cons, List.take_zero, List.drop_succ_cons, List.drop_zero, List.take_nil, List.drop_nil, Nat.reduceLeDiff, Nat.le_refl, Nat.reduceSub, List.append_nil, List.all_cons, List.all_nil, sc, Bool.and_true, Bool.and_self, Nat.lt_irrefl, hs, b1, b2, bcs_length, hgt, htk, hdr, hall]
        refine ⟨by omega, by omega, by omega, bcs_one, ?_⟩
        simp -dsimp only [↓acallL, ↓loopL, ↓binC, ↓unC, ↓condC_b, ↓guardC_T, ↓guardC_F, ↓guardC_0, ↓pickC_b, ↓lenC, ↓slcC, ↓convC, ↓boxC, ↓allocC, ↓loadC, ↓storeC, ↓nilC, ↓faddrC, ↓fieldC, ↓iaddrC, ↓idxSC, ↓idxAC, ↓extractC, ↓buildC, ↓mksliceC, ↓appendC, ↓isnilC, ↓maxC, ↓minC, ↓callvC, ↓mkmapC, ↓mgetC, ↓msetC, ↓mdelC, ↓headC_cons, ↓rangeC, ↓BBL_true, ↓BBL_false, ↓BBL_not, binA, intOp, strOp, unA, esOf, bnd, intV, cellsA, fillV, srcE, dm, dm1, consO, cellA, maxL, minL, keepO, List.getElem?_cons_zero, List.getElem?_cons_succ, List.map_cons, List.map_nil, List.length_cons, List.length_nil, len_app, get_app, get_app0, set_app, set_app0, List.append_assoc, List.cons_append, List.nil_append, List.set_cons_zero, List.set_cons_succ, Nat.add_assoc, Nat.zero_add, Nat.add_zero, Nat.mul_one, Nat.reduceAdd, Int.toNat_natCast, Int.reduceToNat, Option.map_some, Option.map_none, Bool.false_eq_true, if_true, if_false, reduceIte, true_and, and_true, recsE_len, rep, splice, toDs, toD, chunks, List.take_succ_cons, List.take_zero, List.drop_succ_cons, List.drop_zero, List.take_nil, List.drop_nil, Nat.reduceLeDiff, Nat.le_refl, Nat.reduceSub, List.append_nil, List.all_cons, List.all_nil, sc, Bool.and_true, Bool.and_self, Nat.lt_irrefl, hs2, hst, bcs_length, htk, hdr, hall]
        refine ⟨bcs_one, by simp, by omega, by omega, by omega, by omega, bcs_one, ?_⟩
        rw [h]
        exact ends_set (by simp [Low_d, dmT, dm, dm1, pack]) hl (rrO_low (.d _)) hK1
  · have b1 : (s.e == 0) = false := by simpa using h
    have b2 : (s.e != 0) = true := by simpa using h
    have hT : takeP true n s = ([], s) := by rw [takeP, if_neg h]
    rw [hT] at hK
    have := hK c hc
    rw [set_self hσ] at this
    simp -dsimp only [↓acallL, ↓loopL, ↓binC, ↓unC, ↓condC_b, ↓guardC_T, ↓guardC_F, ↓guardC_0, ↓pickC_b, ↓lenC, ↓slcC, ↓convC, ↓boxC, ↓allocC, ↓loadC, ↓storeC, ↓nilC, ↓faddrC, ↓fieldC, ↓iaddrC, ↓idxSC, ↓idxAC, ↓extractC, ↓buildC, ↓mksliceC, ↓appendC, ↓isnilC, ↓maxC, ↓minC, ↓callvC, ↓mkmapC, ↓mgetC, ↓msetC, ↓mdelC, ↓headC_cons, ↓rangeC, ↓BBL_true, ↓BBL_false, ↓BBL_not, binA, intOp, strOp, unA, esOf, bnd, intV, cellsA, fillV, srcE, dm, dm1, consO, cellA, maxL, minL, keepO, List.getElem?_cons_zero, List.getElem?_cons_succ, List.map_cons, List.map_nil, List.length_cons, List.length_nil, len_app, get_app, get_app0, set_app, set_app0, List.append_assoc, List.cons_append, List.nil_append, List.set_cons_zero, List.set_cons_succ, Nat.add_assoc, Nat.zero_add, Nat.add_zero, Nat.mul_one, Nat.reduceAdd, Int.toNat_natCast, Int.reduceToNat, Option.map_some, Option.map_none, Bool.false_eq_true, if_true, if_false, reduceIte, true_and, and_true, recsE_len, rep, splice, toDs, toD, chunks, List.take_succ_cons, List.take_zero, List.drop_succ_cons, List.drop_zero, List.take_nil, List.drop_nil, Nat.reduceLeDiff, Nat.le_refl, Nat.reduceSub, List.append_nil, List.all_cons, List.all_nil, sc, Bool.and_true, Bool.and_self, Nat.lt_irrefl, hs, b1, b2]
    exact ends_plain0 (by simp [Low_d, dmT, dm, dm1, pack]) hl this
theorem c_rrNum {σ : List AObj} {id : Nat} {c : AV} {s : Rd} {m : Nat} (hm : m < 18446744073709551616) (hσ : σ[id]? = some (rrO c s.e)) (hc : RCell c s) (hB : s.b.length ≤ 1073741824) {K : AV → List AObj → Prop}
    (hK : ∀ c', RCell c' (numP true m s).2 → K (.d (.int .u64 (numP true m s).1)) (σ.set id (rrO c' (numP true m s).2.e))) : ACall Try.prog n_r01_Reader_Num [.box id 0, .d (.int .u64 m)] σ K := by
  refine acall_of isA_r01_Reader_Num rfl fun hl _ => s_r01_Reader_Num ?_
  have hs := hσ
  rw [rrO] at hs
  have hg : ∀ X, (σ.set id X)[id]? = some X := fun X => get_set_self hσ
  simp only [S_r01_Reader_Num]
  simp -dsimp only [↓acallL, ↓loopL, ↓binC, ↓unC, ↓condC_b, ↓guardC_T, ↓guardC_F, ↓guardC_0, ↓pickC_b, ↓lenC, ↓slcC, ↓convC, ↓boxC, ↓allocC, ↓loadC, ↓storeC, ↓nilC, ↓faddrC, ↓fieldC, ↓iaddrC, ↓idxSC, ↓idxAC, ↓extractC, ↓buildC, ↓mksliceC, ↓appendC, ↓isnilC, ↓maxC, ↓minC, ↓callvC, ↓mkmapC, ↓mgetC, ↓msetC, ↓mdelC, ↓headC_cons, ↓rangeC, ↓BBL_true, ↓BBL_false, ↓BBL_not, binA, intOp, strOp, unA, esOf, bnd, intV, cellsA, fillV, srcE, dm, dm1, consO, cellA, maxL, minL, keepO, List.getElem?_cons_zero, List.getElem?_cons_succ, List.map_cons, List.map_nil, List.length_cons, List.length_nil, len_app, get_app, get_app0, set_app, set_app0, List.append_assoc, List.cons_append, List.nil_append, List.set_cons_zero, List.set_cons_succ, Nat.add_assoc, Nat.zero_add, Nat.add_zero, Nat.mul_one, Nat.reduceAdd, Int.toNat_natCast, Int.reduceToNat, Option.map_some, Option.map_none, Bool.false_eq_true, if_true, if_false, reduceIte, true_and, and_true, recsE_len, rep, splice, toDs, toD, chunks, List.take_succ_cons, List.take_zero, List.drop_succ_cons, List.drop_zero, List.take_nil, List.drop_nil, Nat.reduceLeDiff, Nat.le_refl, Nat.reduceSub, List.append_nil, List.all_cons, List.all_nil, sc, Bool.and_true, Bool.and_self, Nat.lt_irrefl]
  refine loopC_count 10 (fun k vs q => q = σ ∧ ∃ acc : Nat, vs = [.d (.int .u64 acc), .d (.int .u64 (128 ^ k : Nat)), .d (.int .i64 k)] ∧ k ≤ 9 ∧ k ≤ s.b.length ∧ acc < 128 ^ k ∧ (s.e ≠ 0 → k = 0) ∧ numR m 0 0 s.b = numR m k acc (s.b.drop k)) ⟨rfl, 0, rfl, by omega, by omega, by simp, fun _ => rfl, by simp⟩ ?_
  rintro k vs q hk ⟨rfl, acc, rfl, h9, hkl, hacc, he0, hinv⟩
  by_cases hend : k = s.b.length
  · have hnil : s.b.drop k = [] := List.drop_eq_nil_of_le (by omega)
    rw [hnil] at hinv
    have hT : numP true m s = (0, s.fail true 10) := by
      unfold numP
      by_cases h : s.e = 0
      · rw [if_pos h, hinv]; rfl
      · rw [if_neg h, fail_stuck h]
    rw [hT] at hK
    have hge : ((k : Int) == (s.b.length : Int)) = true := by simp; omega
    have hne : ((s.fail true 10).e != 0) = true := by
      by_cases h : s.e = 0
      · rw [fail0 h (by omega)]; rfl
      · rw [fail_stuck h]; simpa using h
    rcases hc.1 with rfl | rfl
    all_goals
      simp -dsimp only [↓acallL, ↓loopL, ↓binC, ↓unC, ↓condC_b, ↓guardC_T, ↓guardC_F, ↓guardC_0, ↓pickC_b, ↓lenC, ↓slcC, ↓convC, ↓boxC, ↓allocC, ↓loadC, ↓storeC, ↓nilC, ↓faddrC, ↓fieldC, ↓iaddrC, ↓idxSC, ↓idxAC, ↓extractC, ↓buildC, ↓mksliceC, ↓appendC, ↓isnilC, ↓maxC, ↓minC, ↓callvC, ↓mkmapC, ↓mgetC, ↓msetC, ↓mdelC, ↓headC_cons, ↓rangeC, ↓BBL_true, ↓BBL_false, ↓BBL_not, binA, intOp, strOp, unA, esOf, bnd, intV, cellsA, fillV, srcE, dm, dm1, consO, cellA, maxL, minL, keepO, List.getElem?_cons_zero, List.getElem?_cons_succ, List.map_cons, List.map_nil, List.length_cons, List.length_nil, len_app, get_app, get_app0, set_app, set_app0, List.append_assoc, List.cons_append, List.nil_append, List.set_cons_zero, List.set_cons_succ, Nat.add_assoc, Nat.zero_add, Nat.add_zero, Nat.mul_one, Nat.reduceAdd, Int.toNat_natCast, Int.reduceToNat, Option.map_some, Option.map_none, Bool.false_eq_true, if_true, if_false, reduceIte, true_and, and_true, recsE_len, rep, splice, toDs, toD, chunks, List.take_succ_cons, List.take_zero, List.drop_succ_cons, List.drop_zero, List.take_nil, List.drop_nil, Nat.reduceLeDiff, Nat.le_refl, Nat.reduceSub, List.append_nil, List.all_cons, List.all_nil, sc, Bool.and_true, Bool.and_self, Nat.lt_irrefl, hs, bcs_length, hge]
      refine c_rrFail hσ hc ?_
      intro c1 hc1
      have := hK c1 hc1
      simp -dsimp only [↓acallL, ↓loopL, ↓binC, ↓unC, ↓condC_b, ↓guardC_T, ↓guardC_F, ↓guardC_0, ↓pickC_b, ↓lenC, ↓slcC, ↓convC, ↓boxC, ↓allocC, ↓loadC, ↓storeC, ↓nilC, ↓faddrC, ↓fieldC, ↓iaddrC, ↓idxSC, ↓idxAC, ↓extractC, ↓buildC, ↓mksliceC, ↓appendC, ↓isnilC, ↓maxC, ↓minC, ↓callvC, ↓mkmapC, ↓mgetC, ↓msetC, ↓mdelC, ↓headC_cons, ↓rangeC, ↓BBL_true, ↓BBL_false, ↓BBL_not, binA, intOp, strOp, unA, esOf, bnd, intV, cellsA, fillV, srcE, dm, dm1, consO, cellA, maxL, minL, keepO, List.getElem?_cons_zero, List.getElem?_cons_succ, List.map_cons, List.map_nil, List.length_cons, List.length_nil, len_app, get_app, get_app0, set_app, set_app0, List.append_assoc, List.cons_append, List.nil_append, List.set_cons_zero, List.set_cons_succ, Nat.add_assoc, Nat.zero_add, Nat.add_zero, Nat.mul_one, Nat.reduceAdd, Int.toNat_natCast, Int.reduceToNat, Option.map_some, Option.map_none, Bool.false_eq_true, if_true, if_false, reduceIte, true_and, and_true, recsE_len, rep, splice, toDs, toD, chunks, List.take_succ_cons, List.take_zero, List.drop_succ_cons, List.drop_zero, List.take_nil, List.drop_nil, Nat.reduceLeDiff, Nat.le_refl, Nat.reduceSub, List.append_nil, List.all_cons, List.all_nil, sc, Bool.and_true, Bool.and_self, Nat.lt_irrefl, hg, rrO, hne]
      exact ends_set0 (by simp [Low_d, dmT, dm, dm1, pack]) hl (rrO_low hc1.low) this
  · have hkl : k < s.b.length := by omega
    have hge : ((k : Int) == (s.b.length : Int)) = false := by simp; omega
    have h : s.e = 0 := by
      rcases Classical.em (s.e = 0) with h | h
      · exact h
      · have := hc.2 h; have := he0 h; simp_all
    have b1 : (s.e != 0) = false := by simp [h]
    have hx : (bcs s.b)[k]? = some [D.int .u8 (s.b[k]).toNat] := by simp [bcs, hkl, byteCell]
    have hdk : s.b.drop k = s.b[k] :: s.b.drop (k + 1) := List.drop_eq_getElem_cons hkl
    have hbk := (s.b[k]).toNat_lt
    rw [hdk] at hinv
    obtain ⟨X, hX⟩ : ∃ X, (s.b[k]).toNat = X := ⟨_, rfl⟩
    rw [hX] at hx hbk
    by_cases hbad : k = 9 ∧ X > 1
    · have hT : numP true m s = (0, s.fail true 11) := by
        have e : numR m k acc (s.b[k] :: s.b.drop (k + 1)) = .error 11 := by rw [numR, if_pos ⟨hbad.1, by omega⟩]
        unfold numP
        rw [if_pos h, hinv, e]
      rw [hT] at hK
      have b9 : ((k : Int) == 9) = true := by simp; omega
      have bx : decide ((X : Int) > 1) = true := by simp; omega
      have hne : ((s.fail true 11).e != 0) = true := by rw [fail0 h (by omega)]; rfl
      rcases hc.1 with rfl | rfl
      all_goals
        simp -dsimp only [↓acallL, ↓loopL, ↓binC, ↓unC, ↓condC_b, ↓guardC_T, ↓guardC_F, ↓guardC_0, ↓pickC_b, ↓lenC, ↓slcC, ↓convC, ↓boxC, ↓allocC, ↓loadC, ↓storeC, ↓nilC, ↓faddrC, ↓fieldC, ↓iaddrC, ↓idxSC, ↓idxAC, ↓extractC, ↓buildC, ↓mksliceC, ↓appendC, ↓isnilC, ↓maxC, ↓minC, ↓callvC, ↓mkmapC, ↓mgetC, ↓msetC, ↓mdelC, ↓headC_cons, ↓rangeC, ↓BBL_true, ↓BBL_false, ↓BBL_not, binA, intOp, strOp, unA, esOf, bnd, intV, cellsA, fillV, srcE, dm, dm1, consO, cellA, maxL, minL, keepO, List.getElem?_cons_zero, List.getElem?_cons_succ, List.map_cons, List.map_nil, List.length_cons, List.length_nil, len_app, get_app, get_app0, set_app, set_app0, List.append_assoc, List.cons_append, List.nil_append, List.set_cons_zero, List.set_cons_succ, Nat.add_assoc, Nat.zero_add, Nat.add_zero, Nat.mul_one, Nat.reduceAdd, Int.toNat_natCast, Int.reduceToNat, Option.map_some, Option.map_none, Bool.false_eq_true, if_true, if_false, reduceIte, true_and, and_true, recsE_len, rep, splice, toDs, toD, chunks, List.take_succ_cons, List.take_zero, List.drop_succ_cons, List.drop_zero, List.take_nil, List.drop_nil, Nat.reduceLeDiff, Nat.le_refl, Nat.reduceSub, List.append_nil, List.all_cons, List.all_nil, sc, Bool.and_true, Bool.and_self, Nat.lt_irrefl, hs, bcs_length, hge, hx, b1, b9, bx]
        repeat' ((with_reducible refine And.intro ?_ ?_); focus (first | omega | rfl | decide))
        try simp -dsimp only [↓acallL, ↓loopL, ↓binC, ↓unC, ↓condC_b, ↓guardC_T, ↓guardC_F, ↓guardC_0, ↓pickC_b, ↓lenC, ↓slcC, ↓convC, ↓boxC, ↓allocC, ↓loadC, ↓storeC, ↓nilC, ↓faddrC, ↓fieldC, ↓iaddrC, ↓idxSC, ↓idxAC, ↓extractC, ↓buildC, ↓mksliceC, ↓appendC, ↓isnilC, ↓maxC, ↓minC, ↓callvC, ↓mkmapC, ↓mgetC, ↓msetC, ↓mdelC, ↓headC_cons, ↓rangeC, ↓BBL_true, ↓BBL_false, ↓BBL_not, binA, intOp, strOp, unA, esOf, bnd, intV, cellsA, fillV, srcE, dm, dm1, consO, cellA, maxL, minL, keepO, List.getElem?_cons_zero, List.getElem?_cons_succ, List.map_cons, List.map_nil, List.length_cons, List.length_nil, len_app, get_app, get_app0, set_app, set_app0, List.append_assoc, List.cons_append, List.nil_append, List.set_cons_zero, List.set_cons_succ, Nat.add_assoc, Nat.zero_add, Nat.add_zero, Nat.mul_one, Nat.reduceAdd, Int.toNat_natCast, Int.reduceToNat, Option.map_some, Option.map_none, Bool.false_eq_true, if_true, if_false, reduceIte, true_and, and_true, recsE_len, rep, splice, toDs, toD, chunks, List.take_succ_cons, List.take_zero, List.drop_succ_cons, List.drop_zero, List.take_nil, List.drop_nil, Nat.reduceLeDiff, Nat.le_refl, Nat.reduceSub, List.append_nil, List.all_cons, List.all_nil, sc, Bool.and_true, Bool.and_self, Nat.lt_irrefl, bx]
        refine c_rrFail hσ hc ?_
        intro c1 hc1
        have := hK c1 hc1
        simp -dsimp only [↓acallL, ↓loopL, ↓binC, ↓unC, ↓condC_b, ↓guardC_T, ↓guardC_F, ↓guardC_0, ↓pickC_b, ↓lenC, ↓slcC, ↓convC, ↓boxC, ↓allocC, ↓loadC, ↓storeC, ↓nilC, ↓faddrC, ↓fieldC, ↓iaddrC, ↓idxSC, ↓idxAC, ↓extractC, ↓buildC, ↓mksliceC, ↓appendC, ↓isnilC, ↓maxC, ↓minC, ↓callvC, ↓mkmapC, ↓mgetC, ↓msetC, ↓mdelC, ↓headC_cons, ↓rangeC, ↓BBL_true, ↓BBL_false, ↓BBL_not, binA, intOp, strOp, unA, esOf, bnd, intV, cellsA, fillV, srcE, dm, dm1, consO, cellA, maxL, minL, keepO, List.getElem?_cons_zero, List.getElem?_cons_succ, List.map_cons, List.map_nil, List.length_cons, List.length_nil, len_app, get_app, get_app0, set_app, set_app0, List.append_assoc, List.cons_append, List.nil_append, List.set_cons_zero, List.set_cons_succ, Nat.add_assoc, Nat.zero_add, Nat.add_zero, Nat.mul_one, Nat.reduceAdd, Int.toNat_natCast, Int.reduceToNat, Option.map_some, Option.map_none, Bool.false_eq_true, if_true, if_false, reduceIte, true_and, and_true, recsE_len, rep, splice, toDs, toD, chunks, List.take_succ_cons, List.take_zero, List.drop_succ_cons, List.drop_zero, List.take_nil, List.drop_nil, Nat.reduceLeDiff, Nat.le_refl, Nat.reduceSub, List.append_nil, List.all_cons, List.all_nil, sc, Bool.and_true, Bool.and_self, Nat.lt_irrefl, hg, rrO, hne]
        exact ends_set0 (by simp [Low_d, dmT, dm, dm1, pack]) hl (rrO_low hc1.low) this
    · have h0 := h
      have hf := numFit (x := X) h9 hacc hbad
      have hrem : (X : Int).tmod 128 = ((X % 128 : Nat) : Int) := by rw [Int.tmod_eq_emod_of_nonneg (by omega)]; omega
      have hw1 : IntKind.u64.wrap (((X % 128 : Nat)) : Int) = ((X % 128 : Nat) : Int) := wrap64u (by omega)
      have hw2 : IntKind.u64.wrap (((X % 128 : Nat) : Int) * ((128 ^ k : Nat) : Int)) = ((X % 128 * 128 ^ k : Nat) : Int) := by rw [← Int.natCast_mul, wrap64u (by omega)]
      have hw3 : IntKind.u64.wrap ((acc : Int) + ((X % 128 * 128 ^ k : Nat) : Int)) = ((acc + X % 128 * 128 ^ k : Nat) : Int) := by rw [← Int.natCast_add, wrap64u hf.2]
      have b9 : ((k : Int) == 9) = decide (k = 9) := by rw [Bool.eq_iff_iff]; simp; omega
      have bx : k = 9 → decide ((X : Int) > 1) = false := fun h => by simp; omega
      have badK : X < 128 → ((k > 0 ∧ X = 0) ∨ acc + X % 128 * 128 ^ k > m) → ∀ c1, RCell c1 (s.fail true 11) → K (.d (.int .u64 0)) (q.set id (rrO c1 (s.fail true 11).e)) := fun h1 h2 c1 hc1 => by
        have e : numR m k acc (s.b[k] :: s.b.drop (k + 1)) = .error 11 := numR_bad (by omega) h9 hacc (by rw [hX, Nat.mod_eq_of_lt hf.2]; rcases h2 with h2 | h2; exact .inl h2; exact .inr (.inr h2))
        have hT : numP true m s = (0, s.fail true 11) := by
          unfold numP
          rw [if_pos h, hinv, e]
        have := hK c1 (by rw [hT]; exact hc1)
        rw [hT] at this
        exact this
      have goodK : X < 128 → ¬ (k > 0 ∧ X = 0) → ¬ (acc + X % 128 * 128 ^ k > m) → K (.d (.int .u64 (acc + X % 128 * 128 ^ k : Nat))) (q.set id (rrO (.d (.slice (bcs (s.b.drop (k + 1))))) 0)) := fun h1 h2 h3 => by
        have e : numR m k acc (s.b[k] :: s.b.drop (k + 1)) = .ok (acc + X % 128 * 128 ^ k, s.b.drop (k + 1)) := by
          have := numR_good (m := m) (c := s.b[k]) (r := s.b.drop (k + 1)) (by omega) h9 hacc (by rw [hX]; exact h2) (by rw [hX]; exact hbad) (by rw [hX, Nat.mod_eq_of_lt hf.2]; exact h3)
          rw [hX, Nat.mod_eq_of_lt hf.2] at this
          exact this
        have hT : numP true m s = (acc + X % 128 * 128 ^ k, ⟨s.b.drop (k + 1), 0⟩) := by
          unfold numP
          rw [if_pos h, hinv, e]
        have := hK (.d (.slice (bcs (s.b.drop (k + 1))))) (by rw [hT]; exact ⟨.inl rfl, fun h => absurd rfl h⟩)
        rw [hT] at this
        exact this
      clear hK
      have hw : IntKind.i64.wrap ((k : Int) + 1) = ((k + 1 : Nat) : Int) := by rw [wrap64i (by omega) (by omega)]; rfl
      have htk : List.take s.b.length (bcs s.b) = bcs s.b := by rw [← bcs_length s.b]; exact List.take_length
      have hdr : List.drop (k + 1) (bcs s.b) = bcs (s.b.drop (k + 1)) := by simp [bcs]
      rcases hc.1 with rfl | rfl
      all_goals
        by_cases hk9 : k = 9
        · have b9 : ((k : Int) == 9) = true := by simp; omega
          have bx := bx hk9
          simp -dsimp only [↓acallL, ↓loopL, ↓binC, ↓unC, ↓condC_b, ↓guardC_T, ↓guardC_F, ↓guardC_0, ↓pickC_b, ↓lenC, ↓slcC, ↓convC, ↓boxC, ↓allocC, ↓loadC, ↓storeC, ↓nilC, ↓faddrC, ↓fieldC, ↓iaddrC, ↓idxSC, ↓idxAC, ↓extractC, ↓buildC, ↓mksliceC, ↓appendC, ↓isnilC, ↓maxC, ↓minC, ↓callvC, ↓mkmapC, ↓mgetC, ↓msetC, ↓mdelC, ↓headC_cons, ↓rangeC, ↓BBL_true, ↓BBL_false, ↓BBL_not, binA, intOp, strOp, unA, esOf, bnd, intV, cellsA, fillV, srcE, dm, dm1, consO, cellA, maxL, minL, keepO, List.getElem?_cons_zero, List.getElem?_cons_succ, List.map_cons, List.map_nil, List.length_cons, List.length_nil, len_app, get_app, get_app0, set_app, set_app0, List.append_assoc, List.cons_append, List.nil_append, List.set_cons_zero, List.set_cons_succ, Nat.add_assoc, Nat.zero_add, Nat.add_zero, Nat.mul_one, Nat.reduceAdd, Int.toNat_natCast, Int.reduceToNat, Option.map_some, Option.map_none, Bool.false_eq_true, if_true, if_false, reduceIte, true_and, and_true, recsE_len, rep, splice, toDs, toD, chunks, List.take_succ_cons, List.take_zero, List.drop_succ_cons, List.drop_zero, List.take_nil, List.drop_nil, Nat.reduceLeDiff, Nat.le_refl, Nat.reduceSub, List.append_nil, List.all_cons, List.all_nil, sc, Bool.and_true, Bool.and_self, Nat.lt_irrefl, hs, bcs_length, hge, hx, b1, b9, bx, hrem, hw1, hw2, hw3]
          repeat' ((with_reducible refine And.intro ?_ ?_); focus (first | omega | decide))
          refine BBL_intro (fun hsm => ?_) (fun hbig => ?_)
          · have hsm : X < 128 := by simp at hsm; omega
            simp only [hrem]
            repeat' first
              | simp -dsimp only [↓acallL, ↓loopL, ↓binC, ↓unC, ↓condC_b, ↓guardC_T, ↓guardC_F, ↓guardC_0, ↓pickC_b, ↓lenC, ↓slcC, ↓convC, ↓boxC, ↓allocC, ↓loadC, ↓storeC, ↓nilC, ↓faddrC, ↓fieldC, ↓iaddrC, ↓idxSC, ↓idxAC, ↓extractC, ↓buildC, ↓mksliceC, ↓appendC, ↓isnilC, ↓maxC, ↓minC, ↓callvC, ↓mkmapC, ↓mgetC, ↓msetC, ↓mdelC, ↓headC_cons, ↓rangeC, ↓BBL_true, ↓BBL_false, ↓BBL_not, binA, intOp, strOp, unA, esOf, bnd, intV, cellsA, fillV, srcE, dm, dm1, consO, cellA, maxL, minL, keepO, List.getElem?_cons_zero, List.getElem?_cons_succ, List.map_cons, List.map_nil, List.length_cons, List.length_nil, len_app, get_app, get_app0, set_app, set_app0, List.append_assoc, List.cons_append, List.nil_append, List.set_cons_zero, List.set_cons_succ, Nat.add_assoc, Nat.zero_add, Nat.add_zero, Nat.mul_one, Nat.reduceAdd, Int.toNat_natCast, Int.reduceToNat, Option.map_some, Option.map_none, Bool.false_eq_true, if_true, if_false, reduceIte, true_and, and_true, recsE_len, rep, splice, toDs, toD, chunks, List.take_succ_cons, List.take_zero, List.drop_succ_cons, List.drop_zero, List.take_nil, List.drop_nil, Nat.reduceLeDiff, Nat.le_refl, Nat.reduceSub, List.append_nil, List.all_cons, List.all_nil, sc, Bool.and_true, Bool.and_self, Nat.lt_irrefl, hs, hw, hw1, bcs_length, htk, hdr]
              | (refine BBL_intro (fun h => ?_) (fun h => ?_) <;> (try rw [h]))
              | refine c_rrFail hσ hc ?_
              | ((with_reducible refine And.intro ?_ ?_); focus (first | omega | rfl | decide | exact bcs_one))
            all_goals (try simp only [decide_eq_true_eq, decide_eq_false_iff_not, beq_iff_eq, beq_eq_false_iff_ne] at *)
            all_goals first
              | (intro c1 hc1; exact ends_set0 (by simp [Low_d, dmT, dm, dm1, pack]) hl (rrO_low hc1.low) (badK (by omega) (by omega) c1 hc1))
              | (rw [h0]; exact ends_set0 (by simp [Low_d, dmT, dm, dm1, pack]) hl (rrO_low (.d _)) (goodK (by omega) (by omega) (by omega)))
          · have hbig : X > 127 := by simp at hbig; omega
            have hk8 : k < 9 := by omega
            have hp : 128 ^ (k + 1) ≤ 128 ^ 9 := Nat.pow_le_pow_right (by omega) (by omega)
            have hp9 : (128 : Nat) ^ 9 = 9223372036854775808 := rfl
            have hps : 128 ^ (k + 1) = 128 ^ k * 128 := Nat.pow_succ ..
            simp -dsimp only [↓acallL, ↓loopL, ↓binC, ↓unC, ↓condC_b, ↓guardC_T, ↓guardC_F, ↓guardC_0, ↓pickC_b, ↓lenC, ↓slcC, ↓convC, ↓boxC, ↓allocC, ↓loadC, ↓storeC, ↓nilC, ↓faddrC, ↓fieldC, ↓iaddrC, ↓idxSC, ↓idxAC, ↓extractC, ↓buildC, ↓mksliceC, ↓appendC, ↓isnilC, ↓maxC, ↓minC, ↓callvC, ↓mkmapC, ↓mgetC, ↓msetC, ↓mdelC, ↓headC_cons, ↓rangeC, ↓BBL_true, ↓BBL_false, ↓BBL_not, binA, intOp, strOp, unA, esOf, bnd, intV, cellsA, fillV, srcE, dm, dm1, consO, cellA, maxL, minL, keepO, List.getElem?_cons_zero, List.getElem?_cons_succ, List.map_cons, List.map_nil, List.length_cons, List.length_nil, len_app, get_app, get_app0, set_app, set_app0, List.append_assoc, List.cons_append, List.nil_append, List.set_cons_zero, List.set_cons_succ, Nat.add_assoc, Nat.zero_add, Nat.add_zero, Nat.mul_one, Nat.reduceAdd, Int.toNat_natCast, Int.reduceToNat, Option.map_some, Option.map_none, Bool.false_eq_true, if_true, if_false, reduceIte, true_and, and_true, recsE_len, rep, splice, toDs, toD, chunks, List.take_succ_cons, List.take_zero, List.drop_succ_cons, List.drop_zero, List.take_nil, List.drop_nil, Nat.reduceLeDiff, Nat.le_refl, Nat.reduceSub, List.append_nil, List.all_cons, List.all_nil, sc, Bool.and_true, Bool.and_self, Nat.lt_irrefl]
            refine Again.next (by omega) ⟨rfl, acc + X % 128 * 128 ^ k, ?_, by omega, by omega, hf.1, fun g => absurd h g, ?_⟩
            · have e1 : IntKind.u64.wrap (((128 ^ k : Nat) : Int) * 128) = ((128 ^ (k + 1) : Nat) : Int) := by
                rw [show ((128 ^ k : Nat) : Int) * 128 = ((128 ^ k * 128 : Nat) : Int) by rw [Int.natCast_mul]; rfl, wrap64u (by omega), hps]
              rw [e1, hw]
            · rw [hinv, ← hX]; exact numR_big (by omega) hk8
        · have b9 : ((k : Int) == 9) = false := by simp; omega
          simp -dsimp only [↓acallL, ↓loopL, ↓binC, ↓unC, ↓condC_b, ↓guardC_T, ↓guardC_F, ↓guardC_0, ↓pickC_b, ↓lenC, ↓slcC, ↓convC, ↓boxC, ↓allocC, ↓loadC, ↓storeC, ↓nilC, ↓faddrC, ↓fieldC, ↓iaddrC, ↓idxSC, ↓idxAC, ↓extractC, ↓buildC, ↓mksliceC, ↓appendC, ↓isnilC, ↓maxC, ↓minC, ↓callvC, ↓mkmapC, ↓mgetC, ↓msetC, ↓mdelC, ↓headC_cons, ↓rangeC, ↓BBL_true, ↓BBL_false, ↓BBL_not, binA, intOp, strOp, unA, esOf, bnd, intV, cellsA, fillV, srcE, dm, dm1, consO, cellA, maxL, minL, keepO, List.getElem?_cons_zero, List.getElem?_cons_succ, List.map_cons, List.map_nil, List.length_cons, List.length_nil, len_app, get_app, get_app0, set_app, set_app0, List.append_assoc, List.cons_append, List.nil_append, List.set_cons_zero, List.set_cons_succ, Nat.add_assoc, Nat.zero_add, Nat.add_zero, Nat.mul_one, Nat.reduceAdd, Int.toNat_natCast, Int.reduceToNat, Option.map_some, Option.map_none, Bool.false_eq_true, if_true, if_false, reduceIte, true_and, and_true, recsE_len, rep, splice, toDs, toD, chunks, List.take_succ_cons, List.take_zero, List.drop_succ_cons, List.drop_zero, List.take_nil, List.drop_nil, Nat.reduceLeDiff, Nat.le_refl, Nat.reduceSub, List.append_nil, List.all_cons, List.all_nil, sc, Bool.and_true, Bool.and_self, Nat.lt_irrefl, hs, bcs_length, hge, hx, b1, b9, hrem, hw1, hw2, hw3]
          repeat' ((with_reducible refine And.intro ?_ ?_); focus (first | omega | decide))
          refine BBL_intro (fun hsm => ?_) (fun hbig => ?_)
          · have hsm : X < 128 := by simp at hsm; omega
            simp only [hrem]
            repeat' first
              | simp -dsimp only [↓acallL, ↓loopL, ↓binC, ↓unC, ↓condC_b, ↓guardC_T, ↓guardC_F, ↓guardC_0, ↓pickC_b, ↓lenC, ↓slcC, ↓convC, ↓boxC, ↓allocC, ↓loadC, ↓storeC, ↓nilC, ↓faddrC, ↓fieldC, ↓iaddrC, ↓idxSC, ↓idxAC, ↓extractC, ↓buildC, ↓mksliceC, ↓appendC, ↓isnilC, ↓maxC, ↓minC, ↓callvC, ↓mkmapC, ↓mgetC, ↓msetC, ↓mdelC, ↓headC_cons, ↓rangeC, ↓BBL_true, ↓BBL_false, ↓BBL_not, binA, intOp, strOp, unA, esOf, bnd, intV, cellsA, fillV, srcE, dm, dm1, consO, cellA, maxL, minL, keepO, List.getElem?_cons_zero, List.getElem?_cons_succ, List.map_cons, List.map_nil, List.length_cons, List.length_nil, len_app, get_app, get_app0, set_app, set_app0, List.append_assoc, List.cons_append, List.nil_append, List.set_cons_zero, List.set_cons_succ, Nat.add_assoc, Nat.zero_add, Nat.add_zero, Nat.mul_one, Nat.reduceAdd, Int.toNat_natCast, Int.reduceToNat, Option.map_some, Option.map_none, Bool.false_eq_true, if_true, if_false, reduceIte, true_and, and_true, recsE_len, rep, splice, toDs, toD, chunks, List.take_succ_cons, List.take_zero, List.drop_succ_cons, List.drop_zero, List.take_nil, List.drop_nil, Nat.reduceLeDiff, Nat.le_refl, Nat.reduceSub, List.append_nil, List.all_cons, List.all_nil, sc, Bool.and_true, Bool.and_self, Nat.lt_irrefl, hs, hw, hw1, bcs_length, htk, hdr]
              | (refine BBL_intro (fun h => ?_) (fun h => ?_) <;> (try rw [h]))
              | refine c_rrFail hσ hc ?_
              | ((with_reducible refine And.intro ?_ ?_); focus (first | omega | rfl | decide | exact bcs_one))
            all_goals (try simp only [decide_eq_true_eq, decide_eq_false_iff_not, beq_iff_eq, beq_eq_false_iff_ne] at *)
            all_goals first
              | (intro c1 hc1; exact ends_set0 (by simp [Low_d, dmT, dm, dm1, pack]) hl (rrO_low hc1.low) (badK (by omega) (by omega) c1 hc1))
              | (rw [h0]; exact ends_set0 (by simp [Low_d, dmT, dm, dm1, pack]) hl (rrO_low (.d _)) (goodK (by omega) (by omega) (by omega)))
          · have hbig : X > 127 := by simp at hbig; omega
            have hk8 : k < 9 := by omega
            have hp : 128 ^ (k + 1) ≤ 128 ^ 9 := Nat.pow_le_pow_right (by omega) (by omega)
            have hp9 : (128 : Nat) ^ 9 = 9223372036854775808 := rfl
            have hps : 128 ^ (k + 1) = 128 ^ k * 128 := Nat.pow_succ ..
            simp -dsimp only [↓acallL, ↓loopL, ↓binC, ↓unC, ↓condC_b, ↓guardC_T, ↓guardC_F, ↓guardC_0, ↓pickC_b, ↓lenC, ↓slcC, ↓convC, ↓boxC, ↓allocC, ↓loadC, ↓storeC, ↓nilC, ↓faddrC, ↓fieldC, ↓iaddrC, ↓idxSC, ↓idxAC, ↓extractC, ↓buildC, ↓mksliceC, ↓appendC, ↓isnilC, ↓maxC, ↓minC, ↓callvC, ↓mkmapC, ↓mgetC, ↓msetC, ↓mdelC, ↓headC_cons, ↓rangeC, ↓BBL_true, ↓BBL_false, ↓BBL_not, binA, intOp, strOp, unA, esOf, bnd, intV, cellsA, fillV, srcE, dm, dm1, consO, cellA, maxL, minL, keepO, List.getElem?_cons_zero, List.getElem?_cons_succ, List.map_cons, List.map_nil, List.length_cons, List.length_nil, len_app, get_app, get_app0, set_app, set_app0, List.append_assoc, List.cons_append, List.nil_append, List.set_cons_zero, List.set_cons_succ, Nat.add_assoc, Nat.zero_add, Nat.add_zero, Nat.mul_one, Nat.reduceAdd, Int.toNat_natCast, Int.reduceToNat, Option.map_some, Option.map_none, Bool.false_eq_true, if_true, if_false, reduceIte, true_and, and_true, recsE_len, rep, splice, toDs, toD, chunks, List.take_succ_cons, List.take_zero, List.drop_succ_cons, List.drop_zero, List.take_nil, List.drop_nil, Nat.reduceLeDiff, Nat.le_refl, Nat.reduceSub, List.append_nil, List.all_cons, List.all_nil, sc, Bool.and_true, Bool.and_self, Nat.lt_irrefl]
            refine Again.next (by omega) ⟨rfl, acc + X % 128 * 128 ^ k, ?_, by omega, by omega, hf.1, fun g => absurd h g, ?_⟩
            · have e1 : IntKind.u64.wrap (((128 ^ k : Nat) : Int) * 128) = ((128 ^ (k + 1) : Nat) : Int) := by
                rw [show ((128 ^ k : Nat) : Int) * 128 = ((128 ^ k * 128 : Nat) : Int) by rw [Int.natCast_mul]; rfl, wrap64u (by omega), hps]
              rw [e1, hw]
            · rw [hinv, ← hX]; exact numR_big (by omega) hk8
end Go.Proofs.Ytahbjkanmagndaa
