/- Contracts: the reference's Parse; results. -/
import Derived.Test.YtahbjkanmagndaaRr2
import Derived.Test.YtahbjkanmagndaaRd4
set_option linter.all false
set_option maxRecDepth 100000
set_option linter.unusedSimpArgs false
namespace Go.Proofs.Ytahbjkanmagndaa
open Go.AW

theorem c_rParse {σ : List AObj} {b : List UInt8} (hb : b.length ≤ 1073741824) {K : AV → List AObj → Prop} (hK : K (.tup [opA (parseF b).1, .d (.int .i64 (parseF b).2)]) σ) : ACall Try.prog n_r06_Parse [.d (.slice (bcs b))] σ K := by
  refine acall_of isA_r06_Parse rfl fun hl _ => s_r06_Parse ?_
  simp only [S_r06_Parse]
  simp -dsimp only [↓acallL, ↓loopL, ↓binC, ↓unC, ↓condC_b, ↓guardC_T, ↓guardC_F, ↓guardC_0, ↓pickC_b, ↓lenC, ↓slcC, ↓convC, ↓boxC, ↓allocC, ↓loadC, ↓storeC, ↓nilC, ↓faddrC, ↓fieldC, ↓iaddrC, ↓idxSC, ↓idxAC, ↓extractC, ↓buildC, ↓mksliceC, ↓appendC, ↓isnilC, ↓maxC, ↓minC, ↓callvC, ↓mkmapC, ↓mgetC, ↓msetC, ↓mdelC, ↓headC_cons, ↓rangeC, ↓BBL_true, ↓BBL_false, ↓BBL_not, binA, intOp, strOp, unA, esOf, bnd, intV, cellsA, fillV, srcE, dm, dm1, consO, cellA, maxL, minL, keepO, List.getElem?_cons_zero, List.getElem?_cons_succ, List.map_cons, List.map_nil, List.length_cons, List.length_nil, len_app, get_app, get_app0, set_app, set_app0, List.append_assoc, List.cons_append, List.nil_append, List.set_cons_zero, List.set_cons_succ, Nat.add_assoc, Nat.zero_add, Nat.add_zero, Nat.mul_one, Nat.reduceAdd, Int.toNat_natCast, Int.reduceToNat, Option.map_some, Option.map_none, Bool.false_eq_true, if_true, if_false, reduceIte, true_and, and_true, recsE_len, rep, splice, toDs, toD, chunks, List.take_succ_cons, List.take_zero, List.drop_succ_cons, List.drop_zero, List.take_nil, List.drop_nil, Nat.reduceLeDiff, Nat.le_refl, Nat.reduceSub, List.append_nil, List.all_cons, List.all_nil, sc, Bool.and_true, Bool.and_self, Nat.lt_irrefl]
  refine c_rrRead ?_
  simp -dsimp only [↓acallL, ↓loopL, ↓binC, ↓unC, ↓condC_b, ↓guardC_T, ↓guardC_F, ↓guardC_0, ↓pickC_b, ↓lenC, ↓slcC, ↓convC, ↓boxC, ↓allocC, ↓loadC, ↓storeC, ↓nilC, ↓faddrC, ↓fieldC, ↓iaddrC, ↓idxSC, ↓idxAC, ↓extractC, ↓buildC, ↓mksliceC, ↓appendC, ↓isnilC, ↓maxC, ↓minC, ↓callvC, ↓mkmapC, ↓mgetC, ↓msetC, ↓mdelC, ↓headC_cons, ↓rangeC, ↓BBL_true, ↓BBL_false, ↓BBL_not, binA, intOp, strOp, unA, esOf, bnd, intV, cellsA, fillV, srcE, dm, dm1, consO, cellA, maxL, minL, keepO, List.getElem?_cons_zero, List.getElem?_cons_succ, List.map_cons, List.map_nil, List.length_cons, List.length_nil, len_app, get_app, get_app0, set_app, set_app0, List.append_assoc, List.cons_append, List.nil_append, List.set_cons_zero, List.set_cons_succ, Nat.add_assoc, Nat.zero_add, Nat.add_zero, Nat.mul_one, Nat.reduceAdd, Int.toNat_natCast, Int.reduceToNat, Option.map_some, Option.map_none, Bool.false_eq_true, if_true, if_false, reduceIte, true_and, and_true, recsE_len, rep, splice, toDs, toD, chunks, List.take_succ_cons, List.take_zero, List.drop_succ_cons, List.drop_zero, List.take_nil, List.drop_nil, Nat.reduceLeDiff, Nat.le_refl, Nat.reduceSub, List.append_nil, List.all_cons, List.all_nil, sc, Bool.and_true, Bool.and_self, Nat.lt_irrefl]
  obtain ⟨x, hx⟩ : ∃ x, (takeOpP true nameF ⟨b, 0⟩).1 = x := ⟨_, rfl⟩
  obtain ⟨s2, hs2⟩ : ∃ s2, (takeOpP true nameF ⟨b, 0⟩).2 = s2 := ⟨_, rfl⟩
  have hlike : Rd.like ⟨b, 0⟩ ⟨b, 0⟩ := ⟨rfl, fun _ => rfl⟩
  obtain ⟨q1, q2⟩ := hlike.takeOp (c := false) (d := true) (name := nameF)
  rw [hx] at q1
  rw [hs2] at q2
  have he : (if (takeOpP false nameF ⟨b, 0⟩).2.e = 0 ∧ 0 < (takeOpP false nameF ⟨b, 0⟩).2.b.length then 12 else (takeOpP false nameF ⟨b, 0⟩).2.e) = (if s2.e = 0 ∧ 0 < s2.b.length then 12 else s2.e) := by
    obtain ⟨q2, q3⟩ := q2
    rw [q2]
    by_cases h : s2.e = 0
    · rw [q3 (by rw [q2, h])]
    · rw [if_neg (fun g => h g.1), if_neg (fun g => h g.1)]
  have hP : parseF b = (if (if s2.e = 0 ∧ 0 < s2.b.length then 12 else s2.e) = 0 then x else noOp, if s2.e = 0 ∧ 0 < s2.b.length then 12 else s2.e) := by rw [parseF, q1, he]
  rw [hP] at hK
  refine c_rTake (s := ⟨b, 0⟩) (by simp -dsimp only [↓acallL, ↓loopL, ↓binC, ↓unC, ↓condC_b, ↓guardC_T, ↓guardC_F, ↓guardC_0, ↓pickC_b, ↓lenC, ↓slcC, ↓convC, ↓boxC, ↓allocC, ↓loadC, ↓storeC, ↓nilC, ↓faddrC, ↓fieldC, ↓iaddrC, ↓idxSC, ↓idxAC, ↓extractC, ↓buildC, ↓mksliceC, ↓appendC, ↓isnilC, ↓maxC, ↓minC, ↓callvC, ↓mkmapC, ↓mgetC, ↓msetC, ↓mdelC, ↓headC_cons, ↓rangeC, ↓BBL_true, ↓BBL_false, ↓BBL_not, binA, intOp, strOp, unA, esOf, bnd, intV, cellsA, fillV, srcE, dm, dm1, consO, cellA, maxL, minL, keepO, List.getElem?_cons_zero, List.getElem?_cons_succ, List.map_cons, List.map_nil, List.length_cons, List.length_nil, len_app, get_app, get_app0, set_app, set_app0, List.append_assoc, List.cons_append, List.nil_append, List.set_cons_zero, List.set_cons_succ, Nat.add_assoc, Nat.zero_add, Nat.add_zero, Nat.mul_one, Nat.reduceAdd, Int.toNat_natCast, Int.reduceToNat, Option.map_some, Option.map_none, Bool.false_eq_true, if_true, if_false, reduceIte, true_and, and_true, recsE_len, rep, splice, toDs, toD, chunks, List.take_succ_cons, List.take_zero, List.drop_succ_cons, List.drop_zero, List.take_nil, List.drop_nil, Nat.reduceLeDiff, Nat.le_refl, Nat.reduceSub, List.append_nil, List.all_cons, List.all_nil, sc, Bool.and_true, Bool.and_self, Nat.lt_irrefl]) ⟨.inl rfl, fun h => absurd rfl h⟩ hb ?_
  rw [hx, hs2]
  intro c' hc'
  simp -dsimp only [↓acallL, ↓loopL, ↓binC, ↓unC, ↓condC_b, ↓guardC_T, ↓guardC_F, ↓guardC_0, ↓pickC_b, ↓lenC, ↓slcC, ↓convC, ↓boxC, ↓allocC, ↓loadC, ↓storeC, ↓nilC, ↓faddrC, ↓fieldC, ↓iaddrC, ↓idxSC, ↓idxAC, ↓extractC, ↓buildC, ↓mksliceC, ↓appendC, ↓isnilC, ↓maxC, ↓minC, ↓callvC, ↓mkmapC, ↓mgetC, ↓msetC, ↓mdelC, ↓headC_cons, ↓rangeC, ↓BBL_true, ↓BBL_false, ↓BBL_not, binA, intOp, strOp, unA, esOf, bnd, intV, cellsA, fillV, srcE, dm, dm1, consO, cellA, maxL, minL, keepO, List.getElem?_cons_zero, List.getElem?_cons_succ, List.map_cons, List.map_nil, List.length_cons, List.length_nil, len_app, get_app, get_app0, set_app, set_app0, List.append_assoc, List.cons_append, List.nil_append, List.set_cons_zero, List.set_cons_succ, Nat.add_assoc, Nat.zero_add, Nat.add_zero, Nat.mul_one, Nat.reduceAdd, Int.toNat_natCast, Int.reduceToNat, Option.map_some, Option.map_none, Bool.false_eq_true, if_true, if_false, reduceIte, true_and, and_true, recsE_len, rep, splice, toDs, toD, chunks, List.take_succ_cons, List.take_zero, List.drop_succ_cons, List.drop_zero, List.take_nil, List.drop_nil, Nat.reduceLeDiff, Nat.le_refl, Nat.reduceSub, List.append_nil, List.all_cons, List.all_nil, sc, Bool.and_true, Bool.and_self, Nat.lt_irrefl, opA]
  refine c_rrDone (s := s2) (by simp -dsimp only [↓acallL, ↓loopL, ↓binC, ↓unC, ↓condC_b, ↓guardC_T, ↓guardC_F, ↓guardC_0, ↓pickC_b, ↓lenC, ↓slcC, ↓convC, ↓boxC, ↓allocC, ↓loadC, ↓storeC, ↓nilC, ↓faddrC, ↓fieldC, ↓iaddrC, ↓idxSC, ↓idxAC, ↓extractC, ↓buildC, ↓mksliceC, ↓appendC, ↓isnilC, ↓maxC, ↓minC, ↓callvC, ↓mkmapC, ↓mgetC, ↓msetC, ↓mdelC, ↓headC_cons, ↓rangeC, ↓BBL_true, ↓BBL_false, ↓BBL_not, binA, intOp, strOp, unA, esOf, bnd, intV, cellsA, fillV, srcE, dm, dm1, consO, cellA, maxL, minL, keepO, List.getElem?_cons_zero, List.getElem?_cons_succ, List.map_cons, List.map_nil, List.length_cons, List.length_nil, len_app, get_app, get_app0, set_app, set_app0, List.append_assoc, List.cons_append, List.nil_append, List.set_cons_zero, List.set_cons_succ, Nat.add_assoc, Nat.zero_add, Nat.add_zero, Nat.mul_one, Nat.reduceAdd, Int.toNat_natCast, Int.reduceToNat, Option.map_some, Option.map_none, Bool.false_eq_true, if_true, if_false, reduceIte, true_and, and_true, recsE_len, rep, splice, toDs, toD, chunks, List.take_succ_cons, List.take_zero, List.drop_succ_cons, List.drop_zero, List.take_nil, List.drop_nil, Nat.reduceLeDiff, Nat.le_refl, Nat.reduceSub, List.append_nil, List.all_cons, List.all_nil, sc, Bool.and_true, Bool.and_self, Nat.lt_irrefl]) hc' ?_
  obtain ⟨e, he⟩ : ∃ e, (if s2.e = 0 ∧ 0 < s2.b.length then 12 else s2.e) = e := ⟨_, rfl⟩
  rw [he] at hK ⊢
  simp -dsimp only [↓acallL, ↓loopL, ↓binC, ↓unC, ↓condC_b, ↓guardC_T, ↓guardC_F, ↓guardC_0, ↓pickC_b, ↓lenC, ↓slcC, ↓convC, ↓boxC, ↓allocC, ↓loadC, ↓storeC, ↓nilC, ↓faddrC, ↓fieldC, ↓iaddrC, ↓idxSC, ↓idxAC, ↓extractC, ↓buildC, ↓mksliceC, ↓appendC, ↓isnilC, ↓maxC, ↓minC, ↓callvC, ↓mkmapC, ↓mgetC, ↓msetC, ↓mdelC, ↓headC_cons, ↓rangeC, ↓BBL_true, ↓BBL_false, ↓BBL_not, binA, intOp, strOp, unA, esOf, bnd, intV, cellsA, fillV, srcE, dm, dm1, consO, cellA, maxL, minL, keepO, List.getElem?_cons_zero, List.getElem?_cons_succ, List.map_cons, List.map_nil, List.length_cons, List.length_nil, len_app, get_app, get_app0, set_app, set_app0, List.append_assoc, List.cons_append, List.nil_append, List.set_cons_zero, List.set_cons_succ, Nat.add_assoc, Nat.zero_add, Nat.add_zero, Nat.mul_one, Nat.reduceAdd, Int.toNat_natCast, Int.reduceToNat, Option.map_some, Option.map_none, Bool.false_eq_true, if_true, if_false, reduceIte, true_and, and_true, recsE_len, rep, splice, toDs, toD, chunks, List.take_succ_cons, List.take_zero, List.drop_succ_cons, List.drop_zero, List.take_nil, List.drop_nil, Nat.reduceLeDiff, Nat.le_refl, Nat.reduceSub, List.append_nil, List.all_cons, List.all_nil, sc, Bool.and_true, Bool.and_self, Nat.lt_irrefl]
  refine BBL_intro (fun h => ?_) (fun h => ?_)
  all_goals
    simp -dsimp only [↓acallL, ↓loopL, ↓binC, ↓unC, ↓condC_b, ↓guardC_T, ↓guardC_F, ↓guardC_0, ↓pickC_b, ↓lenC, ↓slcC, ↓convC, ↓boxC, ↓allocC, ↓loadC, ↓storeC, ↓nilC, ↓faddrC, ↓fieldC, ↓iaddrC, ↓idxSC, ↓idxAC, ↓extractC, ↓buildC, ↓mksliceC, ↓appendC, ↓isnilC, ↓maxC, ↓minC, ↓callvC, ↓mkmapC, ↓mgetC, ↓msetC, ↓mdelC, ↓headC_cons, ↓rangeC, ↓BBL_true, ↓BBL_false, ↓BBL_not, binA, intOp, strOp, unA, esOf, bnd, intV, cellsA, fillV, srcE, dm, dm1, consO, cellA, maxL, minL, keepO, List.getElem?_cons_zero, List.getElem?_cons_succ, List.map_cons, List.map_nil, List.length_cons, List.length_nil, len_app, get_app, get_app0, set_app, set_app0, List.append_assoc, List.cons_append, List.nil_append, List.set_cons_zero, List.set_cons_succ, Nat.add_assoc, Nat.zero_add, Nat.add_zero, Nat.mul_one, Nat.reduceAdd, Int.toNat_natCast, Int.reduceToNat, Option.map_some, Option.map_none, Bool.false_eq_true, if_true, if_false, reduceIte, true_and, and_true, recsE_len, rep, splice, toDs, toD, chunks, List.take_succ_cons, List.take_zero, List.drop_succ_cons, List.drop_zero, List.take_nil, List.drop_nil, Nat.reduceLeDiff, Nat.le_refl, Nat.reduceSub, List.append_nil, List.all_cons, List.all_nil, sc, Bool.and_true, Bool.and_self, Nat.lt_irrefl]
    repeat' ((with_reducible refine And.intro ?_ ?_); focus (first | omega | rfl | decide))
    try simp -dsimp only [↓acallL, ↓loopL, ↓binC, ↓unC, ↓condC_b, ↓guardC_T, ↓guardC_F, ↓guardC_0, ↓pickC_b, ↓lenC, ↓slcC, ↓convC, ↓boxC, ↓allocC, ↓loadC, ↓storeC, ↓nilC, ↓faddrC, ↓fieldC, ↓iaddrC, ↓idxSC, ↓idxAC, ↓extractC, ↓buildC, ↓mksliceC, ↓appendC, ↓isnilC, ↓maxC, ↓minC, ↓callvC, ↓mkmapC, ↓mgetC, ↓msetC, ↓mdelC, ↓headC_cons, ↓rangeC, ↓BBL_true, ↓BBL_false, ↓BBL_not, binA, intOp, strOp, unA, esOf, bnd, intV, cellsA, fillV, srcE, dm, dm1, consO, cellA, maxL, minL, keepO, List.getElem?_cons_zero, List.getElem?_cons_succ, List.map_cons, List.map_nil, List.length_cons, List.length_nil, len_app, get_app, get_app0, set_app, set_app0, List.append_assoc, List.cons_append, List.nil_append, List.set_cons_zero, List.set_cons_succ, Nat.add_assoc, Nat.zero_add, Nat.add_zero, Nat.mul_one, Nat.reduceAdd, Int.toNat_natCast, Int.reduceToNat, Option.map_some, Option.map_none, Bool.false_eq_true, if_true, if_false, reduceIte, true_and, and_true, recsE_len, rep, splice, toDs, toD, chunks, List.take_succ_cons, List.take_zero, List.drop_succ_cons, List.drop_zero, List.take_nil, List.drop_nil, Nat.reduceLeDiff, Nat.le_refl, Nat.reduceSub, List.append_nil, List.all_cons, List.all_nil, sc, Bool.and_true, Bool.and_self, Nat.lt_irrefl]
  · have h0 : ¬ e = 0 := by simpa using h
    rw [if_neg h0] at hK
    exact ends_plain (by simp [Low_d, dmT, dm, dm1, pack, Low_tup, Low_agg, opA]) hl hK
  · have h0 : e = 0 := by simpa using h
    rw [if_pos h0, h0] at hK
    exact ends_plain (by simp [Low_d, dmT, dm, dm1, pack, Low_tup, Low_agg, opA]) hl hK
theorem fieldsP_len (c : Bool) (k : Nat) (s : Rd) : (fieldsP c k s).2.b.length ≤ s.b.length := by
  have a := bytesP_lenC c 64 s
  have b := bytesP_lenC c 64 (bytesP c 64 s).2
  have d := numP_lenC c 4 (bytesP c 64 s).2
  have e := recsP_blenC c (numP c 4 (bytesP c 64 s).2).2 (numP c 4 (bytesP c 64 s).2).1
  have f := numP_lenC c 9007199254740992 (bytesP c 64 s).2
  have g := numP_lenC c 9007199254740992 (bytesP c 64 (bytesP c 64 s).2).2
  unfold fieldsP
  simp only
  repeat' split
  all_goals simp only
  all_goals omega
theorem takeOpP_len (c : Bool) (name : List UInt8 → Bool) (s : Rd) : (takeOpP c name s).2.b.length ≤ s.b.length := by
  have a := numP_lenC c 4 s
  have b := fieldsP_len c (numP c 4 s).1 (numP c 4 s).2
  have d := fail_len c (fieldsP c (numP c 4 s).1 (numP c 4 s).2).2 (checkOpF name (fieldsP c (numP c 4 s).1 (numP c 4 s).2).1)
  unfold takeOpP
  simp only
  omega
/-- a result: its error's number, its place; the reader behind it -/
def resP (c : Bool) (s : Rd) : (Nat × Nat) × Rd :=
  let a := numP c 65536 s
  let b := numP c 9007199254740992 a.2
  (if b.2.e = 0 then (a.1, b.1) else (0, 0), b.2)
theorem Rd.like.res {s t : Rd} {c d : Bool} (h : s.like t) : (resP c s).1 = (resP d t).1 ∧ (resP c s).2.like (resP d t).2 := by
  obtain ⟨a1, a2⟩ := h.num (c := c) (d := d) (m := 65536)
  obtain ⟨b1, b2⟩ := a2.num (c := c) (d := d) (m := 9007199254740992)
  unfold resP
  simp only
  rw [← a1, ← b1, ← b2.1]
  exact ⟨rfl, b2⟩
def resA (p : Nat × Nat) : AV := .agg [.d (.int .i64 p.1), .d (.int .i64 p.2)]
theorem c_TakeResult {σ : List AObj} {id : Nat} {c : AV} {s : Rd} (hσ : σ[id]? = some (rdO c s.e)) (hc : Cell c s.b) (hB : s.b.length ≤ 1073741824) {K : AV → List AObj → Prop}
    (hK : ∀ c', Nxt c c' → Cell c' (resP false s).2.b → K (resA (resP false s).1) (σ.set id (rdO c' (resP false s).2.e))) : ACall Try.prog n_op_TakeResult [.box id 0] σ K := by
  refine acall_of isA_op_TakeResult rfl fun hl _ => s_op_TakeResult ?_
  have hlow := rdO_cell hl hσ
  have hlt := (List.getElem?_eq_some_iff.1 hσ).1
  have hlenX : ∀ X, (σ.set id X).length = σ.length := fun X => List.length_set
  have hget : ∀ X τ, (σ.set id X ++ τ)[id]? = some X := fun X τ => get_left (get_set_self hσ)
  have hput : ∀ X τ y, (σ.set id X ++ τ).set id y = σ.set id y ++ τ := fun X τ y => by rw [set_left (get_set_self hσ), List.set_set]
  have hput0 : ∀ τ y, (σ ++ τ).set id y = σ.set id y ++ τ := fun τ y => set_left hσ
  have lget : ∀ X τ k, (σ.set id X ++ τ)[σ.length + k]? = τ[k]? := fun X τ k => by rw [← hlenX X, get_app]
  have lget0 : ∀ X τ, (σ.set id X ++ τ)[σ.length]? = τ[0]? := fun X τ => by rw [← hlenX X, get_app0]
  have lset : ∀ X τ k y, (σ.set id X ++ τ).set (σ.length + k) y = σ.set id X ++ τ.set k y := fun X τ k y => by rw [← hlenX X, set_app]
  have lset0 : ∀ X τ y, (σ.set id X ++ τ).set σ.length y = σ.set id X ++ τ.set 0 y := fun X τ y => by rw [← hlenX X, set_app0]
  have hle1 := numP_le false 65536 s
  have hln1 := numP_len 65536 s
  unfold resP at hK
  simp only at hK
  obtain ⟨s1, hs1⟩ : ∃ s1, (numP false 65536 s).2 = s1 := ⟨_, rfl⟩
  obtain ⟨k, hk⟩ : ∃ k, (numP false 65536 s).1 = k := ⟨_, rfl⟩
  rw [hs1] at hK hln1
  rw [hk] at hK hle1
  have hle2 := numP_le false 9007199254740992 s1
  obtain ⟨s2, hs2⟩ : ∃ s2, (numP false 9007199254740992 s1).2 = s2 := ⟨_, rfl⟩
  obtain ⟨f, hf⟩ : ∃ f, (numP false 9007199254740992 s1).1 = f := ⟨_, rfl⟩
  rw [hs2, hf] at hK
  rw [hf] at hle2
  have w1 : IntKind.i64.wrap (k : Int) = k := wrap64i (by omega) (by omega)
  have w2 : IntKind.i64.wrap (f : Int) = f := wrap64i (by omega) (by omega)
  simp only [S_op_TakeResult]
  simp -dsimp only [↓acallL, ↓loopL, ↓binC, ↓unC, ↓condC_b, ↓guardC_T, ↓guardC_F, ↓guardC_0, ↓pickC_b, ↓lenC, ↓slcC, ↓convC, ↓boxC, ↓allocC, ↓loadC, ↓storeC, ↓nilC, ↓faddrC, ↓fieldC, ↓iaddrC, ↓idxSC, ↓idxAC, ↓extractC, ↓buildC, ↓mksliceC, ↓appendC, ↓isnilC, ↓maxC, ↓minC, ↓callvC, ↓mkmapC, ↓mgetC, ↓msetC, ↓mdelC, ↓headC_cons, ↓rangeC, ↓BBL_true, ↓BBL_false, ↓BBL_not, binA, intOp, strOp, unA, esOf, bnd, intV, cellsA, fillV, srcE, dm, dm1, consO, cellA, maxL, minL, keepO, List.getElem?_cons_zero, List.getElem?_cons_succ, List.map_cons, List.map_nil, List.length_cons, List.length_nil, len_app, get_app, get_app0, set_app, set_app0, List.append_assoc, List.cons_append, List.nil_append, List.set_cons_zero, List.set_cons_succ, Nat.add_assoc, Nat.zero_add, Nat.add_zero, Nat.mul_one, Nat.reduceAdd, Int.toNat_natCast, Int.reduceToNat, Option.map_some, Option.map_none, Bool.false_eq_true, if_true, if_false, reduceIte, true_and, and_true, recsE_len, rep, splice, toDs, toD, chunks, List.take_succ_cons, List.take_zero, List.drop_succ_cons, List.drop_zero, List.take_nil, List.drop_nil, Nat.reduceLeDiff, Nat.le_refl, Nat.reduceSub, List.append_nil, List.all_cons, List.all_nil, sc, Bool.and_true, Bool.and_self, Nat.lt_irrefl]
  refine c_Num (m := 65536) (by omega) (get_left hσ) hc hB ?_
  rw [hs1, hk]
  intro c1 n1 hc1
  simp -dsimp only [↓acallL, ↓loopL, ↓binC, ↓unC, ↓condC_b, ↓guardC_T, ↓guardC_F, ↓guardC_0, ↓pickC_b, ↓lenC, ↓slcC, ↓convC, ↓boxC, ↓allocC, ↓loadC, ↓storeC, ↓nilC, ↓faddrC, ↓fieldC, ↓iaddrC, ↓idxSC, ↓idxAC, ↓extractC, ↓buildC, ↓mksliceC, ↓appendC, ↓isnilC, ↓maxC, ↓minC, ↓callvC, ↓mkmapC, ↓mgetC, ↓msetC, ↓mdelC, ↓headC_cons, ↓rangeC, ↓BBL_true, ↓BBL_false, ↓BBL_not, binA, intOp, strOp, unA, esOf, bnd, intV, cellsA, fillV, srcE, dm, dm1, consO, cellA, maxL, minL, keepO, List.getElem?_cons_zero, List.getElem?_cons_succ, List.map_cons, List.map_nil, List.length_cons, List.length_nil, len_app, get_app, get_app0, set_app, set_app0, List.append_assoc, List.cons_append, List.nil_append, List.set_cons_zero, List.set_cons_succ, Nat.add_assoc, Nat.zero_add, Nat.add_zero, Nat.mul_one, Nat.reduceAdd, Int.toNat_natCast, Int.reduceToNat, Option.map_some, Option.map_none, Bool.false_eq_true, if_true, if_false, reduceIte, true_and, and_true, recsE_len, rep, splice, toDs, toD, chunks, List.take_succ_cons, List.take_zero, List.drop_succ_cons, List.drop_zero, List.take_nil, List.drop_nil, Nat.reduceLeDiff, Nat.le_refl, Nat.reduceSub, List.append_nil, List.all_cons, List.all_nil, sc, Bool.and_true, Bool.and_self, Nat.lt_irrefl, hput0, hlenX, hget, hput, lget, lget0, lset, lset0, w1, w2]
  refine c_Num (m := 9007199254740992) (s := s1) (by omega) (hget _ _) hc1 (by omega) ?_
  rw [hs2, hf]
  intro c2 n2 hc2
  simp -dsimp only [↓acallL, ↓loopL, ↓binC, ↓unC, ↓condC_b, ↓guardC_T, ↓guardC_F, ↓guardC_0, ↓pickC_b, ↓lenC, ↓slcC, ↓convC, ↓boxC, ↓allocC, ↓loadC, ↓storeC, ↓nilC, ↓faddrC, ↓fieldC, ↓iaddrC, ↓idxSC, ↓idxAC, ↓extractC, ↓buildC, ↓mksliceC, ↓appendC, ↓isnilC, ↓maxC, ↓minC, ↓callvC, ↓mkmapC, ↓mgetC, ↓msetC, ↓mdelC, ↓headC_cons, ↓rangeC, ↓BBL_true, ↓BBL_false, ↓BBL_not, binA, intOp, strOp, unA, esOf, bnd, intV, cellsA, fillV, srcE, dm, dm1, consO, cellA, maxL, minL, keepO, List.getElem?_cons_zero, List.getElem?_cons_succ, List.map_cons, List.map_nil, List.length_cons, List.length_nil, len_app, get_app, get_app0, set_app, set_app0, List.append_assoc, List.cons_append, List.nil_append, List.set_cons_zero, List.set_cons_succ, Nat.add_assoc, Nat.zero_add, Nat.add_zero, Nat.mul_one, Nat.reduceAdd, Int.toNat_natCast, Int.reduceToNat, Option.map_some, Option.map_none, Bool.false_eq_true, if_true, if_false, reduceIte, true_and, and_true, recsE_len, rep, splice, toDs, toD, chunks, List.take_succ_cons, List.take_zero, List.drop_succ_cons, List.drop_zero, List.take_nil, List.drop_nil, Nat.reduceLeDiff, Nat.le_refl, Nat.reduceSub, List.append_nil, List.all_cons, List.all_nil, sc, Bool.and_true, Bool.and_self, Nat.lt_irrefl, hput0, hlenX, hget, hput, lget, lget0, lset, lset0, w1, w2]
  refine c_Err (hget _ _) ?_
  have := hK c2 (n1.trans n2) hc2
  by_cases h : s2.e = 0
  · have b1 : (s2.e != 0) = false := by simpa using h
    rw [if_pos h] at this
    simp -dsimp only [↓acallL, ↓loopL, ↓binC, ↓unC, ↓condC_b, ↓guardC_T, ↓guardC_F, ↓guardC_0, ↓pickC_b, ↓lenC, ↓slcC, ↓convC, ↓boxC, ↓allocC, ↓loadC, ↓storeC, ↓nilC, ↓faddrC, ↓fieldC, ↓iaddrC, ↓idxSC, ↓idxAC, ↓extractC, ↓buildC, ↓mksliceC, ↓appendC, ↓isnilC, ↓maxC, ↓minC, ↓callvC, ↓mkmapC, ↓mgetC, ↓msetC, ↓mdelC, ↓headC_cons, ↓rangeC, ↓BBL_true, ↓BBL_false, ↓BBL_not, binA, intOp, strOp, unA, esOf, bnd, intV, cellsA, fillV, srcE, dm, dm1, consO, cellA, maxL, minL, keepO, List.getElem?_cons_zero, List.getElem?_cons_succ, List.map_cons, List.map_nil, List.length_cons, List.length_nil, len_app, get_app, get_app0, set_app, set_app0, List.append_assoc, List.cons_append, List.nil_append, List.set_cons_zero, List.set_cons_succ, Nat.add_assoc, Nat.zero_add, Nat.add_zero, Nat.mul_one, Nat.reduceAdd, Int.toNat_natCast, Int.reduceToNat, Option.map_some, Option.map_none, Bool.false_eq_true, if_true, if_false, reduceIte, true_and, and_true, recsE_len, rep, splice, toDs, toD, chunks, List.take_succ_cons, List.take_zero, List.drop_succ_cons, List.drop_zero, List.take_nil, List.drop_nil, Nat.reduceLeDiff, Nat.le_refl, Nat.reduceSub, List.append_nil, List.all_cons, List.all_nil, sc, Bool.and_true, Bool.and_self, Nat.lt_irrefl, hput0, hlenX, hget, hput, lget, lget0, lset, lset0, w1, w2, b1]
    exact ends_set (by simp [Low_d, dmT, dm, dm1, pack, Low_agg]) hl (rdO_low ((n1.trans n2).low hlow)) this
  · have b1 : (s2.e != 0) = true := by simpa using h
    rw [if_neg h] at this
    simp -dsimp only [↓acallL, ↓loopL, ↓binC, ↓unC, ↓condC_b, ↓guardC_T, ↓guardC_F, ↓guardC_0, ↓pickC_b, ↓lenC, ↓slcC, ↓convC, ↓boxC, ↓allocC, ↓loadC, ↓storeC, ↓nilC, ↓faddrC, ↓fieldC, ↓iaddrC, ↓idxSC, ↓idxAC, ↓extractC, ↓buildC, ↓mksliceC, ↓appendC, ↓isnilC, ↓maxC, ↓minC, ↓callvC, ↓mkmapC, ↓mgetC, ↓msetC, ↓mdelC, ↓headC_cons, ↓rangeC, ↓BBL_true, ↓BBL_false, ↓BBL_not, binA, intOp, strOp, unA, esOf, bnd, intV, cellsA, fillV, srcE, dm, dm1, consO, cellA, maxL, minL, keepO, List.getElem?_cons_zero, List.getElem?_cons_succ, List.map_cons, List.map_nil, List.length_cons, List.length_nil, len_app, get_app, get_app0, set_app, set_app0, List.append_assoc, List.cons_append, List.nil_append, List.set_cons_zero, List.set_cons_succ, Nat.add_assoc, Nat.zero_add, Nat.add_zero, Nat.mul_one, Nat.reduceAdd, Int.toNat_natCast, Int.reduceToNat, Option.map_some, Option.map_none, Bool.false_eq_true, if_true, if_false, reduceIte, true_and, and_true, recsE_len, rep, splice, toDs, toD, chunks, List.take_succ_cons, List.take_zero, List.drop_succ_cons, List.drop_zero, List.take_nil, List.drop_nil, Nat.reduceLeDiff, Nat.le_refl, Nat.reduceSub, List.append_nil, List.all_cons, List.all_nil, sc, Bool.and_true, Bool.and_self, Nat.lt_irrefl, hput0, hlenX, hget, hput, lget, lget0, lset, lset0, w1, w2, b1]
    exact ends_set (by simp [Low_d, dmT, dm, dm1, pack, Low_agg]) hl (rdO_low ((n1.trans n2).low hlow)) this
theorem c_rTakeResult {σ : List AObj} {id : Nat} {c : AV} {s : Rd} (hσ : σ[id]? = some (rrO c s.e)) (hc : RCell c s) (hB : s.b.length ≤ 1073741824) {K : AV → List AObj → Prop}
    (hK : ∀ c', RCell c' (resP true s).2 → K (resA (resP true s).1) (σ.set id (rrO c' (resP true s).2.e))) : ACall Try.prog n_r06_TakeResult [.box id 0] σ K := by
  refine acall_of isA_r06_TakeResult rfl fun hl _ => s_r06_TakeResult ?_
  have hlt := (List.getElem?_eq_some_iff.1 hσ).1
  have hlenX : ∀ X, (σ.set id X).length = σ.length := fun X => List.length_set
  have hget : ∀ X τ, (σ.set id X ++ τ)[id]? = some X := fun X τ => get_left (get_set_self hσ)
  have hgetR : ∀ c e τ, (σ.set id (rrO c e) ++ τ)[id]? = some (.box [c, .d (.int .i64 e)]) := fun c e τ => hget _ τ
  have hput : ∀ X τ y, (σ.set id X ++ τ).set id y = σ.set id y ++ τ := fun X τ y => by rw [set_left (get_set_self hσ), List.set_set]
  have hput0 : ∀ τ y, (σ ++ τ).set id y = σ.set id y ++ τ := fun τ y => set_left hσ
  have lget : ∀ X τ k, (σ.set id X ++ τ)[σ.length + k]? = τ[k]? := fun X τ k => by rw [← hlenX X, get_app]
  have lget0 : ∀ X τ, (σ.set id X ++ τ)[σ.length]? = τ[0]? := fun X τ => by rw [← hlenX X, get_app0]
  have lset : ∀ X τ k y, (σ.set id X ++ τ).set (σ.length + k) y = σ.set id X ++ τ.set k y := fun X τ k y => by rw [← hlenX X, set_app]
  have lset0 : ∀ X τ y, (σ.set id X ++ τ).set σ.length y = σ.set id X ++ τ.set 0 y := fun X τ y => by rw [← hlenX X, set_app0]
  have hle1 := numP_le true 65536 s
  have hln1 := numP_lenC true 65536 s
  unfold resP at hK
  simp only at hK
  obtain ⟨s1, hs1⟩ : ∃ s1, (numP true 65536 s).2 = s1 := ⟨_, rfl⟩
  obtain ⟨k, hk⟩ : ∃ k, (numP true 65536 s).1 = k := ⟨_, rfl⟩
  rw [hs1] at hK hln1
  rw [hk] at hK hle1
  have hle2 := numP_le true 9007199254740992 s1
  obtain ⟨s2, hs2⟩ : ∃ s2, (numP true 9007199254740992 s1).2 = s2 := ⟨_, rfl⟩
  obtain ⟨f, hf⟩ : ∃ f, (numP true 9007199254740992 s1).1 = f := ⟨_, rfl⟩
  rw [hs2, hf] at hK
  rw [hf] at hle2
  have w1 : IntKind.i64.wrap (k : Int) = k := wrap64i (by omega) (by omega)
  have w2 : IntKind.i64.wrap (f : Int) = f := wrap64i (by omega) (by omega)
  simp only [S_r06_TakeResult]
  simp -dsimp only [↓acallL, ↓loopL, ↓binC, ↓unC, ↓condC_b, ↓guardC_T, ↓guardC_F, ↓guardC_0, ↓pickC_b, ↓lenC, ↓slcC, ↓convC, ↓boxC, ↓allocC, ↓loadC, ↓storeC, ↓nilC, ↓faddrC, ↓fieldC, ↓iaddrC, ↓idxSC, ↓idxAC, ↓extractC, ↓buildC, ↓mksliceC, ↓appendC, ↓isnilC, ↓maxC, ↓minC, ↓callvC, ↓mkmapC, ↓mgetC, ↓msetC, ↓mdelC, ↓headC_cons, ↓rangeC, ↓BBL_true, ↓BBL_false, ↓BBL_not, binA, intOp, strOp, unA, esOf, bnd, intV, cellsA, fillV, srcE, dm, dm1, consO, cellA, maxL, minL, keepO, List.getElem?_cons_zero, List.getElem?_cons_succ, List.map_cons, List.map_nil, List.length_cons, List.length_nil, len_app, get_app, get_app0, set_app, set_app0, List.append_assoc, List.cons_append, List.nil_append, List.set_cons_zero, List.set_cons_succ, Nat.add_assoc, Nat.zero_add, Nat.add_zero, Nat.mul_one, Nat.reduceAdd, Int.toNat_natCast, Int.reduceToNat, Option.map_some, Option.map_none, Bool.false_eq_true, if_true, if_false, reduceIte, true_and, and_true, recsE_len, rep, splice, toDs, toD, chunks, List.take_succ_cons, List.take_zero, List.drop_succ_cons, List.drop_zero, List.take_nil, List.drop_nil, Nat.reduceLeDiff, Nat.le_refl, Nat.reduceSub, List.append_nil, List.all_cons, List.all_nil, sc, Bool.and_true, Bool.and_self, Nat.lt_irrefl]
  refine c_rrNum (m := 65536) (by omega) (get_left hσ) hc hB ?_
  rw [hs1, hk]
  intro c1 hc1
  simp -dsimp only [↓acallL, ↓loopL, ↓binC, ↓unC, ↓condC_b, ↓guardC_T, ↓guardC_F, ↓guardC_0, ↓pickC_b, ↓lenC, ↓slcC, ↓convC, ↓boxC, ↓allocC, ↓loadC, ↓storeC, ↓nilC, ↓faddrC, ↓fieldC, ↓iaddrC, ↓idxSC, ↓idxAC, ↓extractC, ↓buildC, ↓mksliceC, ↓appendC, ↓isnilC, ↓maxC, ↓minC, ↓callvC, ↓mkmapC, ↓mgetC, ↓msetC, ↓mdelC, ↓headC_cons, ↓rangeC, ↓BBL_true, ↓BBL_false, ↓BBL_not, binA, intOp, strOp, unA, esOf, bnd, intV, cellsA, fillV, srcE, dm, dm1, consO, cellA, maxL, minL, keepO, List.getElem?_cons_zero, List.getElem?_cons_succ, List.map_cons, List.map_nil, List.length_cons, List.length_nil, len_app, get_app, get_app0, set_app, set_app0, List.append_assoc, List.cons_append, List.nil_append, List.set_cons_zero, List.set_cons_succ, Nat.add_assoc, Nat.zero_add, Nat.add_zero, Nat.mul_one, Nat.reduceAdd, Int.toNat_natCast, Int.reduceToNat, Option.map_some, Option.map_none, Bool.false_eq_true, if_true, if_false, reduceIte, true_and, and_true, recsE_len, rep, splice, toDs, toD, chunks, List.take_succ_cons, List.take_zero, List.drop_succ_cons, List.drop_zero, List.take_nil, List.drop_nil, Nat.reduceLeDiff, Nat.le_refl, Nat.reduceSub, List.append_nil, List.all_cons, List.all_nil, sc, Bool.and_true, Bool.and_self, Nat.lt_irrefl, hput0, hlenX, hgetR, hput, lget, lget0, lset, lset0, w1, w2]
  refine c_rrNum (m := 9007199254740992) (s := s1) (by omega) (hget _ _) hc1 (by omega) ?_
  rw [hs2, hf]
  intro c2 hc2
  have := hK c2 hc2
  by_cases h : s2.e = 0
  · have b1 : (s2.e != 0) = false := by simpa using h
    rw [if_pos h] at this
    simp -dsimp only [↓acallL, ↓loopL, ↓binC, ↓unC, ↓condC_b, ↓guardC_T, ↓guardC_F, ↓guardC_0, ↓pickC_b, ↓lenC, ↓slcC, ↓convC, ↓boxC, ↓allocC, ↓loadC, ↓storeC, ↓nilC, ↓faddrC, ↓fieldC, ↓iaddrC, ↓idxSC, ↓idxAC, ↓extractC, ↓buildC, ↓mksliceC, ↓appendC, ↓isnilC, ↓maxC, ↓minC, ↓callvC, ↓mkmapC, ↓mgetC, ↓msetC, ↓mdelC, ↓headC_cons, ↓rangeC, ↓BBL_true, ↓BBL_false, ↓BBL_not, binA, intOp, strOp, unA, esOf, bnd, intV, cellsA, fillV, srcE, dm, dm1, consO, cellA, maxL, minL, keepO, List.getElem?_cons_zero, List.getElem?_cons_succ, List.map_cons, List.map_nil, List.length_cons, List.length_nil, len_app, get_app, get_app0, set_app, set_app0, List.append_assoc, List.cons_append, List.nil_append, List.set_cons_zero, List.set_cons_succ, Nat.add_assoc, Nat.zero_add, Nat.add_zero, Nat.mul_one, Nat.reduceAdd, Int.toNat_natCast, Int.reduceToNat, Option.map_some, Option.map_none, Bool.false_eq_true, if_true, if_false, reduceIte, true_and, and_true, recsE_len, rep, splice, toDs, toD, chunks, List.take_succ_cons, List.take_zero, List.drop_succ_cons, List.drop_zero, List.take_nil, List.drop_nil, Nat.reduceLeDiff, Nat.le_refl, Nat.reduceSub, List.append_nil, List.all_cons, List.all_nil, sc, Bool.and_true, Bool.and_self, Nat.lt_irrefl, hput0, hlenX, hgetR, hput, lget, lget0, lset, lset0, w1, w2, b1]
    exact ends_set (by simp [Low_d, dmT, dm, dm1, pack, Low_agg]) hl (rrO_low hc2.low) this
  · have b1 : (s2.e != 0) = true := by simpa using h
    rw [if_neg h] at this
    simp -dsimp only [↓acallL, ↓loopL, ↓binC, ↓unC, ↓condC_b, ↓guardC_T, ↓guardC_F, ↓guardC_0, ↓pickC_b, ↓lenC, ↓slcC, ↓convC, ↓boxC, ↓allocC, ↓loadC, ↓storeC, ↓nilC, ↓faddrC, ↓fieldC, ↓iaddrC, ↓idxSC, ↓idxAC, ↓extractC, ↓buildC, ↓mksliceC, ↓appendC, ↓isnilC, ↓maxC, ↓minC, ↓callvC, ↓mkmapC, ↓mgetC, ↓msetC, ↓mdelC, ↓headC_cons, ↓rangeC, ↓BBL_true, ↓BBL_false, ↓BBL_not, binA, intOp, strOp, unA, esOf, bnd, intV, cellsA, fillV, srcE, dm, dm1, consO, cellA, maxL, minL, keepO, List.getElem?_cons_zero, List.getElem?_cons_succ, List.map_cons, List.map_nil, List.length_cons, List.length_nil, len_app, get_app, get_app0, set_app, set_app0, List.append_assoc, List.cons_append, List.nil_append, List.set_cons_zero, List.set_cons_succ, Nat.add_assoc, Nat.zero_add, Nat.add_zero, Nat.mul_one, Nat.reduceAdd, Int.toNat_natCast, Int.reduceToNat, Option.map_some, Option.map_none, Bool.false_eq_true, if_true, if_false, reduceIte, true_and, and_true, recsE_len, rep, splice, toDs, toD, chunks, List.take_succ_cons, List.take_zero, List.drop_succ_cons, List.drop_zero, List.take_nil, List.drop_nil, Nat.reduceLeDiff, Nat.le_refl, Nat.reduceSub, List.append_nil, List.all_cons, List.all_nil, sc, Bool.and_true, Bool.and_self, Nat.lt_irrefl, hput0, hlenX, hgetR, hput, lget, lget0, lset, lset0, w1, w2, b1]
    exact ends_set (by simp [Low_d, dmT, dm, dm1, pack, Low_agg]) hl (rrO_low hc2.low) this
end Go.Proofs.Ytahbjkanmagndaa
