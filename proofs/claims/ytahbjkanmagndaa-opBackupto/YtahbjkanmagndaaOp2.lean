/- Contracts: runes and names. -/
import Derived.Test.YtahbjkanmagndaaOp1
import Derived.Test.YtahbjkanmagndaaSpUtf
set_option linter.all false
set_option maxRecDepth 100000
set_option linter.unusedSimpArgs false
namespace Go.Proofs.Ytahbjkanmagndaa
open Go.AW

theorem c_Runes {σ : List AObj} {s : List UInt8} (hs : s.length ≤ 1073741824) {K : AV → List AObj → Prop} (hK : K (.d (.int .i64 (runesF s))) σ) : ACall Try.prog n_op_Runes [.d (.str s)] σ K := by
  refine acall_of isA_op_Runes rfl fun hl _ => s_op_Runes ?_
  simp only [S_op_Runes, rangeC]
  refine loopC_count s.length (fun pos vs s' => ∃ cnt : Nat, vs = [.d (.int .i64 cnt)] ∧ s' = σ ++ [.iter s pos] ∧ pos ≤ s.length ∧ cnt ≤ pos ∧ countF (s.length + 1) s = (countF (s.length + 1) (s.drop pos)).map (· + cnt)) ⟨0, rfl, rfl, by omega, by omega, by simp⟩ ?_
  rintro pos vs s' hp ⟨cnt, rfl, rfl, hps, hc, hr⟩
  simp only [headC_cons, nextC, get_app0, List.getElem?_cons_zero]
  split
  · rename_i hlt
    have hd : s.drop pos ≠ [] := by intro e; have := congrArg List.length e; simp at this; omega
    have hw := goDec_width _ hd
    have hw2 := dec1_width (s.drop pos)
    simp only [decode_eq s pos hlt]
    have hcount : countF (s.length + 1) (s.drop pos) = if (dec1 (s.drop pos)).2 = 0 ∨ badF (dec1 (s.drop pos)).1 = true then none else (countF s.length ((s.drop pos).drop (dec1 (s.drop pos)).2)).map (· + 1) := by
      rw [countF, if_neg hd]
    (repeat' (first | simp -dsimp only [↓acallL, ↓loopL, ↓binC, ↓unC, ↓condC_b, ↓guardC_T, ↓guardC_F, ↓guardC_0, ↓pickC_b, ↓lenC, ↓slcC, ↓convC, ↓boxC, ↓allocC, ↓loadC, ↓storeC, ↓nilC, ↓faddrC, ↓fieldC, ↓iaddrC, ↓idxSC, ↓idxAC, ↓extractC, ↓buildC, ↓mksliceC, ↓appendC, ↓isnilC, ↓maxC, ↓minC, ↓callvC, ↓mkmapC, ↓mgetC, ↓msetC, ↓mdelC, ↓headC_cons, ↓rangeC, ↓BBL_true, ↓BBL_false, ↓BBL_not, binA, intOp, strOp, unA, esOf, bnd, intV, cellsA, fillV, srcE, dm, dm1, consO, cellA, maxL, minL, keepO, List.getElem?_cons_zero, List.getElem?_cons_succ, List.map_cons, List.map_nil, List.length_cons, List.length_nil, len_app, get_app, get_app0, set_app, set_app0, List.append_assoc, List.cons_append, List.nil_append, List.set_cons_zero, List.set_cons_succ, Nat.add_assoc, Nat.zero_add, Nat.add_zero, Nat.mul_one, Nat.reduceAdd, Int.toNat_natCast, Int.reduceToNat, Option.map_some, Option.map_none, Bool.false_eq_true, if_true, if_false, reduceIte, true_and, and_true, recsE_len, rep, splice, toDs, toD, chunks, List.take_succ_cons, List.take_zero, List.drop_succ_cons, List.drop_zero, List.take_nil, List.drop_nil, Nat.reduceLeDiff, Nat.le_refl, Nat.reduceSub, List.append_nil, List.all_cons, List.all_nil, sc, Bool.and_true, Bool.and_self, Nat.lt_irrefl] | (refine BBL_intro (fun h => ?_) (fun h => ?_) <;> (try rw [h])) | ((with_reducible refine And.intro ?_ ?_); focus (first | omega | rfl | decide))))
    all_goals first
      | ((first | refine ends_plain (by simp [Low_d, dmT, dm, dm1, pack, Low_tup, Low_agg, Low_exact]) hl ?_ | refine ends_plain0 (by simp [Low_d, dmT, dm, dm1, pack, Low_tup, Low_agg, Low_exact]) hl ?_)
         have hb : badF (goDec (s.drop pos)).1 = true := by
           simp only [badF]
           (try simp only [decide_eq_true_eq, decide_eq_false_iff_not, beq_iff_eq, beq_eq_false_iff_ne, bne_iff_ne, ne_eq, Bool.not_eq_true', Bool.not_eq_false', bne_eq_false_iff_eq] at *)
           omega
         rw [goDec_bad] at hb
         have : countF (s.length + 1) (s.drop pos) = none := by rw [hcount, if_pos (by simpa using hb)]
         have h0 : runesF s = 0 := by simp [runesF, hr, this]
         rw [h0] at hK; exact hK)
      | skip
    all_goals
      have hb : badF (goDec (s.drop pos)).1 = false := by
        simp only [badF]
        (try simp only [decide_eq_true_eq, decide_eq_false_iff_not, beq_iff_eq, beq_eq_false_iff_ne, bne_iff_ne, ne_eq, Bool.not_eq_true', Bool.not_eq_false', bne_eq_false_iff_eq] at *)
        omega
      obtain ⟨g1, g2, g3⟩ := goDec_good hb
      rw [wrap64i (by omega) (by omega)]
      refine Again.to (pos + (goDec (s.drop pos)).2) (by omega) (by simp at hw; omega) ⟨cnt + 1, rfl, rfl, by simp at hw; omega, by omega, ?_⟩
      rw [hr, hcount, if_neg (by simp [g2, g3]), g1, List.drop_drop, countF_more s.length (s.length + 1) _ (by simp at *; omega) (by simp; omega)]
      cases countF (s.length + 1) (List.drop (pos + (dec1 (s.drop pos)).2) s) <;> simp
      omega
  · rename_i hlt
    have e : s.drop pos = [] := List.drop_eq_nil_of_le (by omega)
    have hcnt : countF (s.length + 1) s = some cnt := by rw [hr, e]; simp [countF]
    simp -dsimp only [↓acallL, ↓loopL, ↓binC, ↓unC, ↓condC_b, ↓guardC_T, ↓guardC_F, ↓guardC_0, ↓pickC_b, ↓lenC, ↓slcC, ↓convC, ↓boxC, ↓allocC, ↓loadC, ↓storeC, ↓nilC, ↓faddrC, ↓fieldC, ↓iaddrC, ↓idxSC, ↓idxAC, ↓extractC, ↓buildC, ↓mksliceC, ↓appendC, ↓isnilC, ↓maxC, ↓minC, ↓callvC, ↓mkmapC, ↓mgetC, ↓msetC, ↓mdelC, ↓headC_cons, ↓rangeC, ↓BBL_true, ↓BBL_false, ↓BBL_not, binA, intOp, strOp, unA, esOf, bnd, intV, cellsA, fillV, srcE, dm, dm1, consO, cellA, maxL, minL, keepO, List.getElem?_cons_zero, List.getElem?_cons_succ, List.map_cons, List.map_nil, List.length_cons, List.length_nil, len_app, get_app, get_app0, set_app, set_app0, List.append_assoc, List.cons_append, List.nil_append, List.set_cons_zero, List.set_cons_succ, Nat.add_assoc, Nat.zero_add, Nat.add_zero, Nat.mul_one, Nat.reduceAdd, Int.toNat_natCast, Int.reduceToNat, Option.map_some, Option.map_none, Bool.false_eq_true, if_true, if_false, reduceIte, true_and, and_true, recsE_len]
    refine BBL_intro (fun h => ?_) (fun h => ?_)
    all_goals (try simp -dsimp only [h, ↓acallL, ↓loopL, ↓binC, ↓unC, ↓condC_b, ↓guardC_T, ↓guardC_F, ↓guardC_0, ↓pickC_b, ↓lenC, ↓slcC, ↓convC, ↓boxC, ↓allocC, ↓loadC, ↓storeC, ↓nilC, ↓faddrC, ↓fieldC, ↓iaddrC, ↓idxSC, ↓idxAC, ↓extractC, ↓buildC, ↓mksliceC, ↓appendC, ↓isnilC, ↓maxC, ↓minC, ↓callvC, ↓mkmapC, ↓mgetC, ↓msetC, ↓mdelC, ↓headC_cons, ↓rangeC, ↓BBL_true, ↓BBL_false, ↓BBL_not, binA, intOp, strOp, unA, esOf, bnd, intV, cellsA, fillV, srcE, dm, dm1, consO, cellA, maxL, minL, keepO, List.getElem?_cons_zero, List.getElem?_cons_succ, List.map_cons, List.map_nil, List.length_cons, List.length_nil, len_app, get_app, get_app0, set_app, set_app0, List.append_assoc, List.cons_append, List.nil_append, List.set_cons_zero, List.set_cons_succ, Nat.add_assoc, Nat.zero_add, Nat.add_zero, Nat.mul_one, Nat.reduceAdd, Int.toNat_natCast, Int.reduceToNat, Option.map_some, Option.map_none, Bool.false_eq_true, if_true, if_false, reduceIte, true_and, and_true, recsE_len])
    · (first | refine ends_plain (by simp [Low_d, dmT, dm, dm1, pack, Low_tup, Low_agg, Low_exact]) hl ?_ | refine ends_plain0 (by simp [Low_d, dmT, dm, dm1, pack, Low_tup, Low_agg, Low_exact]) hl ?_)
      have h0 : runesF s = 0 := by simp [runesF, hcnt]; simp at h; omega
      rw [h0] at hK; exact hK
    · (first | refine ends_plain (by simp [Low_d, dmT, dm, dm1, pack, Low_tup, Low_agg, Low_exact]) hl ?_ | refine ends_plain0 (by simp [Low_d, dmT, dm, dm1, pack, Low_tup, Low_agg, Low_exact]) hl ?_)
      have h0 : runesF s = cnt := by simp [runesF, hcnt]; simp at h; omega
      rw [h0] at hK; exact hK
theorem c_Name {σ : List AObj} {s : List UInt8} (hs : s.length ≤ 1073741824) {K : AV → List AObj → Prop} (hK : K (.d (.bool (nameF s))) σ) : ACall Try.prog n_op_Name [.d (.str s)] σ K := by
  refine acall_of isA_op_Name rfl fun hl _ => s_op_Name ?_
  simp -dsimp only [S_op_Name, ↓acallL, ↓loopL, ↓binC, ↓unC, ↓condC_b, ↓guardC_T, ↓guardC_F, ↓guardC_0, ↓pickC_b, ↓lenC, ↓slcC, ↓convC, ↓boxC, ↓allocC, ↓loadC, ↓storeC, ↓nilC, ↓faddrC, ↓fieldC, ↓iaddrC, ↓idxSC, ↓idxAC, ↓extractC, ↓buildC, ↓mksliceC, ↓appendC, ↓isnilC, ↓maxC, ↓minC, ↓callvC, ↓mkmapC, ↓mgetC, ↓msetC, ↓mdelC, ↓headC_cons, ↓rangeC, ↓BBL_true, ↓BBL_false, ↓BBL_not, binA, intOp, strOp, unA, esOf, bnd, intV, cellsA, fillV, srcE, dm, dm1, consO, cellA, maxL, minL, keepO, List.getElem?_cons_zero, List.getElem?_cons_succ, List.map_cons, List.map_nil, List.length_cons, List.length_nil, len_app, get_app, get_app0, set_app, set_app0, List.append_assoc, List.cons_append, List.nil_append, List.set_cons_zero, List.set_cons_succ, Nat.add_assoc, Nat.zero_add, Nat.add_zero, Nat.mul_one, Nat.reduceAdd, Int.toNat_natCast, Int.reduceToNat, Option.map_some, Option.map_none, Bool.false_eq_true, if_true, if_false, reduceIte, true_and, and_true, recsE_len]
  refine c_Runes hs ?_
  simp -dsimp only [↓acallL, ↓loopL, ↓binC, ↓unC, ↓condC_b, ↓guardC_T, ↓guardC_F, ↓guardC_0, ↓pickC_b, ↓lenC, ↓slcC, ↓convC, ↓boxC, ↓allocC, ↓loadC, ↓storeC, ↓nilC, ↓faddrC, ↓fieldC, ↓iaddrC, ↓idxSC, ↓idxAC, ↓extractC, ↓buildC, ↓mksliceC, ↓appendC, ↓isnilC, ↓maxC, ↓minC, ↓callvC, ↓mkmapC, ↓mgetC, ↓msetC, ↓mdelC, ↓headC_cons, ↓rangeC, ↓BBL_true, ↓BBL_false, ↓BBL_not, binA, intOp, strOp, unA, esOf, bnd, intV, cellsA, fillV, srcE, dm, dm1, consO, cellA, maxL, minL, keepO, List.getElem?_cons_zero, List.getElem?_cons_succ, List.map_cons, List.map_nil, List.length_cons, List.length_nil, len_app, get_app, get_app0, set_app, set_app0, List.append_assoc, List.cons_append, List.nil_append, List.set_cons_zero, List.set_cons_succ, Nat.add_assoc, Nat.zero_add, Nat.add_zero, Nat.mul_one, Nat.reduceAdd, Int.toNat_natCast, Int.reduceToNat, Option.map_some, Option.map_none, Bool.false_eq_true, if_true, if_false, reduceIte, true_and, and_true, recsE_len]
  (first | refine ends_plain (by simp [Low_d, dmT, dm, dm1, pack, Low_tup, Low_agg, Low_exact]) hl ?_ | refine ends_plain0 (by simp [Low_d, dmT, dm, dm1, pack, Low_tup, Low_agg, Low_exact]) hl ?_)
  have : decide ((runesF s : Int) > 0) = nameF s := by simp [nameF]
  rw [this]; exact hK
end Go.Proofs.Ytahbjkanmagndaa
