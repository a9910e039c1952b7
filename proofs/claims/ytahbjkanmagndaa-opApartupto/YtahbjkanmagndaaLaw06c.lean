/- The law OpApart, from the contracts. -/
import Derived.Test.YtahbjkanmagndaaLaw06a
import Derived.Test.YtahbjkanmagndaaOp7
import Derived.Test.YtahbjkanmagndaaSpDec
import Derived.Test.YtahbjkanmagndaaSpPre
set_option linter.all false
set_option maxRecDepth 100000
set_option linter.unusedSimpArgs false
namespace Go.Proofs.Ytahbjkanmagndaa
open Go.AW

def pars_OpApart : List (Bool × List Ty) := [(true, tyOp), (true, tyOp)]
theorem isPrefixOf_opB {name : List UInt8 → Bool} {a b : TOp} (ha : checkOpF name a = 0) (hb : checkOpF name b = 0) (za : opSz a ≤ 1073741824) (zb : opSz b ≤ 1073741824) : (opB b).isPrefixOf (opB a) = decide (a = b) := by
  rw [Bool.eq_iff_iff, List.isPrefixOf_iff_prefix, opB_apart ha hb za zb, decide_eq_true_eq]
theorem isPrefixOf_opB' {name : List UInt8 → Bool} {a b : TOp} (ha : checkOpF name a = 0) (hb : checkOpF name b = 0) (za : opSz a ≤ 1073741824) (zb : opSz b ≤ 1073741824) : (opB a).isPrefixOf (opB b) = decide (a = b) := by
  rw [isPrefixOf_opB hb ha zb za, Bool.eq_iff_iff, decide_eq_true_eq, decide_eq_true_eq]
  exact eq_comm
theorem law_OpApart (xs : List AV) (n : Nat) (hn : n ≤ 1048576) (h : ArgsOk pars_OpApart xs n) : ACall Try.prog n_l06_OpApart xs [] fun r _ => r = .d (.bool true) := by
  obtain ⟨ds, xs1, m1, hf, hb, rfl, h⟩ := h
  obtain ⟨a, rfl, ha⟩ := dec_op hf
  obtain ⟨ds, xs2, m2, hf, hb2, rfl, rfl⟩ := h
  obtain ⟨b, rfl, hb'⟩ := dec_op hf
  have hoa := opSz_bulk a
  have hob := opSz_bulk b
  have za : opSz a ≤ 268435456 := by omega
  have zb : opSz b ≤ 268435456 := by omega
  have la : a.recs.length ≤ 1073741824 := by have := recs_len_le a.recs; unfold opSz at za; omega
  have lb : b.recs.length ≤ 1073741824 := by have := recs_len_le b.recs; unfold opSz at zb; omega
  rw [argA_op, argA_op]
  refine acall_of isA_l06_OpApart rfl fun hl _ => s_l06_OpApart ?_
  simp only [S_l06_OpApart, opA]
  simp -dsimp only [↓acallL, ↓loopL, ↓binC, ↓unC, ↓condC_b, ↓guardC_T, ↓guardC_F, ↓guardC_0, ↓pickC_b, ↓lenC, ↓slcC, ↓convC, ↓boxC, ↓allocC, ↓loadC, ↓storeC, ↓nilC, ↓faddrC, ↓fieldC, ↓iaddrC, ↓idxSC, ↓idxAC, ↓extractC, ↓buildC, ↓mksliceC, ↓appendC, ↓isnilC, ↓maxC, ↓minC, ↓callvC, ↓mkmapC, ↓mgetC, ↓msetC, ↓mdelC, ↓headC_cons, ↓rangeC, ↓BBL_true, ↓BBL_false, ↓BBL_not, binA, intOp, strOp, unA, esOf, bnd, intV, cellsA, fillV, srcE, dm, dm1, consO, cellA, maxL, minL, keepO, List.getElem?_cons_zero, List.getElem?_cons_succ, List.map_cons, List.map_nil, List.length_cons, List.length_nil, len_app, get_app, get_app0, set_app, set_app0, List.append_assoc, List.cons_append, List.nil_append, List.set_cons_zero, List.set_cons_succ, Nat.add_assoc, Nat.zero_add, Nat.add_zero, Nat.mul_one, Nat.reduceAdd, Int.toNat_natCast, Int.reduceToNat, Option.map_some, Option.map_none, Bool.false_eq_true, if_true, if_false, reduceIte, true_and, and_true, recsE_len, rep, splice, toDs, toD, chunks, List.take_succ_cons, List.take_zero, List.drop_succ_cons, List.drop_zero, List.take_nil, List.drop_nil, Nat.reduceLeDiff, Nat.le_refl, Nat.reduceSub, List.append_nil, List.all_cons, List.all_nil, sc, Bool.and_true, Bool.and_self, Nat.lt_irrefl, beq_self_eq_true, Bool.not_false, Bool.not_true, bne_self_eq_false]
  refine c_Bytes (o := a) za ?_
  simp -dsimp only [↓acallL, ↓loopL, ↓binC, ↓unC, ↓condC_b, ↓guardC_T, ↓guardC_F, ↓guardC_0, ↓pickC_b, ↓lenC, ↓slcC, ↓convC, ↓boxC, ↓allocC, ↓loadC, ↓storeC, ↓nilC, ↓faddrC, ↓fieldC, ↓iaddrC, ↓idxSC, ↓idxAC, ↓extractC, ↓buildC, ↓mksliceC, ↓appendC, ↓isnilC, ↓maxC, ↓minC, ↓callvC, ↓mkmapC, ↓mgetC, ↓msetC, ↓mdelC, ↓headC_cons, ↓rangeC, ↓BBL_true, ↓BBL_false, ↓BBL_not, binA, intOp, strOp, unA, esOf, bnd, intV, cellsA, fillV, srcE, dm, dm1, consO, cellA, maxL, minL, keepO, List.getElem?_cons_zero, List.getElem?_cons_succ, List.map_cons, List.map_nil, List.length_cons, List.length_nil, len_app, get_app, get_app0, set_app, set_app0, List.append_assoc, List.cons_append, List.nil_append, List.set_cons_zero, List.set_cons_succ, Nat.add_assoc, Nat.zero_add, Nat.add_zero, Nat.mul_one, Nat.reduceAdd, Int.toNat_natCast, Int.reduceToNat, Option.map_some, Option.map_none, Bool.false_eq_true, if_true, if_false, reduceIte, true_and, and_true, recsE_len, rep, splice, toDs, toD, chunks, List.take_succ_cons, List.take_zero, List.drop_succ_cons, List.drop_zero, List.take_nil, List.drop_nil, Nat.reduceLeDiff, Nat.le_refl, Nat.reduceSub, List.append_nil, List.all_cons, List.all_nil, sc, Bool.and_true, Bool.and_self, Nat.lt_irrefl, beq_self_eq_true, Bool.not_false, Bool.not_true, bne_self_eq_false]
  refine c_Bytes (o := b) zb ?_
  simp -dsimp only [↓acallL, ↓loopL, ↓binC, ↓unC, ↓condC_b, ↓guardC_T, ↓guardC_F, ↓guardC_0, ↓pickC_b, ↓lenC, ↓slcC, ↓convC, ↓boxC, ↓allocC, ↓loadC, ↓storeC, ↓nilC, ↓faddrC, ↓fieldC, ↓iaddrC, ↓idxSC, ↓idxAC, ↓extractC, ↓buildC, ↓mksliceC, ↓appendC, ↓isnilC, ↓maxC, ↓minC, ↓callvC, ↓mkmapC, ↓mgetC, ↓msetC, ↓mdelC, ↓headC_cons, ↓rangeC, ↓BBL_true, ↓BBL_false, ↓BBL_not, binA, intOp, strOp, unA, esOf, bnd, intV, cellsA, fillV, srcE, dm, dm1, consO, cellA, maxL, minL, keepO, List.getElem?_cons_zero, List.getElem?_cons_succ, List.map_cons, List.map_nil, List.length_cons, List.length_nil, len_app, get_app, get_app0, set_app, set_app0, List.append_assoc, List.cons_append, List.nil_append, List.set_cons_zero, List.set_cons_succ, Nat.add_assoc, Nat.zero_add, Nat.add_zero, Nat.mul_one, Nat.reduceAdd, Int.toNat_natCast, Int.reduceToNat, Option.map_some, Option.map_none, Bool.false_eq_true, if_true, if_false, reduceIte, true_and, and_true, recsE_len, rep, splice, toDs, toD, chunks, List.take_succ_cons, List.take_zero, List.drop_succ_cons, List.drop_zero, List.take_nil, List.drop_nil, Nat.reduceLeDiff, Nat.le_refl, Nat.reduceSub, List.append_nil, List.all_cons, List.all_nil, sc, Bool.and_true, Bool.and_self, Nat.lt_irrefl, beq_self_eq_true, Bool.not_false, Bool.not_true, bne_self_eq_false]
  refine c_begun06 ?_
  by_cases ea : checkOpF nameF a = 0
  · by_cases eb : checkOpF nameF b = 0
    · have p1 := isPrefixOf_opB ea eb (by omega) (by omega)
      have p2 := isPrefixOf_opB' ea eb (by omega) (by omega)
      have q := opB_pos a
      simp only [opBytesF, if_pos ea, if_pos eb, ea, eb]
      have hp : decide ((0 : Int) < ((bcs (opB a)).length : Int)) = true := by simp [bcs]; omega
      simp -dsimp only [↓acallL, ↓loopL, ↓binC, ↓unC, ↓condC_b, ↓guardC_T, ↓guardC_F, ↓guardC_0, ↓pickC_b, ↓lenC, ↓slcC, ↓convC, ↓boxC, ↓allocC, ↓loadC, ↓storeC, ↓nilC, ↓faddrC, ↓fieldC, ↓iaddrC, ↓idxSC, ↓idxAC, ↓extractC, ↓buildC, ↓mksliceC, ↓appendC, ↓isnilC, ↓maxC, ↓minC, ↓callvC, ↓mkmapC, ↓mgetC, ↓msetC, ↓mdelC, ↓headC_cons, ↓rangeC, ↓BBL_true, ↓BBL_false, ↓BBL_not, binA, intOp, strOp, unA, esOf, bnd, intV, cellsA, fillV, srcE, dm, dm1, consO, cellA, maxL, minL, keepO, List.getElem?_cons_zero, List.getElem?_cons_succ, List.map_cons, List.map_nil, List.length_cons, List.length_nil, len_app, get_app, get_app0, set_app, set_app0, List.append_assoc, List.cons_append, List.nil_append, List.set_cons_zero, List.set_cons_succ, Nat.add_assoc, Nat.zero_add, Nat.add_zero, Nat.mul_one, Nat.reduceAdd, Int.toNat_natCast, Int.reduceToNat, Option.map_some, Option.map_none, Bool.false_eq_true, if_true, if_false, reduceIte, true_and, and_true, recsE_len, rep, splice, toDs, toD, chunks, List.take_succ_cons, List.take_zero, List.drop_succ_cons, List.drop_zero, List.take_nil, List.drop_nil, Nat.reduceLeDiff, Nat.le_refl, Nat.reduceSub, List.append_nil, List.all_cons, List.all_nil, sc, Bool.and_true, Bool.and_self, Nat.lt_irrefl, beq_self_eq_true, Bool.not_false, Bool.not_true, bne_self_eq_false]
      repeat' first
        | simp -dsimp only [↓acallL, ↓loopL, ↓binC, ↓unC, ↓condC_b, ↓guardC_T, ↓guardC_F, ↓guardC_0, ↓pickC_b, ↓lenC, ↓slcC, ↓convC, ↓boxC, ↓allocC, ↓loadC, ↓storeC, ↓nilC, ↓faddrC, ↓fieldC, ↓iaddrC, ↓idxSC, ↓idxAC, ↓extractC, ↓buildC, ↓mksliceC, ↓appendC, ↓isnilC, ↓maxC, ↓minC, ↓callvC, ↓mkmapC, ↓mgetC, ↓msetC, ↓mdelC, ↓headC_cons, ↓rangeC, ↓BBL_true, ↓BBL_false, ↓BBL_not, binA, intOp, strOp, unA, esOf, bnd, intV, cellsA, fillV, srcE, dm, dm1, consO, cellA, maxL, minL, keepO, List.getElem?_cons_zero, List.getElem?_cons_succ, List.map_cons, List.map_nil, List.length_cons, List.length_nil, len_app, get_app, get_app0, set_app, set_app0, List.append_assoc, List.cons_append, List.nil_append, List.set_cons_zero, List.set_cons_succ, Nat.add_assoc, Nat.zero_add, Nat.add_zero, Nat.mul_one, Nat.reduceAdd, Int.toNat_natCast, Int.reduceToNat, Option.map_some, Option.map_none, Bool.false_eq_true, if_true, if_false, reduceIte, true_and, and_true, recsE_len, rep, splice, toDs, toD, chunks, List.take_succ_cons, List.take_zero, List.drop_succ_cons, List.drop_zero, List.take_nil, List.drop_nil, Nat.reduceLeDiff, Nat.le_refl, Nat.reduceSub, List.append_nil, List.all_cons, List.all_nil, sc, Bool.and_true, Bool.and_self, Nat.lt_irrefl, beq_self_eq_true, Bool.not_false, Bool.not_true, bne_self_eq_false, hp, p1, p2]
        | refine c_rSame (a := a) (b := b) la lb ?_
        | refine c_HasPrefix ?_
      (first | refine ends_plain (by simp [Low_d, dmT, dm, dm1, pack, Low_tup, Low_agg, Low_exact]) hl ?_ | refine ends_plain0 (by simp [Low_d, dmT, dm, dm1, pack, Low_tup, Low_agg, Low_exact]) hl ?_)
      rfl
    · have eb' : (checkOpF nameF b == 0) = false := by simpa using eb
      simp only [ea]
      repeat' first
        | simp -dsimp only [↓acallL, ↓loopL, ↓binC, ↓unC, ↓condC_b, ↓guardC_T, ↓guardC_F, ↓guardC_0, ↓pickC_b, ↓lenC, ↓slcC, ↓convC, ↓boxC, ↓allocC, ↓loadC, ↓storeC, ↓nilC, ↓faddrC, ↓fieldC, ↓iaddrC, ↓idxSC, ↓idxAC, ↓extractC, ↓buildC, ↓mksliceC, ↓appendC, ↓isnilC, ↓maxC, ↓minC, ↓callvC, ↓mkmapC, ↓mgetC, ↓msetC, ↓mdelC, ↓headC_cons, ↓rangeC, ↓BBL_true, ↓BBL_false, ↓BBL_not, binA, intOp, strOp, unA, esOf, bnd, intV, cellsA, fillV, srcE, dm, dm1, consO, cellA, maxL, minL, keepO, List.getElem?_cons_zero, List.getElem?_cons_succ, List.map_cons, List.map_nil, List.length_cons, List.length_nil, len_app, get_app, get_app0, set_app, set_app0, List.append_assoc, List.cons_append, List.nil_append, List.set_cons_zero, List.set_cons_succ, Nat.add_assoc, Nat.zero_add, Nat.add_zero, Nat.mul_one, Nat.reduceAdd, Int.toNat_natCast, Int.reduceToNat, Option.map_some, Option.map_none, Bool.false_eq_true, if_true, if_false, reduceIte, true_and, and_true, recsE_len, rep, splice, toDs, toD, chunks, List.take_succ_cons, List.take_zero, List.drop_succ_cons, List.drop_zero, List.take_nil, List.drop_nil, Nat.reduceLeDiff, Nat.le_refl, Nat.reduceSub, List.append_nil, List.all_cons, List.all_nil, sc, Bool.and_true, Bool.and_self, Nat.lt_irrefl, beq_self_eq_true, Bool.not_false, Bool.not_true, bne_self_eq_false, eb', bne, Int.reduceBEq]
        | refine c_begun06 ?_
      (first | refine ends_plain (by simp [Low_d, dmT, dm, dm1, pack, Low_tup, Low_agg, Low_exact]) hl ?_ | refine ends_plain0 (by simp [Low_d, dmT, dm, dm1, pack, Low_tup, Low_agg, Low_exact]) hl ?_)
      rfl
  · have ea' : (checkOpF nameF a == 0) = false := by simpa using ea
    repeat' first
      | simp -dsimp only [↓acallL, ↓loopL, ↓binC, ↓unC, ↓condC_b, ↓guardC_T, ↓guardC_F, ↓guardC_0, ↓pickC_b, ↓lenC, ↓slcC, ↓convC, ↓boxC, ↓allocC, ↓loadC, ↓storeC, ↓nilC, ↓faddrC, ↓fieldC, ↓iaddrC, ↓idxSC, ↓idxAC, ↓extractC, ↓buildC, ↓mksliceC, ↓appendC, ↓isnilC, ↓maxC, ↓minC, ↓callvC, ↓mkmapC, ↓mgetC, ↓msetC, ↓mdelC, ↓headC_cons, ↓rangeC, ↓BBL_true, ↓BBL_false, ↓BBL_not, binA, intOp, strOp, unA, esOf, bnd, intV, cellsA, fillV, srcE, dm, dm1, consO, cellA, maxL, minL, keepO, List.getElem?_cons_zero, List.getElem?_cons_succ, List.map_cons, List.map_nil, List.length_cons, List.length_nil, len_app, get_app, get_app0, set_app, set_app0, List.append_assoc, List.cons_append, List.nil_append, List.set_cons_zero, List.set_cons_succ, Nat.add_assoc, Nat.zero_add, Nat.add_zero, Nat.mul_one, Nat.reduceAdd, Int.toNat_natCast, Int.reduceToNat, Option.map_some, Option.map_none, Bool.false_eq_true, if_true, if_false, reduceIte, true_and, and_true, recsE_len, rep, splice, toDs, toD, chunks, List.take_succ_cons, List.take_zero, List.drop_succ_cons, List.drop_zero, List.take_nil, List.drop_nil, Nat.reduceLeDiff, Nat.le_refl, Nat.reduceSub, List.append_nil, List.all_cons, List.all_nil, sc, Bool.and_true, Bool.and_self, Nat.lt_irrefl, beq_self_eq_true, Bool.not_false, Bool.not_true, bne_self_eq_false, ea', bne]
      | refine c_begun06 ?_
    (first | refine ends_plain (by simp [Low_d, dmT, dm, dm1, pack, Low_tup, Low_agg, Low_exact]) hl ?_ | refine ends_plain0 (by simp [Low_d, dmT, dm, dm1, pack, Low_tup, Low_agg, Low_exact]) hl ?_)
    rfl
end Go.Proofs.Ytahbjkanmagndaa
