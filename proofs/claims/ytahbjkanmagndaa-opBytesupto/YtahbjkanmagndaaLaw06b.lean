/- The law OpBytes, from the contracts. -/
import Derived.Test.YtahbjkanmagndaaLaw06a
import Derived.Test.YtahbjkanmagndaaOp7
import Derived.Test.YtahbjkanmagndaaSpDec
set_option linter.all false
set_option maxRecDepth 100000
set_option linter.unusedSimpArgs false
namespace Go.Proofs.Ytahbjkanmagndaa
open Go.AW

def pars_OpBytes : List (Bool × List Ty) := [(false, tyBytes), (true, tyOp), (true, tyRes)]
theorem law_OpBytes (xs : List AV) (n : Nat) (hn : n ≤ 1048576) (h : ArgsOk pars_OpBytes xs n) : ACall Try.prog n_l06_OpBytes xs [] fun r _ => r = .d (.bool true) := by
  obtain ⟨ds, xs1, m1, hf, hb, rfl, h⟩ := h
  obtain ⟨d, rfl, h1⟩ := one_of hf
  obtain ⟨b, rfl⟩ := dec_bytes h1
  obtain ⟨ds, xs2, m2, hf, hb2, rfl, h⟩ := h
  obtain ⟨o, rfl, ho⟩ := dec_op hf
  obtain ⟨ds, xs3, m3, hf, hb3, rfl, rfl⟩ := h
  obtain ⟨d1, ds1, rfl, h1, g1⟩ := tfits_cons hf
  obtain ⟨e, rfl, e1, e2⟩ := dec_i64 h1
  obtain ⟨d2, ds2, rfl, h2, g2⟩ := tfits_cons g1
  obtain ⟨f, rfl, f1, f2⟩ := dec_i64 h2
  have hnil := tfits_nil g2
  subst hnil
  have hob := opSz_bulk o
  have hbl : b.length ≤ 1048576 := by simp only [bulkL, bulkD, bulk_bcs] at hb; omega
  have hoz : opSz o ≤ 268435456 := by omega
  rw [argA_op]
  simp only [argA, List.headD_cons, List.map_cons, List.map_nil]
  refine acall_of isA_l06_OpBytes rfl fun hl _ => s_l06_OpBytes ?_
  simp only [S_l06_OpBytes, opA]
  repeat' first
    | simp -dsimp only [↓acallL, ↓loopL, ↓binC, ↓unC, ↓condC_b, ↓guardC_T, ↓guardC_F, ↓guardC_0, ↓pickC_b, ↓lenC, ↓slcC, ↓convC, ↓boxC, ↓allocC, ↓loadC, ↓storeC, ↓nilC, ↓faddrC, ↓fieldC, ↓iaddrC, ↓idxSC, ↓idxAC, ↓extractC, ↓buildC, ↓mksliceC, ↓appendC, ↓isnilC, ↓maxC, ↓minC, ↓callvC, ↓mkmapC, ↓mgetC, ↓msetC, ↓mdelC, ↓headC_cons, ↓rangeC, ↓BBL_true, ↓BBL_false, ↓BBL_not, binA, intOp, strOp, unA, esOf, bnd, intV, cellsA, fillV, srcE, dm, dm1, consO, cellA, maxL, minL, keepO, List.getElem?_cons_zero, List.getElem?_cons_succ, List.map_cons, List.map_nil, List.length_cons, List.length_nil, len_app, get_app, get_app0, set_app, set_app0, List.append_assoc, List.cons_append, List.nil_append, List.set_cons_zero, List.set_cons_succ, Nat.add_assoc, Nat.zero_add, Nat.add_zero, Nat.mul_one, Nat.reduceAdd, Int.toNat_natCast, Int.reduceToNat, Option.map_some, Option.map_none, Bool.false_eq_true, if_true, if_false, reduceIte, true_and, and_true, recsE_len, rep, splice, toDs, toD, chunks, List.take_succ_cons, List.take_zero, List.drop_succ_cons, List.drop_zero, List.take_nil, List.drop_nil, Nat.reduceLeDiff, Nat.le_refl, Nat.reduceSub, List.append_nil, List.all_cons, List.all_nil, sc, Bool.and_true, Bool.and_self, Nat.lt_irrefl, beq_self_eq_true, Bool.not_false, Bool.not_true, bne_self_eq_false]
    | refine c_Bytes (o := o) hoz ?_
    | refine c_rBytes (o := o) hoz ?_
    | refine c_slices_Clone bcs_one (by simp only [bcs, List.length_map]; omega) ?_
    | refine c_begun06 ?_
    | refine c_bytes_Equal ?_
    | refine c_Put (o := o) (by omega) hoz ?_
    | refine c_rPut (o := o) (by omega) hoz ?_
    | refine c_PutResult (by omega) (by omega) (by omega) ?_
    | refine c_rPutResult (by omega) (by omega) (by omega) ?_
    | ((with_reducible refine And.intro ?_ ?_); focus (first | omega | rfl | decide))
  (first | refine ends_plain (by simp [Low_d, dmT, dm, dm1, pack, Low_tup, Low_agg, Low_exact]) hl ?_ | refine ends_plain0 (by simp [Low_d, dmT, dm, dm1, pack, Low_tup, Low_agg, Low_exact]) hl ?_)
  rfl
end Go.Proofs.Ytahbjkanmagndaa
