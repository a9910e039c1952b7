/- Contracts: the reader's small methods. -/
import Derived.Test.YthmdpooklflkfaaCodec1
import Derived.Test.YthmdpooklflkfaaSpTake
import Derived.Test.YthmdpooklflkfaaAwFrz
import Derived.Test.YthmdpooklflkfaaOp2
set_option linter.all false
set_option maxRecDepth 100000
set_option linter.unusedSimpArgs false
namespace Go.Proofs.Ythmdpooklflkfaa
open Go.AW

def rdO (c : AV) (e : Int) : AObj := .box [c, .d (.int .i64 e), .d (.bool true)]
theorem rdO_low {n : Nat} {c : AV} {e : Int} (h : Low n c) : LowO n (rdO c e) := by
  intro x hx
  simp only [List.mem_cons, List.not_mem_nil, or_false] at hx
  rcases hx with rfl | rfl | rfl
  · exact h
  · exact .d _
  · exact .d _
theorem rdO_cell {σ : List AObj} {id : Nat} {c : AV} {e : Int} (hl : Lows σ.length σ) (h : σ[id]? = some (rdO c e)) : Low σ.length c := hl id _ h c (.head _)
/-- a reader's cell with these bytes left -/
def Cell (c : AV) (B : List UInt8) : Prop := c = .d (.slice (bcs B)) ∨ ∃ t, c = .own t (bcs B)
theorem gq43 {A P Q : Prop} (a : A) (h : Q) (e : A → P = Q := by intro a; simp -dsimp only [↓acallL, ↓loopL, ↓binC, ↓unC, ↓condC_b, ↓guardC_T, ↓guardC_F, ↓guardC_0, ↓pickC_b, ↓lenC, ↓slcC, ↓convC, ↓boxC, ↓allocC, ↓loadC, ↓storeC, ↓nilC, ↓faddrC, ↓fieldC, ↓iaddrC, ↓idxSC, ↓idxAC, ↓extractC, ↓buildC, ↓mksliceC, ↓appendC, ↓isnilC, ↓maxC, ↓minC, ↓callvC, ↓mkmapC, ↓mgetC, ↓msetC, ↓mdelC, ↓headC_cons, ↓rangeC, ↓BBL_true, ↓BBL_false, ↓BBL_not, binA, intOp, strOp, unA, esOf, bnd, intV, cellsA, fillV, srcE, dm, dm1, consO, cellA, maxL, minL, keepO, Q0, Q1, Q2, Q3, Q4, Q5, len_app, get_app, get_app0, set_app, set_app0, Q6, Q7, Q8, Q9, Q10, Q11, Q12, Q13, Q14, Nat.reduceAdd, Q15, Int.reduceToNat, Q16, Q17, Q18, Q19, Q20, reduceIte, Q21, Q22, recsE_len, rep, splice, toDs, toD, chunks, Q23, Q24, Q25, Q26, Q27, Q28, Nat.reduceLeDiff, Q29, Nat.reduceSub, Q30, Q31, Q32, sc, Q33, Q34, Q35, Bool.not_true, a]; rfl) : P := (e a).mpr h
theorem c_stuck {σ : List AObj} {id : Nat} {c : AV} {e : Int} (hσ : σ[id]? = some (rdO c e)) {K : AV → List AObj → Prop} (hK : K (.d (.bool (e != 0))) σ) : ACall Try.prog n_codec_Reader_stuck [.box id 0] σ K := by
  refine acall_of isA_codec_Reader_stuck rfl fun hl _ => s_codec_Reader_stuck ?_
  rw [rdO] at hσ
  simp only [S_codec_Reader_stuck]
  (refine gq43 hσ ?_; try with_reducible exact True.intro)
  (first | refine ends_plain (by simp [Low_d, dmT, dm, dm1, pack, Low_tup, Low_agg, Low_exact]) hl ?_ | refine ends_plain0 (by simp [Low_d, dmT, dm, dm1, pack, Low_tup, Low_agg, Low_exact]) hl ?_)
  exact hK
theorem c_Err {σ : List AObj} {id : Nat} {c : AV} {e : Int} (hσ : σ[id]? = some (rdO c e)) {K : AV → List AObj → Prop} (hK : K (.d (.int .i64 e)) σ) : ACall Try.prog n_codec_Reader_Err [.box id 0] σ K := by
  refine acall_of isA_codec_Reader_Err rfl fun hl _ => s_codec_Reader_Err ?_
  rw [rdO] at hσ
  simp only [S_codec_Reader_Err]
  (refine gq43 hσ ?_; try with_reducible exact True.intro)
  (first | refine ends_plain (by simp [Low_d, dmT, dm, dm1, pack, Low_tup, Low_agg, Low_exact]) hl ?_ | refine ends_plain0 (by simp [Low_d, dmT, dm, dm1, pack, Low_tup, Low_agg, Low_exact]) hl ?_)
  exact hK
theorem gqc4 {A B : Prop} (a : A) (b : B) : A ∧ B := ⟨a, b⟩
theorem gq44 {P Q : Prop} (h : Q) (e : P = Q := by simp -dsimp only [↓acallL, ↓loopL, ↓binC, ↓unC, ↓condC_b, ↓guardC_T, ↓guardC_F, ↓guardC_0, ↓pickC_b, ↓lenC, ↓slcC, ↓convC, ↓boxC, ↓allocC, ↓loadC, ↓storeC, ↓nilC, ↓faddrC, ↓fieldC, ↓iaddrC, ↓idxSC, ↓idxAC, ↓extractC, ↓buildC, ↓mksliceC, ↓appendC, ↓isnilC, ↓maxC, ↓minC, ↓callvC, ↓mkmapC, ↓mgetC, ↓msetC, ↓mdelC, ↓headC_cons, ↓rangeC, ↓BBL_true, ↓BBL_false, ↓BBL_not, binA, intOp, strOp, unA, esOf, bnd, intV, cellsA, fillV, srcE, dm, dm1, consO, cellA, maxL, minL, keepO, Q0, Q1, Q2, Q3, Q4, Q5, len_app, get_app, get_app0, set_app, set_app0, Q6, Q7, Q8, Q9, Q10, Q11, Q12, Q13, Q14, Nat.reduceAdd, Q15, Int.reduceToNat, Q16, Q17, Q18, Q19, Q20, reduceIte, Q21, Q22, recsE_len, rep, splice, toDs, toD, chunks, Q23, Q24, Q25, Q26, Q27, Q28, Nat.reduceLeDiff, Q29, Nat.reduceSub, Q30, Q31, Q32, sc, Q33, Q34, Q35]; rfl) : P := e.mpr h
theorem gq45 {A P Q : Prop} (a : A) (h : Q) (e : A → P = Q := by intro a; simp -dsimp only [↓acallL, ↓loopL, ↓binC, ↓unC, ↓condC_b, ↓guardC_T, ↓guardC_F, ↓guardC_0, ↓pickC_b, ↓lenC, ↓slcC, ↓convC, ↓boxC, ↓allocC, ↓loadC, ↓storeC, ↓nilC, ↓faddrC, ↓fieldC, ↓iaddrC, ↓idxSC, ↓idxAC, ↓extractC, ↓buildC, ↓mksliceC, ↓appendC, ↓isnilC, ↓maxC, ↓minC, ↓callvC, ↓mkmapC, ↓mgetC, ↓msetC, ↓mdelC, ↓headC_cons, ↓rangeC, ↓BBL_true, ↓BBL_false, ↓BBL_not, binA, intOp, strOp, unA, esOf, bnd, intV, cellsA, fillV, srcE, dm, dm1, consO, cellA, maxL, minL, keepO, Q0, Q1, Q2, Q3, Q4, Q5, len_app, get_app, get_app0, set_app, set_app0, Q6, Q7, Q8, Q9, Q10, Q11, Q12, Q13, Q14, Nat.reduceAdd, Q15, Int.reduceToNat, Q16, Q17, Q18, Q19, Q20, reduceIte, Q21, Q22, recsE_len, rep, splice, toDs, toD, chunks, Q23, Q24, Q25, Q26, Q27, Q28, Nat.reduceLeDiff, Q29, Nat.reduceSub, Q30, Q31, Q32, sc, Q33, Q34, Q35, Bool.not_false, a]; rfl) : P := (e a).mpr h
theorem c_Fail {σ : List AObj} {id : Nat} {c : AV} {e f : Int} (hσ : σ[id]? = some (rdO c e)) {K : AV → List AObj → Prop} (hK : K (.tup []) (σ.set id (rdO c (if e = 0 then f else e)))) : ACall Try.prog n_codec_Reader_Fail [.box id 0, .d (.int .i64 f)] σ K := by
  refine acall_of isA_codec_Reader_Fail rfl fun hl _ => s_codec_Reader_Fail ?_
  have hc := rdO_cell hl hσ
  simp only [S_codec_Reader_Fail]
  (refine gq44 ?_; try with_reducible exact True.intro)
  refine c_stuck hσ ?_
  have hs := hσ
  rw [rdO] at hs
  by_cases h : e = 0
  · have hb : (e != 0) = false := by simp [h]
    (refine gq45 (gqc4 hs hb) ?_; try with_reducible exact True.intro)
    rw [if_pos h] at hK
    exact ends_set0 (by simp [dmT, dm, dm1, pack, Low_tup]) hl (rdO_low hc) hK
  · have hb : (e != 0) = true := by simp [h]
    (refine gq43 (gqc4 hs hb) ?_; try with_reducible exact True.intro)
    rw [if_neg h, set_self hσ] at hK
    exact ends_plain0 (by simp [dmT, dm, dm1, pack, Low_tup]) hl hK
theorem gq46 {A P Q : Prop} (a : A) (h : Q) (e : A → P = Q := by intro a; simp -dsimp only [↓acallL, ↓loopL, ↓binC, ↓unC, ↓condC_b, ↓guardC_T, ↓guardC_F, ↓guardC_0, ↓pickC_b, ↓lenC, ↓slcC, ↓convC, ↓boxC, ↓allocC, ↓loadC, ↓storeC, ↓nilC, ↓faddrC, ↓fieldC, ↓iaddrC, ↓idxSC, ↓idxAC, ↓extractC, ↓buildC, ↓mksliceC, ↓appendC, ↓isnilC, ↓maxC, ↓minC, ↓callvC, ↓mkmapC, ↓mgetC, ↓msetC, ↓mdelC, ↓headC_cons, ↓rangeC, ↓BBL_true, ↓BBL_false, ↓BBL_not, binA, intOp, strOp, unA, esOf, bnd, intV, cellsA, fillV, srcE, dm, dm1, consO, cellA, maxL, minL, keepO, Q0, Q1, Q2, Q3, Q4, Q5, len_app, get_app, get_app0, set_app, set_app0, Q6, Q7, Q8, Q9, Q10, Q11, Q12, Q13, Q14, Nat.reduceAdd, Q15, Int.reduceToNat, Q16, Q17, Q18, Q19, Q20, reduceIte, Q21, Q22, recsE_len, rep, splice, toDs, toD, chunks, Q23, Q24, Q25, Q26, Q27, Q28, Nat.reduceLeDiff, Q29, Nat.reduceSub, Q30, Q31, Q32, sc, Q33, Q34, Q35, bcs_length, a]; rfl) : P := (e a).mpr h
theorem c_Left {σ : List AObj} {id : Nat} {c : AV} {e : Int} {B : List UInt8} (hσ : σ[id]? = some (rdO c e)) (hc : Cell c B) {K : AV → List AObj → Prop} (hK : K (.d (.int .i64 (if e = 0 then B.length else 0))) σ) : ACall Try.prog n_codec_Reader_Left [.box id 0] σ K := by
  refine acall_of isA_codec_Reader_Left rfl fun hl _ => s_codec_Reader_Left ?_
  simp only [S_codec_Reader_Left]
  (refine gq44 ?_; try with_reducible exact True.intro)
  refine c_stuck hσ ?_
  have hs := hσ
  rw [rdO] at hs
  by_cases h : e = 0
  · have hb : (e != 0) = false := by simp [h]
    rw [if_pos h] at hK
    rcases hc with rfl | ⟨t, rfl⟩
    all_goals
      (refine gq46 (gqc4 hs hb) ?_; try with_reducible exact True.intro)
      (first | refine ends_plain (by simp [Low_d, dmT, dm, dm1, pack, Low_tup, Low_agg, Low_exact]) hl ?_ | refine ends_plain0 (by simp [Low_d, dmT, dm, dm1, pack, Low_tup, Low_agg, Low_exact]) hl ?_)
      exact hK
  · have hb : (e != 0) = true := by simp [h]
    rw [if_neg h] at hK
    (refine gq43 (gqc4 hs hb) ?_; try with_reducible exact True.intro)
    (first | refine ends_plain (by simp [Low_d, dmT, dm, dm1, pack, Low_tup, Low_agg, Low_exact]) hl ?_ | refine ends_plain0 (by simp [Low_d, dmT, dm, dm1, pack, Low_tup, Low_agg, Low_exact]) hl ?_)
    exact hK
theorem gq47 {A P Q : Prop} (a : A) (h : Q) (e : A → P = Q := by intro a; simp -dsimp only [↓acallL, ↓loopL, ↓binC, ↓unC, ↓condC_b, ↓guardC_T, ↓guardC_F, ↓guardC_0, ↓pickC_b, ↓lenC, ↓slcC, ↓convC, ↓boxC, ↓allocC, ↓loadC, ↓storeC, ↓nilC, ↓faddrC, ↓fieldC, ↓iaddrC, ↓idxSC, ↓idxAC, ↓extractC, ↓buildC, ↓mksliceC, ↓appendC, ↓isnilC, ↓maxC, ↓minC, ↓callvC, ↓mkmapC, ↓mgetC, ↓msetC, ↓mdelC, ↓headC_cons, ↓rangeC, ↓BBL_true, ↓BBL_false, ↓BBL_not, binA, intOp, strOp, unA, esOf, bnd, intV, cellsA, fillV, srcE, dm, dm1, consO, cellA, maxL, minL, keepO, Q0, Q1, Q2, Q3, Q4, Q5, len_app, get_app, get_app0, set_app, set_app0, Q6, Q7, Q8, Q9, Q10, Q11, Q12, Q13, Q14, Nat.reduceAdd, Q15, Int.reduceToNat, Q16, Q17, Q18, Q19, Q20, reduceIte, Q21, Q22, recsE_len, rep, splice, toDs, toD, chunks, Q23, Q24, Q25, Q26, Q27, Q28, Nat.reduceLeDiff, Q29, Nat.reduceSub, Q30, Q31, Q32, sc, Q33, Q34, Q35, a]; rfl) : P := (e a).mpr h
theorem c_Done {σ : List AObj} {id : Nat} {c : AV} {e : Int} {B : List UInt8} (hσ : σ[id]? = some (rdO c e)) (hc : Cell c B) {K : AV → List AObj → Prop} (hK : K (.d (.int .i64 (if e = 0 ∧ 0 < B.length then 12 else e))) σ) : ACall Try.prog n_codec_Reader_Done [.box id 0] σ K := by
  refine acall_of isA_codec_Reader_Done rfl fun hl _ => s_codec_Reader_Done ?_
  simp only [S_codec_Reader_Done]
  (refine gq44 ?_; try with_reducible exact True.intro)
  refine c_Err hσ ?_
  have hs := hσ
  rw [rdO] at hs
  rcases hc with rfl | ⟨t, rfl⟩
  all_goals
    (refine gq47 hs ?_; try with_reducible exact True.intro)
    refine BBL_intro (fun h => ?_) (fun h => ?_)
    · (first | refine ends_plain (by simp [Low_d, dmT, dm, dm1, pack, Low_tup, Low_agg, Low_exact]) hl ?_ | refine ends_plain0 (by simp [Low_d, dmT, dm, dm1, pack, Low_tup, Low_agg, Low_exact]) hl ?_)
      (try simp only [decide_eq_true_eq, decide_eq_false_iff_not, beq_iff_eq, beq_eq_false_iff_ne, bne_iff_ne, ne_eq, Bool.not_eq_true', Bool.not_eq_false', bne_eq_false_iff_eq] at *)
      rw [if_neg (by omega)] at hK
      exact hK
    · (refine gq46 hs ?_; try with_reducible exact True.intro)
      refine BBL_intro (fun h2 => ?_) (fun h2 => ?_)
      · (first | refine ends_plain (by simp [Low_d, dmT, dm, dm1, pack, Low_tup, Low_agg, Low_exact]) hl ?_ | refine ends_plain0 (by simp [Low_d, dmT, dm, dm1, pack, Low_tup, Low_agg, Low_exact]) hl ?_)
        (try simp only [decide_eq_true_eq, decide_eq_false_iff_not, beq_iff_eq, beq_eq_false_iff_ne, bne_iff_ne, ne_eq, Bool.not_eq_true', Bool.not_eq_false', bne_eq_false_iff_eq] at *)
        rw [if_pos ⟨h, by omega⟩] at hK; exact hK
      · (first | refine ends_plain (by simp [Low_d, dmT, dm, dm1, pack, Low_tup, Low_agg, Low_exact]) hl ?_ | refine ends_plain0 (by simp [Low_d, dmT, dm, dm1, pack, Low_tup, Low_agg, Low_exact]) hl ?_)
        (try simp only [decide_eq_true_eq, decide_eq_false_iff_not, beq_iff_eq, beq_eq_false_iff_ne, bne_iff_ne, ne_eq, Bool.not_eq_true', Bool.not_eq_false', bne_eq_false_iff_eq] at *)
        rw [if_neg (by omega), h] at hK; exact hK
theorem c_Read {σ : List AObj} {es : List (List D)} (he : ∀ e ∈ es, e.length = 1) (hn : es.length ≤ 1073741824) {K : AV → List AObj → Prop} (hK : K (.box (σ.length + 1) 0) (σ ++ [.tok 1 es.length, rdO (.own σ.length es) 0])) : ACall Try.prog n_codec_Read [.d (.slice es)] σ K := by
  refine acall_keep isA_codec_Read rfl (fun _ => [σ.length, σ.length + 1]) fun hl _ => s_codec_Read ?_
  simp only [S_codec_Read]
  (refine gq44 ?_; try with_reducible exact True.intro)
  refine c_slices_Clone he hn ?_
  (refine gq44 ?_; try with_reducible exact True.intro)
  unfold EndsK EndsL
  have hg : getL (σ ++ [.tok 1 es.length, rdO (.own σ.length es) 0]) [σ.length, σ.length + 1] = some [.tok 1 es.length, rdO (.own σ.length es) 0] := by
    simp [getL, get_app, get_app0]
  simp only [rdO] at hg
  have t1 : (σ ++ [AObj.tok 1 es.length, AObj.box [AV.own σ.length es, .d (.int .i64 0), .d (.bool true)]]).take σ.length = σ := take_app _ _
  have n1 : ¬ (σ.length < σ.length) := by omega
  have n2 : ¬ (σ.length + 1 < σ.length) := by omega
  have n3 : ¬ (σ.length + 1 = σ.length) := by omega
  simp only [hg, renOs, renO, renAVs, renAV, renId, idxK, pack, if_neg n1, if_neg n2, if_neg n3, if_true, t1]
  refine ⟨by simp, hl, by simp, by simp, ?_⟩
  exact hK
end Go.Proofs.Ythmdpooklflkfaa

/- Contracts: reading numbers and byte strings. -/
set_option maxRecDepth 100000

set_option linter.unusedSimpArgs false

namespace Go.Proofs.Ythmdpooklflkfaa

open Go.AW

/-- a reader's cell later: the same, or data -/
def Nxt (c c' : AV) : Prop := c' = c ∨ ∃ x, c' = .d x
theorem Nxt.rfl {c : AV} : Nxt c c := .inl (Eq.refl c)
theorem Nxt.trans {a b c : AV} (h : Nxt a b) (g : Nxt b c) : Nxt a c := by
  rcases g with rfl | g
  · exact h
  · exact .inr g
theorem Nxt.low {n : Nat} {a b : AV} (h : Nxt a b) (g : Low n a) : Low n b := by
  rcases h with rfl | ⟨x, rfl⟩
  · exact g
  · exact .d _
theorem cell_d {B : List UInt8} : Cell (.d (.slice (bcs B))) B := .inl rfl
theorem fail0 {c : Bool} {s : Rd} {x : Int} (h : s.e = 0) (hx : x ≠ 0) : s.fail c x = ⟨if c then [] else s.b, x⟩ := by rw [Rd.fail, if_pos ⟨h, hx⟩]
theorem gq48 {A P Q : Prop} (a : A) (h : Q) (e : A → P = Q := by intro a; simp -dsimp only [↓acallL, ↓loopL, ↓binC, ↓unC, ↓condC_b, ↓guardC_T, ↓guardC_F, ↓guardC_0, ↓pickC_b, ↓lenC, ↓slcC, ↓convC, ↓boxC, ↓allocC, ↓loadC, ↓storeC, ↓nilC, ↓faddrC, ↓fieldC, ↓iaddrC, ↓idxSC, ↓idxAC, ↓extractC, ↓buildC, ↓mksliceC, ↓appendC, ↓isnilC, ↓maxC, ↓minC, ↓callvC, ↓mkmapC, ↓mgetC, ↓msetC, ↓mdelC, ↓headC_cons, ↓rangeC, ↓BBL_true, ↓BBL_false, ↓BBL_not, binA, intOp, strOp, unA, esOf, bnd, intV, cellsA, fillV, srcE, dm, dm1, consO, cellA, maxL, minL, keepO, Q0, Q1, Q2, Q3, Q4, Q5, len_app, get_app, get_app0, set_app, set_app0, Q6, Q7, Q8, Q9, Q10, Q11, Q12, Q13, Q14, Nat.reduceAdd, Q15, Int.reduceToNat, Q16, Q17, Q18, Q19, Q20, reduceIte, Q21, Q22, recsE_len, rep, splice, toDs, toD, chunks, Q23, Q24, Q25, Q26, Q27, Q28, Nat.reduceLeDiff, Q29, Nat.reduceSub, Q30, Q31, Q32, sc, Q33, Q34, Q35, Bool.not_false, bcs_length, a]; rfl) : P := (e a).mpr h
theorem c_Take {σ : List AObj} {id : Nat} {c : AV} {s : Rd} {n : Nat} (hn : n < 9223372036854775808) (hσ : σ[id]? = some (rdO c s.e)) (hc : Cell c s.b) (hB : s.b.length ≤ 1073741824) {K : AV → List AObj → Prop}
    (hK : ∀ c', Nxt c c' → Cell c' (takeP false n s).2.b → K (.d (.slice (bcs (takeP false n s).1))) (σ.set id (rdO c' (takeP false n s).2.e))) : ACall Try.prog n_codec_Reader_Take [.box id 0, .d (.int .i64 n)] σ K := by
  refine acall_of isA_codec_Reader_Take rfl fun hl _ => s_codec_Reader_Take ?_
  have hlow := rdO_cell hl hσ
  obtain ⟨B, e⟩ := s
  simp only at hσ hc hB
  have hs := hσ
  rw [rdO] at hs
  have hneg : decide ((n : Int) < 0) = false := by simp
  simp only [S_codec_Reader_Take]
  (refine gq47 hneg ?_; try with_reducible exact True.intro)
  refine c_stuck hσ ?_
  by_cases h : e = 0
  · subst h
    have hb : ((0 : Int) != 0) = false := by simp
    by_cases hlt : n > B.length
    · have hgt : decide ((n : Int) > (B.length : Int)) = true := by simp; omega
      have hK1 := hK c .rfl (by simp only [takeP, if_true, if_pos hlt]; rw [fail0 rfl (by omega)]; exact hc)
      simp only [takeP, if_true, if_pos hlt] at hK1
      rw [fail0 rfl (by omega)] at hK1
      clear hK
      rcases hc with rfl | ⟨t, rfl⟩
      all_goals
        (refine gq48 (gqc4 hs (gqc4 hb hgt)) ?_; try with_reducible exact True.intro)
        refine c_Fail hσ ?_
        (refine gq44 ?_; try with_reducible exact True.intro)
        refine c_stuck (c := _) (e := 10) (get_set_self hσ) ?_
        have hb' : ((10 : Int) != 0) = true := by simp
        (refine gq47 hb' ?_; try with_reducible exact True.intro)
        exact ends_set0 (by simp [Low_d, dmT, dm, dm1, pack]) hl (rdO_low hlow) hK1
    · have hgt : decide ((n : Int) > (B.length : Int)) = false := by simp; omega
      have hK1 := hK (.d (.slice (bcs (B.drop n)))) (.inr ⟨_, rfl⟩) (by simp only [takeP, if_true, if_neg hlt]; exact cell_d)
      simp only [takeP, if_true, if_neg hlt] at hK1
      clear hK
      have htk : List.take n (bcs B) = bcs (B.take n) := by simp [bcs]
      have hdr : List.drop n (bcs B) = bcs (B.drop n) := by simp [bcs]
      rcases hc with rfl | ⟨t, rfl⟩
      all_goals
        (refine gq48 (gqc4 hs (gqc4 hb hgt)) ?_; try with_reducible exact True.intro)
        refine c_stuck hσ ?_
        (refine gq46 (gqc4 hs (gqc4 hb (gqc4 htk hdr))) ?_; try with_reducible exact True.intro)
        refine ⟨by omega, by omega, by omega, bcs_one, c_slices_Clone bcs_one (by rw [bcs_length, List.length_take]; omega) ?_⟩
        have hs2 := fun τ => get_left (τ := τ) hs
        have hst : ∀ τ x, (σ ++ τ).set id x = σ.set id x ++ τ := fun τ x => set_left hs
        have hall : List.take (bcs B).length (bcs B) = bcs B := List.take_length
        (refine gq46 (gqc4 hs2 (gqc4 htk (gqc4 hdr hst))) ?_; try with_reducible exact True.intro)
        refine ⟨by omega, by omega, by omega, bcs_one, ?_⟩
        rw [bcs_length] at hall
        rw [hall, hdr]
        exact ends_set (by simp [Low_d, dmT, dm, dm1, pack]) hl (rdO_low (.d _)) hK1
  · have hb : (e != 0) = true := by simp [h]
    have hK := hK c .rfl (by simp only [takeP, if_neg h]; exact hc)
    simp only [takeP, if_neg h] at hK
    rw [set_self hσ] at hK
    (refine gq43 hb ?_; try with_reducible exact True.intro)
    refine c_stuck hσ ?_
    (refine gq43 hb ?_; try with_reducible exact True.intro)
    exact ends_plain0 (by simp [Low_d, dmT, dm, dm1, pack]) hl hK
theorem c_Num {σ : List AObj} {id : Nat} {c : AV} {s : Rd} {m : Nat} (hm : m < 18446744073709551616) (hσ : σ[id]? = some (rdO c s.e)) (hc : Cell c s.b) (hB : s.b.length ≤ 1073741824) {K : AV → List AObj → Prop}
    (hK : ∀ c', Nxt c c' → Cell c' (numP false m s).2.b → K (.d (.int .u64 (numP false m s).1)) (σ.set id (rdO c' (numP false m s).2.e))) : ACall Try.prog n_codec_Reader_Num [.box id 0, .d (.int .u64 m)] σ K := by
  refine acall_of isA_codec_Reader_Num rfl fun hl _ => s_codec_Reader_Num ?_
  have hlow := rdO_cell hl hσ
  obtain ⟨B, e⟩ := s
  simp only at hσ hc hB
  have hs := hσ
  rw [rdO] at hs
  simp only [S_codec_Reader_Num]
  (refine gq44 ?_; try with_reducible exact True.intro)
  refine c_stuck hσ ?_
  by_cases h : e = 0
  · subst h
    have hb : ((0 : Int) != 0) = false := by simp
    have ok : ∀ n r, numR m 0 0 B = .ok (n, r) → K (.d (.int .u64 n)) (σ.set id (rdO (.d (.slice (bcs r))) 0)) := fun n r h => by
      have := hK (.d (.slice (bcs r))) (.inr ⟨_, rfl⟩) (by simp only [numP, if_true, h]; exact cell_d)
      simpa only [numP, if_true, h] using this
    have bad : ∀ x, x ≠ 0 → numR m 0 0 B = .error x → K (.d (.int .u64 0)) (σ.set id (rdO c x)) := fun x hx h => by
      have := hK c .rfl (by simp only [numP, if_true, h]; rw [fail0 rfl hx]; exact hc)
      simp only [numP, if_true, h] at this
      rw [fail0 rfl hx] at this
      exact this
    clear hK
    (refine gq47 hb ?_; try with_reducible exact True.intro)
    refine loopC_count 10 (fun k vs s => s = σ ∧ ∃ acc : Nat, vs = [.d (.int .u64 acc), .d (.int .i64 k)] ∧ ((k ≤ 9 ∧ k ≤ B.length ∧ acc < 128 ^ k ∧ numR m 0 0 B = numR m k acc (B.drop k)) ∨ (k = 10 ∧ numR m 0 0 B = .error 11))) ⟨rfl, 0, rfl, .inl ⟨by omega, by omega, by simp, by simp⟩⟩ ?_
    rintro k vs s hk ⟨rfl, acc, rfl, hinv⟩
    (refine gq44 ?_; try with_reducible exact True.intro)
    refine BBL_intro (fun h => ?_) (fun h => ?_)
    · obtain ⟨h9, hkl, hacc, hinv⟩ | ⟨rfl, _⟩ := hinv
      · by_cases hend : k = B.length
        · have hge : decide ((k : Int) ≥ (B.length : Int)) = true := by simp; omega
          have hnil : B.drop k = [] := List.drop_eq_nil_of_le (by omega)
          rw [hnil] at hinv
          have hK1 := bad 10 (by omega) hinv
          rcases hc with rfl | ⟨t, rfl⟩
          all_goals
            (refine gq46 (gqc4 hs hge) ?_; try with_reducible exact True.intro)
            refine c_Fail hσ ?_
            (refine gq44 ?_; try with_reducible exact True.intro)
            exact ends_set0 (by simp [Low_d, dmT, dm, dm1, pack]) hl (rdO_low hlow) hK1
        · have hge : decide ((k : Int) ≥ (B.length : Int)) = false := by simp; omega
          have hkl : k < B.length := by omega
          have hx : (bcs B)[k]? = some [D.int .u8 (B[k]).toNat] := by simp [bcs, hkl, byteCell]
          have hdk : B.drop k = B[k] :: B.drop (k + 1) := List.drop_eq_getElem_cons hkl
          have hbk := (B[k]).toNat_lt
          rw [hdk] at hinv
          rcases hc with rfl | ⟨t, rfl⟩
          all_goals
            (refine gq46 (gqc4 hs (gqc4 hge hx)) ?_; try with_reducible exact True.intro)
            rw [numStep hbk h9 hacc]
            refine ⟨by omega, by rw [wrap64i (by omega) (by omega)]; omega, BBL_intro (fun hbig => ?_) (fun hsm => ?_)⟩
            · (refine gq44 ?_; try with_reducible exact True.intro)
              simp only [decide_eq_true_eq] at hbig
              have hbig : (B[k]).toNat > 127 := by omega
              refine Again.next (by omega) ⟨rfl, (acc + (B[k]).toNat % 128 * 128 ^ k) % 18446744073709551616, ?_, ?_⟩
              · rw [wrap64i (by omega) (by omega)]; rfl
              · by_cases hk9 : k = 9
                · right
                  refine ⟨by omega, ?_⟩
                  rw [hinv]
                  subst hk9
                  exact numR_nine (by omega)
                · left
                  have hf := numFit (x := (B[k]).toNat) h9 hacc (by omega)
                  rw [Nat.mod_eq_of_lt hf.2]
                  exact ⟨by omega, by omega, hf.1, by rw [hinv]; exact numR_big hbig (by omega)⟩
            · simp only [decide_eq_false_iff_not] at hsm
              have hsm : (B[k]).toNat < 128 := by omega
              have hbad := fun h => bad 11 (by omega) (hinv.trans (numR_bad (m := m) hsm h9 hacc h))
              have hgood := fun h0 h1 h => ok _ _ (hinv.trans (numR_good (m := m) hsm h9 hacc h0 h1 h))
              clear ok bad hinv
              have hw : IntKind.i64.wrap ((k : Int) + 1) = ((k + 1 : Nat) : Int) := by rw [wrap64i (by omega) (by omega)]; rfl
              have htk : List.take B.length (bcs B) = bcs B := by rw [← bcs_length B]; exact List.take_length
              have hdr : List.drop (k + 1) (bcs B) = bcs (B.drop (k + 1)) := by simp [bcs]
              obtain ⟨V, hV⟩ : ∃ V, (acc + (B[k]).toNat % 128 * 128 ^ k) % 18446744073709551616 = V := ⟨_, rfl⟩
              rw [hV] at hbad hgood ⊢
              obtain ⟨X, hX⟩ : ∃ X, (B[k]).toNat = X := ⟨_, rfl⟩
              rw [hX] at hbad hgood ⊢
              repeat' first
                | (refine gq46 (gqc4 hs (gqc4 hw (gqc4 htk hdr))) ?_; try with_reducible exact True.intro)
                | (refine BBL_intro (fun h => ?_) (fun h => ?_) <;> (try rw [h]))
                | refine c_Fail hσ ?_
                | ((with_reducible refine And.intro ?_ ?_); focus (first | omega | rfl | decide | exact bcs_one))
              all_goals first
                | refine ends_set0 (by simp [Low_d, dmT, dm, dm1, pack]) hl (rdO_low (.d _)) ?_
                | refine ends_set0 (by simp [Low_d, dmT, dm, dm1, pack]) hl (rdO_low hlow) ?_
              all_goals (try simp only [decide_eq_true_eq, decide_eq_false_iff_not, beq_iff_eq, beq_eq_false_iff_ne] at *)
              all_goals first
                | exact hbad (by omega)
                | exact hgood (by omega) (by omega) (by omega)
      · simp at h
    · obtain ⟨h9, _⟩ | ⟨rfl, hinv⟩ := hinv
      · simp at h; omega
      · have hK1 := bad 11 (by omega) hinv
        refine c_Fail hσ ?_
        (refine gq44 ?_; try with_reducible exact True.intro)
        exact ends_set0 (by simp [Low_d, dmT, dm, dm1, pack]) hl (rdO_low hlow) hK1
  · have hb : (e != 0) = true := by simp [h]
    have hK := hK c .rfl (by simp only [numP, if_neg h]; exact hc)
    simp only [numP, if_neg h] at hK
    rw [set_self hσ] at hK
    (refine gq47 hb ?_; try with_reducible exact True.intro)
    exact ends_plain0 (by simp [Low_d, dmT, dm, dm1, pack]) hl hK
end Go.Proofs.Ythmdpooklflkfaa

/- Contracts: the reference's reader. -/
set_option maxRecDepth 100000
set_option linter.unusedSimpArgs false
namespace Go.Proofs.Ythmdpooklflkfaa
open Go.AW

/-- the reference's cell with these bytes left -/
def RCell (c : AV) (s : Rd) : Prop := (c = .d (.slice (bcs s.b)) ∨ c = .exact (bcs s.b)) ∧ (s.e ≠ 0 → s.b = [])
theorem RCell.low {n : Nat} {c : AV} {s : Rd} (h : RCell c s) : Low n c := by
  rcases h.1 with rfl | rfl
  · exact .d _
  · exact .exact _
end Go.Proofs.Ythmdpooklflkfaa

/- Contracts: the reference's reader of byte strings, operations. -/
set_option maxRecDepth 100000
set_option linter.unusedSimpArgs false
set_option linter.unusedVariables false
namespace Go.Proofs.Ythmdpooklflkfaa
open Go.AW

end Go.Proofs.Ythmdpooklflkfaa

/- Contracts: reading byte strings, operations. -/
set_option maxRecDepth 100000
set_option linter.unusedSimpArgs false
namespace Go.Proofs.Ythmdpooklflkfaa
open Go.AW

theorem gq49 {P Q : Prop} (h : Q) (e : P = Q := by simp -dsimp only [↓acallL, ↓loopL, ↓binC, ↓unC, ↓condC_b, ↓guardC_T, ↓guardC_F, ↓guardC_0, ↓pickC_b, ↓lenC, ↓slcC, ↓convC, ↓boxC, ↓allocC, ↓loadC, ↓storeC, ↓nilC, ↓faddrC, ↓fieldC, ↓iaddrC, ↓idxSC, ↓idxAC, ↓extractC, ↓buildC, ↓mksliceC, ↓appendC, ↓isnilC, ↓maxC, ↓minC, ↓callvC, ↓mkmapC, ↓mgetC, ↓msetC, ↓mdelC, ↓headC_cons, ↓rangeC, ↓BBL_true, ↓BBL_false, ↓BBL_not, binA, intOp, strOp, unA, esOf, bnd, intV, cellsA, fillV, srcE, dm, dm1, consO, cellA, maxL, minL, keepO, Q0, Q1, Q2, Q3, Q4, Q5, len_app, get_app, get_app0, set_app, set_app0, Q6, Q7, Q8, Q9, Q10, Q11, Q12, Q13, Q14, Nat.reduceAdd, Q15, Int.reduceToNat, Q16, Q17, Q18, Q19, Q20, reduceIte, Q21, Q22, recsE_len, rep, splice, toDs, toD, chunks, Q23, Q24, Q25, Q26, Q27, Q28, Nat.reduceLeDiff, Q29, Nat.reduceSub, Q30, Q31, Q32, sc, Q33, Q34, Q35, List.set_set]; rfl) : P := e.mpr h
theorem c_rdBytes {σ : List AObj} {id : Nat} {c : AV} {s : Rd} {m : Nat} (hm : m < 9223372036854775808) (hσ : σ[id]? = some (rdO c s.e)) (hc : Cell c s.b) (hB : s.b.length ≤ 1073741824) {K : AV → List AObj → Prop}
    (hK : ∀ c', Nxt c c' → Cell c' (bytesP false m s).2.b → K (.d (.slice (bcs (bytesP false m s).1))) (σ.set id (rdO c' (bytesP false m s).2.e))) : ACall Try.prog n_codec_Reader_Bytes [.box id 0, .d (.int .i64 m)] σ K := by
  refine acall_of isA_codec_Reader_Bytes rfl fun hl _ => s_codec_Reader_Bytes ?_
  have hlow := rdO_cell hl hσ
  have hmax : (if (m : Int) > 0 then (m : Int) else 0) = (m : Int) := by split <;> omega
  simp only [S_codec_Reader_Bytes]
  (refine gq21 hmax ?_; try with_reducible exact True.intro)
  rw [wrap64u (n := m) (by omega)]
  refine c_Num (by omega) hσ hc hB ?_
  intro c1 n1 hc1
  have hle := numP_le false m s
  have hln := numP_len m s
  have hw : IntKind.i64.wrap (((numP false m s).1 : Nat) : Int) = (((numP false m s).1 : Nat) : Int) := wrap64i (by omega) (by omega)
  (refine gq21 hw ?_; try with_reducible exact True.intro)
  refine c_Take (by omega) (get_set_self hσ) hc1 (by omega) ?_
  intro c2 n2 hc2
  (refine gq49 ?_; try with_reducible exact True.intro)
  have := hK c2 (n1.trans n2) hc2
  exact ends_set0 (by simp [Low_d, dmT, dm, dm1, pack]) hl (rdO_low ((n1.trans n2).low hlow)) this

theorem fail_e (s : Rd) (f : Int) : (s.fail false f).e = if s.e = 0 then f else s.e := by
  unfold Rd.fail
  by_cases h : s.e = 0 <;> by_cases h2 : f = 0 <;> simp [h, h2]
theorem gq50 {A P Q : Prop} (a : A) (h : Q) (e : A → P = Q := by intro a; simp -dsimp only [↓acallL, ↓loopL, ↓binC, ↓unC, ↓condC_b, ↓guardC_T, ↓guardC_F, ↓guardC_0, ↓pickC_b, ↓lenC, ↓slcC, ↓convC, ↓boxC, ↓allocC, ↓loadC, ↓storeC, ↓nilC, ↓faddrC, ↓fieldC, ↓iaddrC, ↓idxSC, ↓idxAC, ↓extractC, ↓buildC, ↓mksliceC, ↓appendC, ↓isnilC, ↓maxC, ↓minC, ↓callvC, ↓mkmapC, ↓mgetC, ↓msetC, ↓mdelC, ↓headC_cons, ↓rangeC, ↓BBL_true, ↓BBL_false, ↓BBL_not, binA, intOp, strOp, unA, esOf, bnd, intV, cellsA, fillV, srcE, dm, dm1, consO, cellA, maxL, minL, keepO, Q0, Q1, Q2, Q3, Q4, Q5, len_app, get_app, get_app0, set_app, set_app0, Q6, Q7, Q8, Q9, Q10, Q11, Q12, Q13, Q14, Nat.reduceAdd, Q15, Int.reduceToNat, Q16, Q17, Q18, Q19, Q20, reduceIte, Q21, Q22, recsE_len, rep, splice, toDs, toD, chunks, Q23, Q24, Q25, Q26, Q27, Q28, Nat.reduceLeDiff, Q29, Nat.reduceSub, Q30, Q31, Q32, sc, Q33, Q34, Q35, Int.reduceBEq, Int.reduceBNe, beq_self_eq_true, bne_self_eq_false, bytesOf_bcs, a]; rfl) : P := (e a).mpr h
theorem c_opTake {σ : List AObj} {id : Nat} {c : AV} {s : Rd} (hσ : σ[id]? = some (rdO c s.e)) (hc : Cell c s.b) (hB : s.b.length ≤ 1073741824) {K : AV → List AObj → Prop}
    (hK : ∀ c', Nxt c c' → Cell c' (takeOpP false nameF s).2.b → K (opA (takeOpP false nameF s).1) (σ.set id (rdO c' (takeOpP false nameF s).2.e))) : ACall Try.prog n_op_Take [.box id 0] σ K := by
  refine acall_of isA_op_Take rfl fun hl _ => s_op_Take ?_
  have hlow := rdO_cell hl hσ
  have hlt := (List.getElem?_eq_some_iff.1 hσ).1
  have hlenX : ∀ X, (σ.set id X).length = σ.length := fun X => List.length_set
  have hget : ∀ X τ, (σ.set id X ++ τ)[id]? = some X := fun X τ => get_left (get_set_self hσ)
  have hput : ∀ X τ y, (σ.set id X ++ τ).set id y = σ.set id y ++ τ := fun X τ y => by rw [set_left (get_set_self hσ), List.set_set]
  have hput0 : ∀ τ y, (σ ++ τ).set id y = σ.set id y ++ τ := fun τ y => set_left hσ
  have lget : ∀ X τ k, (σ.set id X ++ τ)[σ.length + k]? = τ[k]? := fun X τ k => by rw [← hlenX X, get_app]
  have lget0 : ∀ X τ, (σ.set id X ++ τ)[σ.length]? = τ[0]? := fun X τ => by rw [← hlenX X, get_app0]
  have lset : ∀ X τ k y, (σ.set id X ++ τ).set (σ.length + k) y = σ.set id X ++ τ.set k y := fun X τ k y => by rw [← hlenX X, set_app]
  have lset0 : ∀ X τ y, (σ.set id X ++ τ).set σ.length y = σ.set id X ++ τ.set 0 y := fun X τ y => by rw [← hlenX X, set_app0]
  have hle := numP_le false 4 s
  have hln := numP_len 4 s
  have hw : IntKind.i64.wrap (((numP false 4 s).1 : Nat) : Int) = (((numP false 4 s).1 : Nat) : Int) := wrap64i (by omega) (by omega)
  simp only [S_op_Take]
  (refine gq12 ?_; try with_reducible exact True.intro)
  refine c_Num (m := 4) (by omega) (get_left hσ) hc hB ?_
  intro c1 n1 hc1
  obtain ⟨s1, hs1⟩ : ∃ s1, (numP false 4 s).2 = s1 := ⟨_, rfl⟩
  obtain ⟨k, hk⟩ : ∃ k, (numP false 4 s).1 = k := ⟨_, rfl⟩
  have hT : takeOpP false nameF s = (if ((fieldsP false k s1).2.fail false (checkOpF nameF (fieldsP false k s1).1)).e = 0 then (fieldsP false k s1).1 else noOp, (fieldsP false k s1).2.fail false (checkOpF nameF (fieldsP false k s1).1)) := by
    rw [takeOpP, hs1, hk]
  rw [hs1] at hc1 hln ⊢
  rw [hk] at hle hw ⊢
  have fin : ∀ (c' : AV) (o : TOp) (s2 : Rd) (τ : List AObj) (x : Int) (z : AV), Nxt c1 c' → Cell c' s2.b → fieldsP false k s1 = (o, s2) → x = (s2.fail false (checkOpF nameF o)).e → dmT (pack [z]) = opA (if x = 0 then o else noOp) → AW.Ends σ.length K (some [z]) (σ.set id (rdO c' x) ++ τ) := by
    rintro c' o s2 τ x z hn hc' hf rfl hz
    have hb : (s2.fail false (checkOpF nameF o)).b = s2.b := by unfold Rd.fail; split <;> rfl
    have := hK c' (n1.trans hn) (by rw [hT, hf]; exact hb ▸ hc')
    rw [hT, hf] at this
    refine ends_set (by rw [hz]; simp [Low_d, opA, Low_agg]) hl (rdO_low ((n1.trans hn).low hlow)) ?_
    rw [hz]
    exact this
  clear hK
  have w0 : IntKind.i64.wrap 0 = 0 := by decide
  have w1 : IntKind.i64.wrap 1 = 1 := by decide
  have w2 : IntKind.i64.wrap 2 = 2 := by decide
  have w3 : IntKind.i64.wrap 3 = 3 := by decide
  have w4 : IntKind.i64.wrap 4 = 4 := by decide
  have z0 : ((0 : Nat) : Int) = 0 := rfl
  have z1 : ((1 : Nat) : Int) = 1 := rfl
  have z2 : ((2 : Nat) : Int) = 2 := rfl
  have z3 : ((3 : Nat) : Int) = 3 := rfl
  have z4 : ((4 : Nat) : Int) = 4 := rfl
  rcases (by omega : k = 0 ∨ k = 1 ∨ k = 2 ∨ k = 3 ∨ k = 4) with rfl | rfl | rfl | rfl | rfl
  · have hf : fieldsP false 0 s1 = (noOp, s1) := rfl
    have ht : noOp.topic.length ≤ 1073741824 := by decide
    have hg : noOp.group.length ≤ 1073741824 := by decide
    have hr : noOp.recs.length ≤ 1073741824 := by decide
    (refine gq50 (gqc1 hw (gqc1 hput0 (gqc1 hlenX (gqc1 hget (gqc1 hput (gqc1 lget (gqc1 lget0 (gqc1 lset (gqc1 lset0 (gqc1 w0 (gqc1 w1 (gqc1 w2 (gqc1 w3 (gqc1 w4 (gqc1 z0 (gqc1 z1 (gqc1 z2 (gqc1 z3 z4)))))))))))))))))) ?_; try with_reducible exact True.intro)
    refine c_Err (hget _ _) ?_
    (refine gq50 (gqc1 hw (gqc1 hput0 (gqc1 hlenX (gqc1 hget (gqc1 hput (gqc1 lget (gqc1 lget0 (gqc1 lset (gqc1 lset0 (gqc1 w0 (gqc1 w1 (gqc1 w2 (gqc1 w3 (gqc1 w4 (gqc1 z0 (gqc1 z1 (gqc1 z2 (gqc1 z3 z4)))))))))))))))))) ?_; try with_reducible exact True.intro)
    refine BBL_intro (fun he => ?_) (fun he => ?_)
    · simp only [beq_iff_eq] at he
      (refine gq50 (gqc1 hw (gqc1 hput0 (gqc1 hlenX (gqc1 hget (gqc1 hput (gqc1 lget (gqc1 lget0 (gqc1 lset (gqc1 lset0 (gqc1 w0 (gqc1 w1 (gqc1 w2 (gqc1 w3 (gqc1 w4 (gqc1 z0 (gqc1 z1 (gqc1 z2 (gqc1 z3 z4)))))))))))))))))) ?_; try with_reducible exact True.intro)
      refine c_Check (o := noOp) ht hg hr ?_
      (refine gq50 (gqc1 hw (gqc1 hput0 (gqc1 hlenX (gqc1 hget (gqc1 hput (gqc1 lget (gqc1 lget0 (gqc1 lset (gqc1 lset0 (gqc1 w0 (gqc1 w1 (gqc1 w2 (gqc1 w3 (gqc1 w4 (gqc1 z0 (gqc1 z1 (gqc1 z2 (gqc1 z3 z4)))))))))))))))))) ?_; try with_reducible exact True.intro)
      refine c_Fail (hget _ _) ?_
      (refine gq50 (gqc1 hw (gqc1 hput0 (gqc1 hlenX (gqc1 hget (gqc1 hput (gqc1 lget (gqc1 lget0 (gqc1 lset (gqc1 lset0 (gqc1 w0 (gqc1 w1 (gqc1 w2 (gqc1 w3 (gqc1 w4 (gqc1 z0 (gqc1 z1 (gqc1 z2 (gqc1 z3 z4)))))))))))))))))) ?_; try with_reducible exact True.intro)
      refine c_Err (hget _ _) ?_
      (refine gq50 (gqc1 hw (gqc1 hput0 (gqc1 hlenX (gqc1 hget (gqc1 hput (gqc1 lget (gqc1 lget0 (gqc1 lset (gqc1 lset0 (gqc1 w0 (gqc1 w1 (gqc1 w2 (gqc1 w3 (gqc1 w4 (gqc1 z0 (gqc1 z1 (gqc1 z2 (gqc1 z3 z4)))))))))))))))))) ?_; try with_reducible exact True.intro)
      refine BBL_intro (fun hx => ?_) (fun hx => ?_)
      · (refine gq50 (gqc1 hw (gqc1 hput0 (gqc1 hlenX (gqc1 hget (gqc1 hput (gqc1 lget (gqc1 lget0 (gqc1 lset (gqc1 lset0 (gqc1 w0 (gqc1 w1 (gqc1 w2 (gqc1 w3 (gqc1 w4 (gqc1 z0 (gqc1 z1 (gqc1 z2 (gqc1 z3 z4)))))))))))))))))) ?_; try with_reducible exact True.intro)
        repeat' ((with_reducible refine And.intro ?_ ?_); focus (first | omega | rfl | decide))
        try (refine gq50 (gqc1 hw (gqc1 hput0 (gqc1 hlenX (gqc1 hget (gqc1 hput (gqc1 lget (gqc1 lget0 (gqc1 lset (gqc1 lset0 (gqc1 w0 (gqc1 w1 (gqc1 w2 (gqc1 w3 (gqc1 w4 (gqc1 z0 (gqc1 z1 (gqc1 z2 (gqc1 z3 z4)))))))))))))))))) ?_; try with_reducible exact True.intro)
        refine fin _ _ _ _ _ _ .rfl hc1 hf (fail_e _ _).symm ?_
        rw [if_neg (by simpa using hx)]; rfl
      · (refine gq50 (gqc1 hw (gqc1 hput0 (gqc1 hlenX (gqc1 hget (gqc1 hput (gqc1 lget (gqc1 lget0 (gqc1 lset (gqc1 lset0 (gqc1 w0 (gqc1 w1 (gqc1 w2 (gqc1 w3 (gqc1 w4 (gqc1 z0 (gqc1 z1 (gqc1 z2 (gqc1 z3 z4)))))))))))))))))) ?_; try with_reducible exact True.intro)
        repeat' ((with_reducible refine And.intro ?_ ?_); focus (first | omega | rfl | decide))
        try (refine gq50 (gqc1 hw (gqc1 hput0 (gqc1 hlenX (gqc1 hget (gqc1 hput (gqc1 lget (gqc1 lget0 (gqc1 lset (gqc1 lset0 (gqc1 w0 (gqc1 w1 (gqc1 w2 (gqc1 w3 (gqc1 w4 (gqc1 z0 (gqc1 z1 (gqc1 z2 (gqc1 z3 z4)))))))))))))))))) ?_; try with_reducible exact True.intro)
        refine fin _ _ _ _ _ _ .rfl hc1 hf (fail_e _ _).symm ?_
        rw [if_pos (by simpa using hx)]; rfl
    · have he' : s1.e ≠ 0 := by simpa using he
      have hbe : (s1.e != 0) = true := by simpa using he'
      (refine gq50 (gqc1 hw (gqc1 hput0 (gqc1 hlenX (gqc1 hget (gqc1 hput (gqc1 lget (gqc1 lget0 (gqc1 lset (gqc1 lset0 (gqc1 w0 (gqc1 w1 (gqc1 w2 (gqc1 w3 (gqc1 w4 (gqc1 z0 (gqc1 z1 (gqc1 z2 (gqc1 z3 z4)))))))))))))))))) ?_; try with_reducible exact True.intro)
      refine c_Err (hget _ _) ?_
      (refine gq50 (gqc1 hw (gqc1 hput0 (gqc1 hlenX (gqc1 hget (gqc1 hput (gqc1 lget (gqc1 lget0 (gqc1 lset (gqc1 lset0 (gqc1 w0 (gqc1 w1 (gqc1 w2 (gqc1 w3 (gqc1 w4 (gqc1 z0 (gqc1 z1 (gqc1 z2 (gqc1 z3 (gqc1 z4 hbe))))))))))))))))))) ?_; try with_reducible exact True.intro)
      repeat' ((with_reducible refine And.intro ?_ ?_); focus (first | omega | rfl | decide))
      try (refine gq50 (gqc1 hw (gqc1 hput0 (gqc1 hlenX (gqc1 hget (gqc1 hput (gqc1 lget (gqc1 lget0 (gqc1 lset (gqc1 lset0 (gqc1 w0 (gqc1 w1 (gqc1 w2 (gqc1 w3 (gqc1 w4 (gqc1 z0 (gqc1 z1 (gqc1 z2 (gqc1 z3 z4)))))))))))))))))) ?_; try with_reducible exact True.intro)
      refine fin _ _ _ _ _ _ .rfl hc1 hf (by rw [fail_e, if_neg he']) ?_
      rw [if_neg he']; rfl

  · obtain ⟨s2, hs2⟩ : ∃ s2, (bytesP false 64 s1).2 = s2 := ⟨_, rfl⟩
    obtain ⟨t, ht1⟩ : ∃ t, (bytesP false 64 s1).1 = t := ⟨_, rfl⟩
    have hf : fieldsP false 1 s1 = (⟨1, t, [], 0, []⟩, s2) := by rw [← hs2, ← ht1]; rfl
    have htl := bytesP_len1 false 64 s1
    rw [ht1] at htl
    have ht : (⟨1, t, [], 0, []⟩ : TOp).topic.length ≤ 1073741824 := by simp only; omega
    have hg : (⟨1, t, [], 0, []⟩ : TOp).group.length ≤ 1073741824 := by simp
    have hr : (⟨1, t, [], 0, []⟩ : TOp).recs.length ≤ 1073741824 := by simp
    (refine gq50 (gqc1 hw (gqc1 hput0 (gqc1 hlenX (gqc1 hget (gqc1 hput (gqc1 lget (gqc1 lget0 (gqc1 lset (gqc1 lset0 (gqc1 w0 (gqc1 w1 (gqc1 w2 (gqc1 w3 (gqc1 w4 (gqc1 z0 (gqc1 z1 (gqc1 z2 (gqc1 z3 z4)))))))))))))))))) ?_; try with_reducible exact True.intro)
    refine c_rdBytes (m := 64) (s := s1) (by omega) (hget _ _) hc1 (by omega) ?_
    rw [hs2, ht1]
    intro c2 n2 hc2
    (refine gq50 (gqc1 hw (gqc1 hput0 (gqc1 hlenX (gqc1 hget (gqc1 hput (gqc1 lget (gqc1 lget0 (gqc1 lset (gqc1 lset0 (gqc1 w0 (gqc1 w1 (gqc1 w2 (gqc1 w3 (gqc1 w4 (gqc1 z0 (gqc1 z1 (gqc1 z2 (gqc1 z3 z4)))))))))))))))))) ?_; try with_reducible exact True.intro)
    refine c_Err (hget _ _) ?_
    (refine gq50 (gqc1 hw (gqc1 hput0 (gqc1 hlenX (gqc1 hget (gqc1 hput (gqc1 lget (gqc1 lget0 (gqc1 lset (gqc1 lset0 (gqc1 w0 (gqc1 w1 (gqc1 w2 (gqc1 w3 (gqc1 w4 (gqc1 z0 (gqc1 z1 (gqc1 z2 (gqc1 z3 z4)))))))))))))))))) ?_; try with_reducible exact True.intro)
    refine BBL_intro (fun he => ?_) (fun he => ?_)
    · simp only [beq_iff_eq] at he
      (refine gq50 (gqc1 hw (gqc1 hput0 (gqc1 hlenX (gqc1 hget (gqc1 hput (gqc1 lget (gqc1 lget0 (gqc1 lset (gqc1 lset0 (gqc1 w0 (gqc1 w1 (gqc1 w2 (gqc1 w3 (gqc1 w4 (gqc1 z0 (gqc1 z1 (gqc1 z2 (gqc1 z3 z4)))))))))))))))))) ?_; try with_reducible exact True.intro)
      refine c_Check (o := ⟨1, t, [], 0, []⟩) ht hg hr ?_
      (refine gq50 (gqc1 hw (gqc1 hput0 (gqc1 hlenX (gqc1 hget (gqc1 hput (gqc1 lget (gqc1 lget0 (gqc1 lset (gqc1 lset0 (gqc1 w0 (gqc1 w1 (gqc1 w2 (gqc1 w3 (gqc1 w4 (gqc1 z0 (gqc1 z1 (gqc1 z2 (gqc1 z3 z4)))))))))))))))))) ?_; try with_reducible exact True.intro)
      refine c_Fail (hget _ _) ?_
      (refine gq50 (gqc1 hw (gqc1 hput0 (gqc1 hlenX (gqc1 hget (gqc1 hput (gqc1 lget (gqc1 lget0 (gqc1 lset (gqc1 lset0 (gqc1 w0 (gqc1 w1 (gqc1 w2 (gqc1 w3 (gqc1 w4 (gqc1 z0 (gqc1 z1 (gqc1 z2 (gqc1 z3 z4)))))))))))))))))) ?_; try with_reducible exact True.intro)
      refine c_Err (hget _ _) ?_
      (refine gq50 (gqc1 hw (gqc1 hput0 (gqc1 hlenX (gqc1 hget (gqc1 hput (gqc1 lget (gqc1 lget0 (gqc1 lset (gqc1 lset0 (gqc1 w0 (gqc1 w1 (gqc1 w2 (gqc1 w3 (gqc1 w4 (gqc1 z0 (gqc1 z1 (gqc1 z2 (gqc1 z3 z4)))))))))))))))))) ?_; try with_reducible exact True.intro)
      refine BBL_intro (fun hx => ?_) (fun hx => ?_)
      · (refine gq50 (gqc1 hw (gqc1 hput0 (gqc1 hlenX (gqc1 hget (gqc1 hput (gqc1 lget (gqc1 lget0 (gqc1 lset (gqc1 lset0 (gqc1 w0 (gqc1 w1 (gqc1 w2 (gqc1 w3 (gqc1 w4 (gqc1 z0 (gqc1 z1 (gqc1 z2 (gqc1 z3 z4)))))))))))))))))) ?_; try with_reducible exact True.intro)
        repeat' ((with_reducible refine And.intro ?_ ?_); focus (first | omega | rfl | decide))
        try (refine gq50 (gqc1 hw (gqc1 hput0 (gqc1 hlenX (gqc1 hget (gqc1 hput (gqc1 lget (gqc1 lget0 (gqc1 lset (gqc1 lset0 (gqc1 w0 (gqc1 w1 (gqc1 w2 (gqc1 w3 (gqc1 w4 (gqc1 z0 (gqc1 z1 (gqc1 z2 (gqc1 z3 z4)))))))))))))))))) ?_; try with_reducible exact True.intro)
        refine fin _ _ _ _ _ _ n2 hc2 hf (fail_e _ _).symm ?_
        rw [if_neg (by simpa using hx)]; rfl
      · (refine gq50 (gqc1 hw (gqc1 hput0 (gqc1 hlenX (gqc1 hget (gqc1 hput (gqc1 lget (gqc1 lget0 (gqc1 lset (gqc1 lset0 (gqc1 w0 (gqc1 w1 (gqc1 w2 (gqc1 w3 (gqc1 w4 (gqc1 z0 (gqc1 z1 (gqc1 z2 (gqc1 z3 z4)))))))))))))))))) ?_; try with_reducible exact True.intro)
        repeat' ((with_reducible refine And.intro ?_ ?_); focus (first | omega | rfl | decide))
        try (refine gq50 (gqc1 hw (gqc1 hput0 (gqc1 hlenX (gqc1 hget (gqc1 hput (gqc1 lget (gqc1 lget0 (gqc1 lset (gqc1 lset0 (gqc1 w0 (gqc1 w1 (gqc1 w2 (gqc1 w3 (gqc1 w4 (gqc1 z0 (gqc1 z1 (gqc1 z2 (gqc1 z3 z4)))))))))))))))))) ?_; try with_reducible exact True.intro)
        refine fin _ _ _ _ _ _ n2 hc2 hf (fail_e _ _).symm ?_
        rw [if_pos (by simpa using hx)]; rfl
    · have he' : s2.e ≠ 0 := by simpa using he
      have hbe : (s2.e != 0) = true := by simpa using he'
      (refine gq50 (gqc1 hw (gqc1 hput0 (gqc1 hlenX (gqc1 hget (gqc1 hput (gqc1 lget (gqc1 lget0 (gqc1 lset (gqc1 lset0 (gqc1 w0 (gqc1 w1 (gqc1 w2 (gqc1 w3 (gqc1 w4 (gqc1 z0 (gqc1 z1 (gqc1 z2 (gqc1 z3 z4)))))))))))))))))) ?_; try with_reducible exact True.intro)
      refine c_Err (hget _ _) ?_
      (refine gq50 (gqc1 hw (gqc1 hput0 (gqc1 hlenX (gqc1 hget (gqc1 hput (gqc1 lget (gqc1 lget0 (gqc1 lset (gqc1 lset0 (gqc1 w0 (gqc1 w1 (gqc1 w2 (gqc1 w3 (gqc1 w4 (gqc1 z0 (gqc1 z1 (gqc1 z2 (gqc1 z3 (gqc1 z4 hbe))))))))))))))))))) ?_; try with_reducible exact True.intro)
      repeat' ((with_reducible refine And.intro ?_ ?_); focus (first | omega | rfl | decide))
      try (refine gq50 (gqc1 hw (gqc1 hput0 (gqc1 hlenX (gqc1 hget (gqc1 hput (gqc1 lget (gqc1 lget0 (gqc1 lset (gqc1 lset0 (gqc1 w0 (gqc1 w1 (gqc1 w2 (gqc1 w3 (gqc1 w4 (gqc1 z0 (gqc1 z1 (gqc1 z2 (gqc1 z3 z4)))))))))))))))))) ?_; try with_reducible exact True.intro)
      refine fin _ _ _ _ _ _ n2 hc2 hf (by rw [fail_e, if_neg he']) ?_
      rw [if_neg he']; rfl

  · obtain ⟨s2, hs2⟩ : ∃ s2, (bytesP false 64 s1).2 = s2 := ⟨_, rfl⟩
    obtain ⟨t, ht1⟩ : ∃ t, (bytesP false 64 s1).1 = t := ⟨_, rfl⟩
    have htl := bytesP_len1 false 64 s1
    rw [ht1] at htl
    have hbl2 := bytesP_len 64 s1
    rw [hs2] at hbl2
    obtain ⟨s3, hs3⟩ : ∃ s3, (numP false 4 s2).2 = s3 := ⟨_, rfl⟩
    obtain ⟨n, hn1⟩ : ∃ n, (numP false 4 s2).1 = n := ⟨_, rfl⟩
    have hnl := numP_le false 4 s2
    rw [hn1] at hnl
    have hbl3 := numP_len 4 s2
    rw [hs3] at hbl3
    have hf : fieldsP false 2 s1 = (⟨2, t, [], 0, (recsP false n s3).1⟩, (recsP false n s3).2) := by rw [← hs3, ← hn1, ← hs2, ← ht1]; rfl
    have ht : (⟨2, t, [], 0, (recsP false n s3).1⟩ : TOp).topic.length ≤ 1073741824 := by simp only; omega
    have hg : (⟨2, t, [], 0, (recsP false n s3).1⟩ : TOp).group.length ≤ 1073741824 := by simp
    have hr : (⟨2, t, [], 0, (recsP false n s3).1⟩ : TOp).recs.length ≤ 1073741824 := by simp only; rw [recsP_len]; omega
    (refine gq50 (gqc1 hw (gqc1 hput0 (gqc1 hlenX (gqc1 hget (gqc1 hput (gqc1 lget (gqc1 lget0 (gqc1 lset (gqc1 lset0 (gqc1 w0 (gqc1 w1 (gqc1 w2 (gqc1 w3 (gqc1 w4 (gqc1 z0 (gqc1 z1 (gqc1 z2 (gqc1 z3 z4)))))))))))))))))) ?_; try with_reducible exact True.intro)
    refine c_rdBytes (m := 64) (s := s1) (by omega) (hget _ _) hc1 (by omega) ?_
    rw [hs2, ht1]
    intro c2 n2 hc2
    (refine gq50 (gqc1 hw (gqc1 hput0 (gqc1 hlenX (gqc1 hget (gqc1 hput (gqc1 lget (gqc1 lget0 (gqc1 lset (gqc1 lset0 (gqc1 w0 (gqc1 w1 (gqc1 w2 (gqc1 w3 (gqc1 w4 (gqc1 z0 (gqc1 z1 (gqc1 z2 (gqc1 z3 z4)))))))))))))))))) ?_; try with_reducible exact True.intro)
    refine c_Num (m := 4) (s := s2) (by omega) (hget _ _) hc2 (by omega) ?_
    rw [hs3, hn1]
    intro c3 n3 hc3
    (refine gq50 (gqc1 hw (gqc1 hput0 (gqc1 hlenX (gqc1 hget (gqc1 hput (gqc1 lget (gqc1 lget0 (gqc1 lset (gqc1 lset0 (gqc1 w0 (gqc1 w1 (gqc1 w2 (gqc1 w3 (gqc1 w4 (gqc1 z0 (gqc1 z1 (gqc1 z2 (gqc1 z3 z4)))))))))))))))))) ?_; try with_reducible exact True.intro)
    refine loopC_count n (fun j vs q => vs = [.d (.int .u64 j)] ∧ ∃ c', Nxt c1 c' ∧ Cell c' (recsP false j s3).2.b ∧ q = σ.set id (rdO c' (recsP false j s3).2.e) ++ ([.box [.d (.int .i64 0), .d (.str []), .d (.str []), .d (.int .i64 0), .exact []], .box [.d (.int .i64 2), .d (.str t), .d (.str []), .d (.int .i64 0), if j = 0 then .exact [] else .own (σ.length + 2) (recsE (recsP false j s3).1)]] ++ (if j = 0 then [] else [.tok 1 (recsE (recsP false j s3).1).length]))) ⟨rfl, c3, n2.trans n3, hc3, rfl⟩ ?_
    rintro j vs q hj ⟨rfl, c4, n4, hc4, rfl⟩
    have hrl := recsP_len false s3 j
    have hrb := recsP_blen s3 j
    by_cases hj0 : j = 0
    · subst hj0
      simp only [if_true]
      (refine gq50 (gqc1 hw (gqc1 hput0 (gqc1 hlenX (gqc1 hget (gqc1 hput (gqc1 lget (gqc1 lget0 (gqc1 lset (gqc1 lset0 (gqc1 w0 (gqc1 w1 (gqc1 w2 (gqc1 w3 (gqc1 w4 (gqc1 z0 (gqc1 z1 (gqc1 z2 (gqc1 z3 z4)))))))))))))))))) ?_; try with_reducible exact True.intro)
      refine BBL_intro (fun h => ?_) (fun h => ?_)
      · (refine gq50 (gqc1 hw (gqc1 hput0 (gqc1 hlenX (gqc1 hget (gqc1 hput (gqc1 lget (gqc1 lget0 (gqc1 lset (gqc1 lset0 (gqc1 w0 (gqc1 w1 (gqc1 w2 (gqc1 w3 (gqc1 w4 (gqc1 z0 (gqc1 z1 (gqc1 z2 (gqc1 z3 z4)))))))))))))))))) ?_; try with_reducible exact True.intro)
        refine c_rdBytes (m := 64) (s := (recsP false 0 s3).2) (by omega) (hget _ _) hc4 (by omega) ?_
        intro c5 n5 hc5
        (refine gq50 (gqc1 hw (gqc1 hput0 (gqc1 hlenX (gqc1 hget (gqc1 hput (gqc1 lget (gqc1 lget0 (gqc1 lset (gqc1 lset0 (gqc1 w0 (gqc1 w1 (gqc1 w2 (gqc1 w3 (gqc1 w4 (gqc1 z0 (gqc1 z1 (gqc1 z2 (gqc1 z3 z4)))))))))))))))))) ?_; try with_reducible exact True.intro)
        have hlt' : 0 < n := by simp at h; omega
        refine ⟨by simp, by simp, by omega, Again.next (by omega) ⟨?_, c5, n4.trans n5, hc5, ?_⟩⟩
        · rfl
        · simp only [Nat.zero_add, if_neg (show ¬ (1 = 0) by omega)]; rfl
      · have hn0 : n = 0 := by simp at h; omega
        subst hn0
        (refine gq50 (gqc1 hw (gqc1 hput0 (gqc1 hlenX (gqc1 hget (gqc1 hput (gqc1 lget (gqc1 lget0 (gqc1 lset (gqc1 lset0 (gqc1 w0 (gqc1 w1 (gqc1 w2 (gqc1 w3 (gqc1 w4 (gqc1 z0 (gqc1 z1 (gqc1 z2 (gqc1 z3 z4)))))))))))))))))) ?_; try with_reducible exact True.intro)
        refine c_Err (hget _ _) ?_
        (refine gq50 (gqc1 hw (gqc1 hput0 (gqc1 hlenX (gqc1 hget (gqc1 hput (gqc1 lget (gqc1 lget0 (gqc1 lset (gqc1 lset0 (gqc1 w0 (gqc1 w1 (gqc1 w2 (gqc1 w3 (gqc1 w4 (gqc1 z0 (gqc1 z1 (gqc1 z2 (gqc1 z3 z4)))))))))))))))))) ?_; try with_reducible exact True.intro)
        refine BBL_intro (fun he => ?_) (fun he => ?_)
        · simp only [beq_iff_eq] at he
          (refine gq50 (gqc1 hw (gqc1 hput0 (gqc1 hlenX (gqc1 hget (gqc1 hput (gqc1 lget (gqc1 lget0 (gqc1 lset (gqc1 lset0 (gqc1 w0 (gqc1 w1 (gqc1 w2 (gqc1 w3 (gqc1 w4 (gqc1 z0 (gqc1 z1 (gqc1 z2 (gqc1 z3 z4)))))))))))))))))) ?_; try with_reducible exact True.intro)
          refine c_Check (o := ⟨2, t, [], 0, (recsP false 0 s3).1⟩) ht hg hr ?_
          (refine gq50 (gqc1 hw (gqc1 hput0 (gqc1 hlenX (gqc1 hget (gqc1 hput (gqc1 lget (gqc1 lget0 (gqc1 lset (gqc1 lset0 (gqc1 w0 (gqc1 w1 (gqc1 w2 (gqc1 w3 (gqc1 w4 (gqc1 z0 (gqc1 z1 (gqc1 z2 (gqc1 z3 z4)))))))))))))))))) ?_; try with_reducible exact True.intro)
          refine c_Fail (hget _ _) ?_
          (refine gq50 (gqc1 hw (gqc1 hput0 (gqc1 hlenX (gqc1 hget (gqc1 hput (gqc1 lget (gqc1 lget0 (gqc1 lset (gqc1 lset0 (gqc1 w0 (gqc1 w1 (gqc1 w2 (gqc1 w3 (gqc1 w4 (gqc1 z0 (gqc1 z1 (gqc1 z2 (gqc1 z3 z4)))))))))))))))))) ?_; try with_reducible exact True.intro)
          refine c_Err (hget _ _) ?_
          (refine gq50 (gqc1 hw (gqc1 hput0 (gqc1 hlenX (gqc1 hget (gqc1 hput (gqc1 lget (gqc1 lget0 (gqc1 lset (gqc1 lset0 (gqc1 w0 (gqc1 w1 (gqc1 w2 (gqc1 w3 (gqc1 w4 (gqc1 z0 (gqc1 z1 (gqc1 z2 (gqc1 z3 z4)))))))))))))))))) ?_; try with_reducible exact True.intro)
          refine BBL_intro (fun hx => ?_) (fun hx => ?_)
          · (refine gq50 (gqc1 hw (gqc1 hput0 (gqc1 hlenX (gqc1 hget (gqc1 hput (gqc1 lget (gqc1 lget0 (gqc1 lset (gqc1 lset0 (gqc1 w0 (gqc1 w1 (gqc1 w2 (gqc1 w3 (gqc1 w4 (gqc1 z0 (gqc1 z1 (gqc1 z2 (gqc1 z3 z4)))))))))))))))))) ?_; try with_reducible exact True.intro)
            repeat' ((with_reducible refine And.intro ?_ ?_); focus (first | omega | rfl | decide))
            try (refine gq50 (gqc1 hw (gqc1 hput0 (gqc1 hlenX (gqc1 hget (gqc1 hput (gqc1 lget (gqc1 lget0 (gqc1 lset (gqc1 lset0 (gqc1 w0 (gqc1 w1 (gqc1 w2 (gqc1 w3 (gqc1 w4 (gqc1 z0 (gqc1 z1 (gqc1 z2 (gqc1 z3 z4)))))))))))))))))) ?_; try with_reducible exact True.intro)
            refine fin _ _ _ _ _ _ n4 hc4 hf (fail_e _ _).symm ?_
            rw [if_neg (by simpa using hx)]; rfl
          · (refine gq50 (gqc1 hw (gqc1 hput0 (gqc1 hlenX (gqc1 hget (gqc1 hput (gqc1 lget (gqc1 lget0 (gqc1 lset (gqc1 lset0 (gqc1 w0 (gqc1 w1 (gqc1 w2 (gqc1 w3 (gqc1 w4 (gqc1 z0 (gqc1 z1 (gqc1 z2 (gqc1 z3 z4)))))))))))))))))) ?_; try with_reducible exact True.intro)
            repeat' ((with_reducible refine And.intro ?_ ?_); focus (first | omega | rfl | decide))
            try (refine gq50 (gqc1 hw (gqc1 hput0 (gqc1 hlenX (gqc1 hget (gqc1 hput (gqc1 lget (gqc1 lget0 (gqc1 lset (gqc1 lset0 (gqc1 w0 (gqc1 w1 (gqc1 w2 (gqc1 w3 (gqc1 w4 (gqc1 z0 (gqc1 z1 (gqc1 z2 (gqc1 z3 z4)))))))))))))))))) ?_; try with_reducible exact True.intro)
            refine fin _ _ _ _ _ _ n4 hc4 hf (fail_e _ _).symm ?_
            rw [if_pos (by simpa using hx)]; rfl
        · have he' : (recsP false 0 s3).2.e ≠ 0 := by simpa using he
          have hbe : ((recsP false 0 s3).2.e != 0) = true := by simpa using he'
          (refine gq50 (gqc1 hw (gqc1 hput0 (gqc1 hlenX (gqc1 hget (gqc1 hput (gqc1 lget (gqc1 lget0 (gqc1 lset (gqc1 lset0 (gqc1 w0 (gqc1 w1 (gqc1 w2 (gqc1 w3 (gqc1 w4 (gqc1 z0 (gqc1 z1 (gqc1 z2 (gqc1 z3 z4)))))))))))))))))) ?_; try with_reducible exact True.intro)
          refine c_Err (hget _ _) ?_
          (refine gq50 (gqc1 hw (gqc1 hput0 (gqc1 hlenX (gqc1 hget (gqc1 hput (gqc1 lget (gqc1 lget0 (gqc1 lset (gqc1 lset0 (gqc1 w0 (gqc1 w1 (gqc1 w2 (gqc1 w3 (gqc1 w4 (gqc1 z0 (gqc1 z1 (gqc1 z2 (gqc1 z3 (gqc1 z4 hbe))))))))))))))))))) ?_; try with_reducible exact True.intro)
          repeat' ((with_reducible refine And.intro ?_ ?_); focus (first | omega | rfl | decide))
          try (refine gq50 (gqc1 hw (gqc1 hput0 (gqc1 hlenX (gqc1 hget (gqc1 hput (gqc1 lget (gqc1 lget0 (gqc1 lset (gqc1 lset0 (gqc1 w0 (gqc1 w1 (gqc1 w2 (gqc1 w3 (gqc1 w4 (gqc1 z0 (gqc1 z1 (gqc1 z2 (gqc1 z3 z4)))))))))))))))))) ?_; try with_reducible exact True.intro)
          refine fin _ _ _ _ _ _ n4 hc4 hf (by rw [fail_e, if_neg he']) ?_
          rw [if_neg he']; rfl

    · simp only [if_neg hj0]
      (refine gq50 (gqc1 hw (gqc1 hput0 (gqc1 hlenX (gqc1 hget (gqc1 hput (gqc1 lget (gqc1 lget0 (gqc1 lset (gqc1 lset0 (gqc1 w0 (gqc1 w1 (gqc1 w2 (gqc1 w3 (gqc1 w4 (gqc1 z0 (gqc1 z1 (gqc1 z2 (gqc1 z3 z4)))))))))))))))))) ?_; try with_reducible exact True.intro)
      refine BBL_intro (fun h => ?_) (fun h => ?_)
      · (refine gq50 (gqc1 hw (gqc1 hput0 (gqc1 hlenX (gqc1 hget (gqc1 hput (gqc1 lget (gqc1 lget0 (gqc1 lset (gqc1 lset0 (gqc1 w0 (gqc1 w1 (gqc1 w2 (gqc1 w3 (gqc1 w4 (gqc1 z0 (gqc1 z1 (gqc1 z2 (gqc1 z3 z4)))))))))))))))))) ?_; try with_reducible exact True.intro)
        refine c_rdBytes (m := 64) (s := (recsP false j s3).2) (by omega) (hget _ _) hc4 (by omega) ?_
        intro c5 n5 hc5
        (refine gq50 (gqc1 hw (gqc1 hput0 (gqc1 hlenX (gqc1 hget (gqc1 hput (gqc1 lget (gqc1 lget0 (gqc1 lset (gqc1 lset0 (gqc1 w0 (gqc1 w1 (gqc1 w2 (gqc1 w3 (gqc1 w4 (gqc1 z0 (gqc1 z1 (gqc1 z2 (gqc1 z3 z4)))))))))))))))))) ?_; try with_reducible exact True.intro)
        have hlt' : j < n := by simp at h; omega
        refine ⟨by simp, by omega, Again.next (by omega) ⟨?_, c5, n4.trans n5, hc5, ?_⟩⟩
        · rw [show (j : Int) + 1 = ((j + 1 : Nat) : Int) by omega, wrap64u (by omega)]
        · simp only [if_neg (show ¬ (j + 1 = 0) by omega), recsP, recsE_snoc, List.length_append, List.length_singleton, recsE_len]
      · have hnj : n = j := by simp at h; omega
        subst hnj
        (refine gq50 (gqc1 hw (gqc1 hput0 (gqc1 hlenX (gqc1 hget (gqc1 hput (gqc1 lget (gqc1 lget0 (gqc1 lset (gqc1 lset0 (gqc1 w0 (gqc1 w1 (gqc1 w2 (gqc1 w3 (gqc1 w4 (gqc1 z0 (gqc1 z1 (gqc1 z2 (gqc1 z3 z4)))))))))))))))))) ?_; try with_reducible exact True.intro)
        refine c_Err (hget _ _) ?_
        (refine gq50 (gqc1 hw (gqc1 hput0 (gqc1 hlenX (gqc1 hget (gqc1 hput (gqc1 lget (gqc1 lget0 (gqc1 lset (gqc1 lset0 (gqc1 w0 (gqc1 w1 (gqc1 w2 (gqc1 w3 (gqc1 w4 (gqc1 z0 (gqc1 z1 (gqc1 z2 (gqc1 z3 z4)))))))))))))))))) ?_; try with_reducible exact True.intro)
        refine BBL_intro (fun he => ?_) (fun he => ?_)
        · simp only [beq_iff_eq] at he
          (refine gq50 (gqc1 hw (gqc1 hput0 (gqc1 hlenX (gqc1 hget (gqc1 hput (gqc1 lget (gqc1 lget0 (gqc1 lset (gqc1 lset0 (gqc1 w0 (gqc1 w1 (gqc1 w2 (gqc1 w3 (gqc1 w4 (gqc1 z0 (gqc1 z1 (gqc1 z2 (gqc1 z3 z4)))))))))))))))))) ?_; try with_reducible exact True.intro)
          refine c_Check (o := ⟨2, t, [], 0, (recsP false n s3).1⟩) ht hg hr ?_
          (refine gq50 (gqc1 hw (gqc1 hput0 (gqc1 hlenX (gqc1 hget (gqc1 hput (gqc1 lget (gqc1 lget0 (gqc1 lset (gqc1 lset0 (gqc1 w0 (gqc1 w1 (gqc1 w2 (gqc1 w3 (gqc1 w4 (gqc1 z0 (gqc1 z1 (gqc1 z2 (gqc1 z3 z4)))))))))))))))))) ?_; try with_reducible exact True.intro)
          refine c_Fail (hget _ _) ?_
          (refine gq50 (gqc1 hw (gqc1 hput0 (gqc1 hlenX (gqc1 hget (gqc1 hput (gqc1 lget (gqc1 lget0 (gqc1 lset (gqc1 lset0 (gqc1 w0 (gqc1 w1 (gqc1 w2 (gqc1 w3 (gqc1 w4 (gqc1 z0 (gqc1 z1 (gqc1 z2 (gqc1 z3 z4)))))))))))))))))) ?_; try with_reducible exact True.intro)
          refine c_Err (hget _ _) ?_
          (refine gq50 (gqc1 hw (gqc1 hput0 (gqc1 hlenX (gqc1 hget (gqc1 hput (gqc1 lget (gqc1 lget0 (gqc1 lset (gqc1 lset0 (gqc1 w0 (gqc1 w1 (gqc1 w2 (gqc1 w3 (gqc1 w4 (gqc1 z0 (gqc1 z1 (gqc1 z2 (gqc1 z3 z4)))))))))))))))))) ?_; try with_reducible exact True.intro)
          refine BBL_intro (fun hx => ?_) (fun hx => ?_)
          · (refine gq50 (gqc1 hw (gqc1 hput0 (gqc1 hlenX (gqc1 hget (gqc1 hput (gqc1 lget (gqc1 lget0 (gqc1 lset (gqc1 lset0 (gqc1 w0 (gqc1 w1 (gqc1 w2 (gqc1 w3 (gqc1 w4 (gqc1 z0 (gqc1 z1 (gqc1 z2 (gqc1 z3 z4)))))))))))))))))) ?_; try with_reducible exact True.intro)
            repeat' ((with_reducible refine And.intro ?_ ?_); focus (first | omega | rfl | decide))
            try (refine gq50 (gqc1 hw (gqc1 hput0 (gqc1 hlenX (gqc1 hget (gqc1 hput (gqc1 lget (gqc1 lget0 (gqc1 lset (gqc1 lset0 (gqc1 w0 (gqc1 w1 (gqc1 w2 (gqc1 w3 (gqc1 w4 (gqc1 z0 (gqc1 z1 (gqc1 z2 (gqc1 z3 z4)))))))))))))))))) ?_; try with_reducible exact True.intro)
            refine fin _ _ _ _ _ _ n4 hc4 hf (fail_e _ _).symm ?_
            rw [if_neg (by simpa using hx)]; rfl
          · (refine gq50 (gqc1 hw (gqc1 hput0 (gqc1 hlenX (gqc1 hget (gqc1 hput (gqc1 lget (gqc1 lget0 (gqc1 lset (gqc1 lset0 (gqc1 w0 (gqc1 w1 (gqc1 w2 (gqc1 w3 (gqc1 w4 (gqc1 z0 (gqc1 z1 (gqc1 z2 (gqc1 z3 z4)))))))))))))))))) ?_; try with_reducible exact True.intro)
            repeat' ((with_reducible refine And.intro ?_ ?_); focus (first | omega | rfl | decide))
            try (refine gq50 (gqc1 hw (gqc1 hput0 (gqc1 hlenX (gqc1 hget (gqc1 hput (gqc1 lget (gqc1 lget0 (gqc1 lset (gqc1 lset0 (gqc1 w0 (gqc1 w1 (gqc1 w2 (gqc1 w3 (gqc1 w4 (gqc1 z0 (gqc1 z1 (gqc1 z2 (gqc1 z3 z4)))))))))))))))))) ?_; try with_reducible exact True.intro)
            refine fin _ _ _ _ _ _ n4 hc4 hf (fail_e _ _).symm ?_
            rw [if_pos (by simpa using hx)]; rfl
        · have he' : (recsP false n s3).2.e ≠ 0 := by simpa using he
          have hbe : ((recsP false n s3).2.e != 0) = true := by simpa using he'
          (refine gq50 (gqc1 hw (gqc1 hput0 (gqc1 hlenX (gqc1 hget (gqc1 hput (gqc1 lget (gqc1 lget0 (gqc1 lset (gqc1 lset0 (gqc1 w0 (gqc1 w1 (gqc1 w2 (gqc1 w3 (gqc1 w4 (gqc1 z0 (gqc1 z1 (gqc1 z2 (gqc1 z3 z4)))))))))))))))))) ?_; try with_reducible exact True.intro)
          refine c_Err (hget _ _) ?_
          (refine gq50 (gqc1 hw (gqc1 hput0 (gqc1 hlenX (gqc1 hget (gqc1 hput (gqc1 lget (gqc1 lget0 (gqc1 lset (gqc1 lset0 (gqc1 w0 (gqc1 w1 (gqc1 w2 (gqc1 w3 (gqc1 w4 (gqc1 z0 (gqc1 z1 (gqc1 z2 (gqc1 z3 (gqc1 z4 hbe))))))))))))))))))) ?_; try with_reducible exact True.intro)
          repeat' ((with_reducible refine And.intro ?_ ?_); focus (first | omega | rfl | decide))
          try (refine gq50 (gqc1 hw (gqc1 hput0 (gqc1 hlenX (gqc1 hget (gqc1 hput (gqc1 lget (gqc1 lget0 (gqc1 lset (gqc1 lset0 (gqc1 w0 (gqc1 w1 (gqc1 w2 (gqc1 w3 (gqc1 w4 (gqc1 z0 (gqc1 z1 (gqc1 z2 (gqc1 z3 z4)))))))))))))))))) ?_; try with_reducible exact True.intro)
          refine fin _ _ _ _ _ _ n4 hc4 hf (by rw [fail_e, if_neg he']) ?_
          rw [if_neg he']; rfl

  · obtain ⟨s2, hs2⟩ : ∃ s2, (bytesP false 64 s1).2 = s2 := ⟨_, rfl⟩
    obtain ⟨t, ht1⟩ : ∃ t, (bytesP false 64 s1).1 = t := ⟨_, rfl⟩
    have htl := bytesP_len1 false 64 s1
    rw [ht1] at htl
    have hbl2 := bytesP_len 64 s1
    rw [hs2] at hbl2
    obtain ⟨s3, hs3⟩ : ∃ s3, (bytesP false 64 s2).2 = s3 := ⟨_, rfl⟩
    obtain ⟨g, hg1⟩ : ∃ g, (bytesP false 64 s2).1 = g := ⟨_, rfl⟩
    have hgl := bytesP_len1 false 64 s2
    rw [hg1] at hgl
    have hbl3 := bytesP_len 64 s2
    rw [hs3] at hbl3
    obtain ⟨s4, hs4⟩ : ∃ s4, (numP false 9007199254740992 s3).2 = s4 := ⟨_, rfl⟩
    obtain ⟨f, hf1⟩ : ∃ f, (numP false 9007199254740992 s3).1 = f := ⟨_, rfl⟩
    have hfl := numP_le false 9007199254740992 s3
    rw [hf1] at hfl
    have hfw : IntKind.i64.wrap (f : Int) = f := wrap64i (by omega) (by omega)
    have hf : fieldsP false 3 s1 = (⟨3, t, g, f, []⟩, s4) := by rw [← hs4, ← hf1, ← hs3, ← hg1, ← hs2, ← ht1]; rfl
    have ht : (⟨3, t, g, f, []⟩ : TOp).topic.length ≤ 1073741824 := by simp only; omega
    have hg : (⟨3, t, g, f, []⟩ : TOp).group.length ≤ 1073741824 := by simp only; omega
    have hr : (⟨3, t, g, f, []⟩ : TOp).recs.length ≤ 1073741824 := by simp
    (refine gq50 (gqc1 hw (gqc1 hput0 (gqc1 hlenX (gqc1 hget (gqc1 hput (gqc1 lget (gqc1 lget0 (gqc1 lset (gqc1 lset0 (gqc1 w0 (gqc1 w1 (gqc1 w2 (gqc1 w3 (gqc1 w4 (gqc1 z0 (gqc1 z1 (gqc1 z2 (gqc1 z3 z4)))))))))))))))))) ?_; try with_reducible exact True.intro)
    refine c_rdBytes (m := 64) (s := s1) (by omega) (hget _ _) hc1 (by omega) ?_
    rw [hs2, ht1]
    intro c2 n2 hc2
    (refine gq50 (gqc1 hw (gqc1 hput0 (gqc1 hlenX (gqc1 hget (gqc1 hput (gqc1 lget (gqc1 lget0 (gqc1 lset (gqc1 lset0 (gqc1 w0 (gqc1 w1 (gqc1 w2 (gqc1 w3 (gqc1 w4 (gqc1 z0 (gqc1 z1 (gqc1 z2 (gqc1 z3 z4)))))))))))))))))) ?_; try with_reducible exact True.intro)
    refine c_rdBytes (m := 64) (s := s2) (by omega) (hget _ _) hc2 (by omega) ?_
    rw [hs3, hg1]
    intro c3 n3 hc3
    (refine gq50 (gqc1 hw (gqc1 hput0 (gqc1 hlenX (gqc1 hget (gqc1 hput (gqc1 lget (gqc1 lget0 (gqc1 lset (gqc1 lset0 (gqc1 w0 (gqc1 w1 (gqc1 w2 (gqc1 w3 (gqc1 w4 (gqc1 z0 (gqc1 z1 (gqc1 z2 (gqc1 z3 z4)))))))))))))))))) ?_; try with_reducible exact True.intro)
    refine c_Num (m := 9007199254740992) (s := s3) (by omega) (hget _ _) hc3 (by omega) ?_
    rw [hs4, hf1]
    intro c4 n4 hc4
    (refine gq50 (gqc1 hw (gqc1 hput0 (gqc1 hlenX (gqc1 hget (gqc1 hput (gqc1 lget (gqc1 lget0 (gqc1 lset (gqc1 lset0 (gqc1 w0 (gqc1 w1 (gqc1 w2 (gqc1 w3 (gqc1 w4 (gqc1 z0 (gqc1 z1 (gqc1 z2 (gqc1 z3 (gqc1 z4 hfw))))))))))))))))))) ?_; try with_reducible exact True.intro)
    refine c_Err (hget _ _) ?_
    (refine gq50 (gqc1 hw (gqc1 hput0 (gqc1 hlenX (gqc1 hget (gqc1 hput (gqc1 lget (gqc1 lget0 (gqc1 lset (gqc1 lset0 (gqc1 w0 (gqc1 w1 (gqc1 w2 (gqc1 w3 (gqc1 w4 (gqc1 z0 (gqc1 z1 (gqc1 z2 (gqc1 z3 z4)))))))))))))))))) ?_; try with_reducible exact True.intro)
    refine BBL_intro (fun he => ?_) (fun he => ?_)
    · simp only [beq_iff_eq] at he
      (refine gq50 (gqc1 hw (gqc1 hput0 (gqc1 hlenX (gqc1 hget (gqc1 hput (gqc1 lget (gqc1 lget0 (gqc1 lset (gqc1 lset0 (gqc1 w0 (gqc1 w1 (gqc1 w2 (gqc1 w3 (gqc1 w4 (gqc1 z0 (gqc1 z1 (gqc1 z2 (gqc1 z3 z4)))))))))))))))))) ?_; try with_reducible exact True.intro)
      refine c_Check (o := ⟨3, t, g, f, []⟩) ht hg hr ?_
      (refine gq50 (gqc1 hw (gqc1 hput0 (gqc1 hlenX (gqc1 hget (gqc1 hput (gqc1 lget (gqc1 lget0 (gqc1 lset (gqc1 lset0 (gqc1 w0 (gqc1 w1 (gqc1 w2 (gqc1 w3 (gqc1 w4 (gqc1 z0 (gqc1 z1 (gqc1 z2 (gqc1 z3 z4)))))))))))))))))) ?_; try with_reducible exact True.intro)
      refine c_Fail (hget _ _) ?_
      (refine gq50 (gqc1 hw (gqc1 hput0 (gqc1 hlenX (gqc1 hget (gqc1 hput (gqc1 lget (gqc1 lget0 (gqc1 lset (gqc1 lset0 (gqc1 w0 (gqc1 w1 (gqc1 w2 (gqc1 w3 (gqc1 w4 (gqc1 z0 (gqc1 z1 (gqc1 z2 (gqc1 z3 z4)))))))))))))))))) ?_; try with_reducible exact True.intro)
      refine c_Err (hget _ _) ?_
      (refine gq50 (gqc1 hw (gqc1 hput0 (gqc1 hlenX (gqc1 hget (gqc1 hput (gqc1 lget (gqc1 lget0 (gqc1 lset (gqc1 lset0 (gqc1 w0 (gqc1 w1 (gqc1 w2 (gqc1 w3 (gqc1 w4 (gqc1 z0 (gqc1 z1 (gqc1 z2 (gqc1 z3 z4)))))))))))))))))) ?_; try with_reducible exact True.intro)
      refine BBL_intro (fun hx => ?_) (fun hx => ?_)
      · (refine gq50 (gqc1 hw (gqc1 hput0 (gqc1 hlenX (gqc1 hget (gqc1 hput (gqc1 lget (gqc1 lget0 (gqc1 lset (gqc1 lset0 (gqc1 w0 (gqc1 w1 (gqc1 w2 (gqc1 w3 (gqc1 w4 (gqc1 z0 (gqc1 z1 (gqc1 z2 (gqc1 z3 z4)))))))))))))))))) ?_; try with_reducible exact True.intro)
        repeat' ((with_reducible refine And.intro ?_ ?_); focus (first | omega | rfl | decide))
        try (refine gq50 (gqc1 hw (gqc1 hput0 (gqc1 hlenX (gqc1 hget (gqc1 hput (gqc1 lget (gqc1 lget0 (gqc1 lset (gqc1 lset0 (gqc1 w0 (gqc1 w1 (gqc1 w2 (gqc1 w3 (gqc1 w4 (gqc1 z0 (gqc1 z1 (gqc1 z2 (gqc1 z3 z4)))))))))))))))))) ?_; try with_reducible exact True.intro)
        refine fin _ _ _ _ _ _ ((n2.trans n3).trans n4) hc4 hf (fail_e _ _).symm ?_
        rw [if_neg (by simpa using hx)]; rfl
      · (refine gq50 (gqc1 hw (gqc1 hput0 (gqc1 hlenX (gqc1 hget (gqc1 hput (gqc1 lget (gqc1 lget0 (gqc1 lset (gqc1 lset0 (gqc1 w0 (gqc1 w1 (gqc1 w2 (gqc1 w3 (gqc1 w4 (gqc1 z0 (gqc1 z1 (gqc1 z2 (gqc1 z3 z4)))))))))))))))))) ?_; try with_reducible exact True.intro)
        repeat' ((with_reducible refine And.intro ?_ ?_); focus (first | omega | rfl | decide))
        try (refine gq50 (gqc1 hw (gqc1 hput0 (gqc1 hlenX (gqc1 hget (gqc1 hput (gqc1 lget (gqc1 lget0 (gqc1 lset (gqc1 lset0 (gqc1 w0 (gqc1 w1 (gqc1 w2 (gqc1 w3 (gqc1 w4 (gqc1 z0 (gqc1 z1 (gqc1 z2 (gqc1 z3 z4)))))))))))))))))) ?_; try with_reducible exact True.intro)
        refine fin _ _ _ _ _ _ ((n2.trans n3).trans n4) hc4 hf (fail_e _ _).symm ?_
        rw [if_pos (by simpa using hx)]; rfl
    · have he' : s4.e ≠ 0 := by simpa using he
      have hbe : (s4.e != 0) = true := by simpa using he'
      (refine gq50 (gqc1 hw (gqc1 hput0 (gqc1 hlenX (gqc1 hget (gqc1 hput (gqc1 lget (gqc1 lget0 (gqc1 lset (gqc1 lset0 (gqc1 w0 (gqc1 w1 (gqc1 w2 (gqc1 w3 (gqc1 w4 (gqc1 z0 (gqc1 z1 (gqc1 z2 (gqc1 z3 z4)))))))))))))))))) ?_; try with_reducible exact True.intro)
      refine c_Err (hget _ _) ?_
      (refine gq50 (gqc1 hw (gqc1 hput0 (gqc1 hlenX (gqc1 hget (gqc1 hput (gqc1 lget (gqc1 lget0 (gqc1 lset (gqc1 lset0 (gqc1 w0 (gqc1 w1 (gqc1 w2 (gqc1 w3 (gqc1 w4 (gqc1 z0 (gqc1 z1 (gqc1 z2 (gqc1 z3 (gqc1 z4 hbe))))))))))))))))))) ?_; try with_reducible exact True.intro)
      repeat' ((with_reducible refine And.intro ?_ ?_); focus (first | omega | rfl | decide))
      try (refine gq50 (gqc1 hw (gqc1 hput0 (gqc1 hlenX (gqc1 hget (gqc1 hput (gqc1 lget (gqc1 lget0 (gqc1 lset (gqc1 lset0 (gqc1 w0 (gqc1 w1 (gqc1 w2 (gqc1 w3 (gqc1 w4 (gqc1 z0 (gqc1 z1 (gqc1 z2 (gqc1 z3 z4)))))))))))))))))) ?_; try with_reducible exact True.intro)
      refine fin _ _ _ _ _ _ ((n2.trans n3).trans n4) hc4 hf (by rw [fail_e, if_neg he']) ?_
      rw [if_neg he']; rfl

  · obtain ⟨s2, hs2⟩ : ∃ s2, (bytesP false 64 s1).2 = s2 := ⟨_, rfl⟩
    obtain ⟨t, ht1⟩ : ∃ t, (bytesP false 64 s1).1 = t := ⟨_, rfl⟩
    have htl := bytesP_len1 false 64 s1
    rw [ht1] at htl
    have hbl2 := bytesP_len 64 s1
    rw [hs2] at hbl2
    obtain ⟨s4, hs4⟩ : ∃ s4, (numP false 9007199254740992 s2).2 = s4 := ⟨_, rfl⟩
    obtain ⟨f, hf1⟩ : ∃ f, (numP false 9007199254740992 s2).1 = f := ⟨_, rfl⟩
    have hfl := numP_le false 9007199254740992 s2
    rw [hf1] at hfl
    have hfw : IntKind.i64.wrap (f : Int) = f := wrap64i (by omega) (by omega)
    have hf : fieldsP false 4 s1 = (⟨4, t, [], f, []⟩, s4) := by rw [← hs4, ← hf1, ← hs2, ← ht1]; rfl
    have ht : (⟨4, t, [], f, []⟩ : TOp).topic.length ≤ 1073741824 := by simp only; omega
    have hg : (⟨4, t, [], f, []⟩ : TOp).group.length ≤ 1073741824 := by simp
    have hr : (⟨4, t, [], f, []⟩ : TOp).recs.length ≤ 1073741824 := by simp
    (refine gq50 (gqc1 hw (gqc1 hput0 (gqc1 hlenX (gqc1 hget (gqc1 hput (gqc1 lget (gqc1 lget0 (gqc1 lset (gqc1 lset0 (gqc1 w0 (gqc1 w1 (gqc1 w2 (gqc1 w3 (gqc1 w4 (gqc1 z0 (gqc1 z1 (gqc1 z2 (gqc1 z3 z4)))))))))))))))))) ?_; try with_reducible exact True.intro)
    refine c_rdBytes (m := 64) (s := s1) (by omega) (hget _ _) hc1 (by omega) ?_
    rw [hs2, ht1]
    intro c2 n2 hc2
    (refine gq50 (gqc1 hw (gqc1 hput0 (gqc1 hlenX (gqc1 hget (gqc1 hput (gqc1 lget (gqc1 lget0 (gqc1 lset (gqc1 lset0 (gqc1 w0 (gqc1 w1 (gqc1 w2 (gqc1 w3 (gqc1 w4 (gqc1 z0 (gqc1 z1 (gqc1 z2 (gqc1 z3 z4)))))))))))))))))) ?_; try with_reducible exact True.intro)
    refine c_Num (m := 9007199254740992) (s := s2) (by omega) (hget _ _) hc2 (by omega) ?_
    rw [hs4, hf1]
    intro c4 n4 hc4
    (refine gq50 (gqc1 hw (gqc1 hput0 (gqc1 hlenX (gqc1 hget (gqc1 hput (gqc1 lget (gqc1 lget0 (gqc1 lset (gqc1 lset0 (gqc1 w0 (gqc1 w1 (gqc1 w2 (gqc1 w3 (gqc1 w4 (gqc1 z0 (gqc1 z1 (gqc1 z2 (gqc1 z3 (gqc1 z4 hfw))))))))))))))))))) ?_; try with_reducible exact True.intro)
    refine c_Err (hget _ _) ?_
    (refine gq50 (gqc1 hw (gqc1 hput0 (gqc1 hlenX (gqc1 hget (gqc1 hput (gqc1 lget (gqc1 lget0 (gqc1 lset (gqc1 lset0 (gqc1 w0 (gqc1 w1 (gqc1 w2 (gqc1 w3 (gqc1 w4 (gqc1 z0 (gqc1 z1 (gqc1 z2 (gqc1 z3 z4)))))))))))))))))) ?_; try with_reducible exact True.intro)
    refine BBL_intro (fun he => ?_) (fun he => ?_)
    · simp only [beq_iff_eq] at he
      (refine gq50 (gqc1 hw (gqc1 hput0 (gqc1 hlenX (gqc1 hget (gqc1 hput (gqc1 lget (gqc1 lget0 (gqc1 lset (gqc1 lset0 (gqc1 w0 (gqc1 w1 (gqc1 w2 (gqc1 w3 (gqc1 w4 (gqc1 z0 (gqc1 z1 (gqc1 z2 (gqc1 z3 z4)))))))))))))))))) ?_; try with_reducible exact True.intro)
      refine c_Check (o := ⟨4, t, [], f, []⟩) ht hg hr ?_
      (refine gq50 (gqc1 hw (gqc1 hput0 (gqc1 hlenX (gqc1 hget (gqc1 hput (gqc1 lget (gqc1 lget0 (gqc1 lset (gqc1 lset0 (gqc1 w0 (gqc1 w1 (gqc1 w2 (gqc1 w3 (gqc1 w4 (gqc1 z0 (gqc1 z1 (gqc1 z2 (gqc1 z3 z4)))))))))))))))))) ?_; try with_reducible exact True.intro)
      refine c_Fail (hget _ _) ?_
      (refine gq50 (gqc1 hw (gqc1 hput0 (gqc1 hlenX (gqc1 hget (gqc1 hput (gqc1 lget (gqc1 lget0 (gqc1 lset (gqc1 lset0 (gqc1 w0 (gqc1 w1 (gqc1 w2 (gqc1 w3 (gqc1 w4 (gqc1 z0 (gqc1 z1 (gqc1 z2 (gqc1 z3 z4)))))))))))))))))) ?_; try with_reducible exact True.intro)
      refine c_Err (hget _ _) ?_
      (refine gq50 (gqc1 hw (gqc1 hput0 (gqc1 hlenX (gqc1 hget (gqc1 hput (gqc1 lget (gqc1 lget0 (gqc1 lset (gqc1 lset0 (gqc1 w0 (gqc1 w1 (gqc1 w2 (gqc1 w3 (gqc1 w4 (gqc1 z0 (gqc1 z1 (gqc1 z2 (gqc1 z3 z4)))))))))))))))))) ?_; try with_reducible exact True.intro)
      refine BBL_intro (fun hx => ?_) (fun hx => ?_)
      · (refine gq50 (gqc1 hw (gqc1 hput0 (gqc1 hlenX (gqc1 hget (gqc1 hput (gqc1 lget (gqc1 lget0 (gqc1 lset (gqc1 lset0 (gqc1 w0 (gqc1 w1 (gqc1 w2 (gqc1 w3 (gqc1 w4 (gqc1 z0 (gqc1 z1 (gqc1 z2 (gqc1 z3 z4)))))))))))))))))) ?_; try with_reducible exact True.intro)
        repeat' ((with_reducible refine And.intro ?_ ?_); focus (first | omega | rfl | decide))
        try (refine gq50 (gqc1 hw (gqc1 hput0 (gqc1 hlenX (gqc1 hget (gqc1 hput (gqc1 lget (gqc1 lget0 (gqc1 lset (gqc1 lset0 (gqc1 w0 (gqc1 w1 (gqc1 w2 (gqc1 w3 (gqc1 w4 (gqc1 z0 (gqc1 z1 (gqc1 z2 (gqc1 z3 z4)))))))))))))))))) ?_; try with_reducible exact True.intro)
        refine fin _ _ _ _ _ _ (n2.trans n4) hc4 hf (fail_e _ _).symm ?_
        rw [if_neg (by simpa using hx)]; rfl
      · (refine gq50 (gqc1 hw (gqc1 hput0 (gqc1 hlenX (gqc1 hget (gqc1 hput (gqc1 lget (gqc1 lget0 (gqc1 lset (gqc1 lset0 (gqc1 w0 (gqc1 w1 (gqc1 w2 (gqc1 w3 (gqc1 w4 (gqc1 z0 (gqc1 z1 (gqc1 z2 (gqc1 z3 z4)))))))))))))))))) ?_; try with_reducible exact True.intro)
        repeat' ((with_reducible refine And.intro ?_ ?_); focus (first | omega | rfl | decide))
        try (refine gq50 (gqc1 hw (gqc1 hput0 (gqc1 hlenX (gqc1 hget (gqc1 hput (gqc1 lget (gqc1 lget0 (gqc1 lset (gqc1 lset0 (gqc1 w0 (gqc1 w1 (gqc1 w2 (gqc1 w3 (gqc1 w4 (gqc1 z0 (gqc1 z1 (gqc1 z2 (gqc1 z3 z4)))))))))))))))))) ?_; try with_reducible exact True.intro)
        refine fin _ _ _ _ _ _ (n2.trans n4) hc4 hf (fail_e _ _).symm ?_
        rw [if_pos (by simpa using hx)]; rfl
    · have he' : s4.e ≠ 0 := by simpa using he
      have hbe : (s4.e != 0) = true := by simpa using he'
      (refine gq50 (gqc1 hw (gqc1 hput0 (gqc1 hlenX (gqc1 hget (gqc1 hput (gqc1 lget (gqc1 lget0 (gqc1 lset (gqc1 lset0 (gqc1 w0 (gqc1 w1 (gqc1 w2 (gqc1 w3 (gqc1 w4 (gqc1 z0 (gqc1 z1 (gqc1 z2 (gqc1 z3 z4)))))))))))))))))) ?_; try with_reducible exact True.intro)
      refine c_Err (hget _ _) ?_
      (refine gq50 (gqc1 hw (gqc1 hput0 (gqc1 hlenX (gqc1 hget (gqc1 hput (gqc1 lget (gqc1 lget0 (gqc1 lset (gqc1 lset0 (gqc1 w0 (gqc1 w1 (gqc1 w2 (gqc1 w3 (gqc1 w4 (gqc1 z0 (gqc1 z1 (gqc1 z2 (gqc1 z3 (gqc1 z4 hbe))))))))))))))))))) ?_; try with_reducible exact True.intro)
      repeat' ((with_reducible refine And.intro ?_ ?_); focus (first | omega | rfl | decide))
      try (refine gq50 (gqc1 hw (gqc1 hput0 (gqc1 hlenX (gqc1 hget (gqc1 hput (gqc1 lget (gqc1 lget0 (gqc1 lset (gqc1 lset0 (gqc1 w0 (gqc1 w1 (gqc1 w2 (gqc1 w3 (gqc1 w4 (gqc1 z0 (gqc1 z1 (gqc1 z2 (gqc1 z3 z4)))))))))))))))))) ?_; try with_reducible exact True.intro)
      refine fin _ _ _ _ _ _ (n2.trans n4) hc4 hf (by rw [fail_e, if_neg he']) ?_
      rw [if_neg he']; rfl

end Go.Proofs.Ythmdpooklflkfaa

/- Contracts: Parse. -/
set_option maxRecDepth 100000
set_option linter.unusedSimpArgs false
namespace Go.Proofs.Ythmdpooklflkfaa
open Go.AW

end Go.Proofs.Ythmdpooklflkfaa

/- Contracts: the reference's Parse; results. -/
set_option maxRecDepth 100000
set_option linter.unusedSimpArgs false
namespace Go.Proofs.Ythmdpooklflkfaa
open Go.AW

/-- a result: its error's number, its place; the reader behind it -/
def resP (c : Bool) (s : Rd) : (Nat × Nat) × Rd :=
  let a := numP c 65536 s
  let b := numP c 9007199254740992 a.2
  (if b.2.e = 0 then (a.1, b.1) else (0, 0), b.2)
theorem Rd.like.res {s t : Rd} {c d : Bool} (h : s.like t) : (resP c s).1 = (resP d t).1 ∧ (resP c s).2.like (resP d t).2 := by
  obtain ⟨a1, a2⟩ := h.num (c := c) (d := d) (m := 65536)
  obtain ⟨b1, b2⟩ := a2.num (c := c) (d := d) (m := 9007199254740992)
  unfold resP
  simp only
  rw [← a1, ← b1, ← b2.1]
  exact ⟨rfl, b2⟩
def resA (p : Nat × Nat) : AV := .agg [.d (.int .i64 p.1), .d (.int .i64 p.2)]
end Go.Proofs.Ythmdpooklflkfaa
