/- Contracts: the reader's small methods. -/
import Derived.Test.YtdgcepphjnoalaaGreatCl1
import Derived.Test.YtdgcepphjnoalaaGreatSm5
import Derived.Test.YtdgcepphjnoalaaGreatOp2
set_option linter.all false
set_option maxRecDepth 100000
set_option linter.unusedSimpArgs false
namespace Go.Proofs.YtdgcepphjnoalaaGreat
open Go.AW

def Cell (c : AV) (B : List UInt8) : Prop := c = .d (.slice (bcs B)) ∨ ∃ t, c = .own t (bcs B)

open Go.AW


theorem u64_of {n : Int} (h : 0 ≤ n) (h2 : n < 9223372036854775808) : IntKind.u64.wrap n = (n.toNat : Int) := by
  obtain ⟨m, rfl⟩ := Int.eq_ofNat_of_zero_le h
  rw [Int.toNat_natCast]; exact zho (by omega)
theorem bytesE (s : List UInt8) : s.map zcj = bcs s := rfl

theorem gq25 {A P Q : Prop} (a : A) (h : Q) (e : A → P = Q := by intro a; simp -dsimp only [↓zgn, ↓zaG, ↓zca, ↓zgo, ↓zgh, ↓zgf, ↓zgi, ↓zgg, ↓zcf, ↓zcb, ↓zcg, ↓zcc, ↓zgj, ↓zbW, ↓zch, ↓zcd, ↓zci, ↓zce, ↓zge, ↓zgl, ↓zbV, ↓zck, ↓zgb, ↓zga, ↓zgd, iN, bT, bF, eN, ↓zds, ↓unC, ↓zX, ↓zJ, ↓zK, ↓zM, ↓zal, ↓zaV, ↓zdU, ↓zay, ↓zbD, ↓zR, ↓zi, ↓zg, ↓zbr, ↓zd, ↓zan, ↓zO, ↓zbf, ↓zbg, ↓zf, ↓zB, ↓zn, ↓zD, ↓zZ, ↓zeb, ↓zes, ↓zaq, ↓zaC, ↓zbe, ↓zbl, ↓zbG, ↓zp, ↓zao, ↓zL, ↓zr, ↓zaj, zen, zbP, zbL, unA, zdF, bnd, zeV, zaf, zac, zeF, dm, dm1, zQ, zaz, zfy, zfx, zI, Q0, Q1, Q2, Q3, Q4, Q5, zam, zw, zu, zN, zG, Q6, Q7, Q8, Q9, Q10, Q11, Q12, Q13, Q14, Nat.reduceAdd, Q15, Int.reduceToNat, Q16, Q17, Q18, Q19, Q20, reduceIte, Q21, Q22, zC, rep, zV, zfi, toD, zad, Q23, Q24, Q25, Q26, Q27, Q28, Nat.reduceLeDiff, Q29, Nat.reduceSub, Q30, Q31, Q32, sc, Q33, Q34, Q35, a]; rfl) : P := (e a).mpr h
theorem gq26 {A P Q : Prop} (a : A) (h : Q) (e : A → P = Q := by intro a; simp -dsimp only [↓zgn, ↓zaG, ↓zca, ↓zgo, ↓zgh, ↓zgf, ↓zgi, ↓zgg, ↓zcf, ↓zcb, ↓zcg, ↓zcc, ↓zgj, ↓zbW, ↓zch, ↓zcd, ↓zci, ↓zce, ↓zge, ↓zgl, ↓zbV, ↓zck, ↓zgb, ↓zga, ↓zgd, iN, bT, bF, eN, ↓zds, ↓unC, ↓zX, ↓zJ, ↓zK, ↓zM, ↓zal, ↓zaV, ↓zdU, ↓zay, ↓zbD, ↓zR, ↓zi, ↓zg, ↓zbr, ↓zd, ↓zan, ↓zO, ↓zbf, ↓zbg, ↓zf, ↓zB, ↓zn, ↓zD, ↓zZ, ↓zeb, ↓zes, ↓zaq, ↓zaC, ↓zbe, ↓zbl, ↓zbG, ↓zp, ↓zao, ↓zL, ↓zr, ↓zaj, zen, zbP, zbL, unA, zdF, bnd, zeV, zaf, zac, zeF, dm, dm1, zQ, zaz, zfy, zfx, zI, Q0, Q1, Q2, Q3, Q4, Q5, zam, zw, zu, zN, zG, Q6, Q7, Q8, Q9, Q10, Q11, Q12, Q13, Q14, Nat.reduceAdd, Q15, Int.reduceToNat, Q16, Q17, Q18, Q19, Q20, reduceIte, Q21, Q22, zC, rep, zV, zfi, toD, zad, Q23, Q24, Q25, Q26, Q27, Q28, Nat.reduceLeDiff, Q29, Nat.reduceSub, Q30, Q31, Q32, sc, Q33, Q34, Q35, Bool.and_false, Bool.and_self, Bool.false_and, Bool.not_false, Bool.not_true, Bool.true_and, Int.toNat_natCast, Int.toNat_zero, List.drop_zero, List.length_map, List.length_nil, List.nil_append, List.take_length, Nat.sub_zero, Nat.zero_add, Option.isSome_none, Option.isSome_some, Option.map_none, Option.map_some, zaJ, beq_self_eq_true, bne_self_eq_false, bytesE, zbK, zbM, opA, a]; rfl) : P := (e a).mpr h
theorem c_Put {σ : List zc} {b : List UInt8} {o : TOp} (hb : b.length ≤ 268435456) (ho : opSz o ≤ 268435456) {K : AV → List zc → Prop} (hK : K (.d (.slice (bcs (b ++ if zdm zjk o = 0 then opB o else [])))) σ) :
    zl Tryz.prog zqN [.d (.slice (bcs b)), opA o] σ K := by
  refine zjc e_op_Put fun hl => ?_
  have hsz := ho
  simp only [opSz] at hsz
  have hrl := zkA o.recs
  simp only [S_op_Put, iN, bT, bF, eN, opA]
  (refine gq4 ?_; try with_reducible exact True.intro)
  refine zgm zhy (by simp [bcs]; omega) ?_
  (refine gq4 ?_; try with_reducible exact True.intro)
  refine c_Check (o := o) (by omega) (by omega) (by omega) ?_
  (refine gq4 ?_; try with_reducible exact True.intro)
  refine zbh (fun h => ?_) (fun h => ?_)
  · refine zap hl ?_
    (try simp only [decide_eq_true_eq, decide_eq_false_iff_not, beq_iff_eq, beq_eq_false_iff_ne, bne_iff_ne, ne_eq, Bool.not_eq_true', Bool.not_eq_false', bne_eq_false_iff_eq] at *)
    rw [if_neg h, List.append_nil] at hK
    exact hK
  have hc : zdm zjk o = 0 := by (try simp only [decide_eq_true_eq, decide_eq_false_iff_not, beq_iff_eq, beq_eq_false_iff_ne, bne_iff_ne, ne_eq, Bool.not_eq_true', Bool.not_eq_false', bne_eq_false_iff_eq] at *); omega
  obtain ⟨k0, k4, o0, o1, hon⟩ := check_ok hc
  rw [if_pos hc] at hK
  have hkn := zP (n := o.kind.toNat) (by omega)
  have hon' := zP (n := o.offset.toNat) (by omega)
  have hrn := zP (n := o.recs.length) (by omega)
  have htp := zqK (x := o.topic) (by omega)
  have hgp := zqK (x := o.group) (by omega)
  (refine gq25 (u64_of k0 (by omega)) ?_; try with_reducible exact True.intro)
  refine zdS (by omega) (by omega) ?_
  have wo := u64_of o0 (by omega : o.offset < 9223372036854775808)
  have wl : IntKind.u64.wrap ((zeE o.recs).length : Int) = (o.recs.length : Int) := by rw [zC]; exact zho (by omega)
  have wl' : IntKind.u64.wrap (o.recs.length : Int) = (o.recs.length : Int) := zho (by omega)
  repeat' first
    | (refine gq26 (zj wo (zj wl wl')) ?_; try with_reducible exact True.intro)
    | (refine zbh (fun h => ?_) (fun h => ?_) <;> (try rw [h]))
    | ((with_reducible refine And.intro ?_ ?_); focus (first | omega | rfl | decide))
    | refine zqj (by omega) (by simp only [putB, List.length_append] at *; omega) ?_
    | refine zdS (by omega) (by simp only [putB, List.length_append] at *; omega) ?_
  -- the ways that end
  all_goals first
    | (exfalso; (try simp only [decide_eq_true_eq, decide_eq_false_iff_not, beq_iff_eq, beq_eq_false_iff_ne, bne_iff_ne, ne_eq, Bool.not_eq_true', Bool.not_eq_false', bne_eq_false_iff_eq] at *); omega)
    | (refine zap hl ?_
       (try simp only [decide_eq_true_eq, decide_eq_false_iff_not, beq_iff_eq, beq_eq_false_iff_ne, bne_iff_ne, ne_eq, Bool.not_eq_true', Bool.not_eq_false', bne_eq_false_iff_eq] at *)
       simp only [zdg, dmT, dm, dm1]
       (first | rw [opB_0 (by omega)] at hK | rw [opB_1 (by omega)] at hK | rw [opB_3 (by omega)] at hK | rw [opB_4 (by omega)] at hK)
       exact hK)
    | skip
  -- the records
  have hk2 : o.kind = 2 := by (try simp only [decide_eq_true_eq, decide_eq_false_iff_not, beq_iff_eq, beq_eq_false_iff_ne, bne_iff_ne, ne_eq, Bool.not_eq_true', Bool.not_eq_false', bne_eq_false_iff_eq] at *); omega
  rw [opB_2 hk2] at hK
  refine zae o.recs.length (fun k vs s => ∃ t τ, vs = [.own t (bcs (b ++ (zdC o.kind.toNat ++ (zdC o.topic.length ++ (o.topic ++ (zdC o.recs.length ++ znp (o.recs.take k))))))), .d (.int .i64 k)] ∧ s = σ ++ τ) ⟨σ.length + 4, _, by rw [List.take_zero, show znp [] = [] from rfl, List.append_nil]; rfl, rfl⟩ ?_
  rintro k vs s hk ⟨t, τ, rfl, rfl⟩
  (refine gq4 ?_; try with_reducible exact True.intro)
  refine zbh (fun h => ?_) (fun h => ?_)
  · have hka : k < o.recs.length := by (try simp only [decide_eq_true_eq, decide_eq_false_iff_not, beq_iff_eq, beq_eq_false_iff_ne, bne_iff_ne, ne_eq, Bool.not_eq_true', Bool.not_eq_false', bne_eq_false_iff_eq] at *); omega
    have hx : o.recs[k]? = some o.recs[k] := by simp [hka]
    have hle := rec_le (List.getElem_mem hka)
    have htl := zkh o.recs (by omega) k
    (refine gq25 (zhF hx) ?_; try with_reducible exact True.intro)
    refine And.intro (by omega) (zqj (by omega) (by simp only [putB, List.length_append] at *; omega) ?_)
    (refine gq4 ?_; try with_reducible exact True.intro)
    refine zdE.next hka ⟨σ.length + τ.length, _, ?_, rfl⟩
    rw [zdf (by omega) (by omega), recsB_snoc hx]
    simp only [putB, List.append_assoc]
    rfl
  · have hke : k = o.recs.length := by (try simp only [decide_eq_true_eq, decide_eq_false_iff_not, beq_iff_eq, beq_eq_false_iff_ne, bne_iff_ne, ne_eq, Bool.not_eq_true', Bool.not_eq_false', bne_eq_false_iff_eq] at *); omega
    subst hke
    refine zap hl ?_
    rw [List.take_length]
    exact hK



end Go.Proofs.YtdgcepphjnoalaaGreat
