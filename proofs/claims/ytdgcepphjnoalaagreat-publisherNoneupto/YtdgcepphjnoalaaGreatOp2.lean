/- Contracts: runes and names. -/
import Derived.Test.YtdgcepphjnoalaaGreatSpOp
import Derived.Test.YtdgcepphjnoalaaGreatSpUtf
set_option linter.all false
set_option maxRecDepth 100000
set_option linter.unusedSimpArgs false
namespace Go.Proofs.YtdgcepphjnoalaaGreat
open Go.AW

theorem c_Runes {σ : List zc} {s : List UInt8} (hs : s.length ≤ 1073741824) {K : AV → List zc → Prop} (hK : K (.d (.int .i64 (zlf s))) σ) : zl Tryz.prog zme [.d (.str s)] σ K := by
  refine zfT e_op_Runes fun hl => ?_
  simp only [zqq, iN, bT, bF, eN, zao]
  refine zae s.length (fun pos vs s' => ∃ cnt : Nat, vs = [.d (.int .i64 cnt)] ∧ s' = σ ++ [.iter s pos] ∧ pos ≤ s.length ∧ cnt ≤ pos ∧ zhf (s.length + 1) s = (zhf (s.length + 1) (s.drop pos)).map (· + cnt)) ⟨0, rfl, rfl, by omega, by omega, by simp⟩ ?_
  rintro pos vs s' hp ⟨cnt, rfl, rfl, hps, hc, hr⟩
  simp only [zp, zln, zu, List.getElem?_cons_zero]
  split
  · rename_i hlt
    have hd : s.drop pos ≠ [] := by intro e; have := congrArg List.length e; simp at this; omega
    have hw := goDec_width _ hd
    have hw2 := zmy (s.drop pos)
    simp only [decode_eq s pos hlt]
    have hcount : zhf (s.length + 1) (s.drop pos) = if (zrb (s.drop pos)).2 = 0 ∨ badF (zrb (s.drop pos)).1 = true then none else (zhf s.length ((s.drop pos).drop (zrb (s.drop pos)).2)).map (· + 1) := by
      rw [zhf, if_neg hd]
    (repeat' (first | (refine gq4 ?_; try with_reducible exact True.intro) | (refine zbh (fun h => ?_) (fun h => ?_) <;> (try rw [h])) | ((with_reducible refine And.intro ?_ ?_); focus (first | omega | rfl | decide))))
    all_goals first
      | (refine zap hl ?_
         have hb : badF (zlu (s.drop pos)).1 = true := by
           simp only [badF]
           (try simp only [decide_eq_true_eq, decide_eq_false_iff_not, beq_iff_eq, beq_eq_false_iff_ne, bne_iff_ne, ne_eq, Bool.not_eq_true', Bool.not_eq_false', bne_eq_false_iff_eq] at *)
           omega
         rw [goDec_bad] at hb
         have : zhf (s.length + 1) (s.drop pos) = none := by rw [hcount, if_pos (by simpa using hb)]
         have h0 : zlf s = 0 := by simp [zlf, hr, this]
         rw [h0] at hK; exact hK)
      | skip
    all_goals
      have hb : badF (zlu (s.drop pos)).1 = false := by
        simp only [badF]
        (try simp only [decide_eq_true_eq, decide_eq_false_iff_not, beq_iff_eq, beq_eq_false_iff_ne, bne_iff_ne, ne_eq, Bool.not_eq_true', Bool.not_eq_false', bne_eq_false_iff_eq] at *)
        omega
      obtain ⟨g1, g2, g3⟩ := goDec_good hb
      rw [zdf (by omega) (by omega)]
      refine zdE.to (pos + (zlu (s.drop pos)).2) (by omega) (by simp at hw; omega) ⟨cnt + 1, rfl, rfl, by simp at hw; omega, by omega, ?_⟩
      rw [hr, hcount, if_neg (by simp [g2, g3]), g1, List.drop_drop, zoG s.length (s.length + 1) _ (by simp at *; omega) (by simp; omega)]
      cases zhf (s.length + 1) (List.drop (pos + (zrb (s.drop pos)).2) s) <;> simp
      omega
  · rename_i hlt
    have e : s.drop pos = [] := List.drop_eq_nil_of_le (by omega)
    have hcnt : zhf (s.length + 1) s = some cnt := by rw [hr, e]; simp [zhf]
    (refine gq8 ?_; try with_reducible exact True.intro)
    refine zbh (fun h => ?_) (fun h => ?_)
    all_goals (try (refine gq7 h ?_; try with_reducible exact True.intro))
    · refine zap hl ?_
      have h0 : zlf s = 0 := by simp [zlf, hcnt]; simp at h; omega
      rw [h0] at hK; exact hK
    · refine zap hl ?_
      have h0 : zlf s = cnt := by simp [zlf, hcnt]; simp at h; omega
      rw [h0] at hK; exact hK
theorem gq11 {P Q : Prop} (h : Q) (e : P = Q := by simp -dsimp only [↓zgn, ↓zaG, ↓zca, ↓zgo, ↓zgh, ↓zgf, ↓zgi, ↓zgg, ↓zcf, ↓zcb, ↓zcg, ↓zcc, ↓zgj, ↓zbW, ↓zch, ↓zcd, ↓zci, ↓zce, ↓zge, ↓zgl, ↓zbV, ↓zck, ↓zgb, ↓zga, ↓zgd, iN, bT, bF, eN, ↓zds, ↓unC, ↓zX, ↓zJ, ↓zK, ↓zM, ↓zal, ↓zaV, ↓zdU, ↓zay, ↓zbD, ↓zR, ↓zi, ↓zg, ↓zbr, ↓zd, ↓zan, ↓zO, ↓zbf, ↓zbg, ↓zf, ↓zB, ↓zn, ↓zD, ↓zZ, ↓zeb, ↓zes, ↓zaq, ↓zaC, ↓zbe, ↓zbl, ↓zbG, ↓zp, ↓zao, ↓zL, ↓zr, ↓zaj, zen, zbP, zbL, unA, zdF, bnd, zeV, zaf, zac, zeF, dm, dm1, zQ, zaz, zfy, zfx, zI, Q0, Q1, Q2, Q3, Q4, Q5, zam, zw, zu, zN, zG, Q6, Q7, Q8, Q9, Q10, Q11, Q12, Q13, Q14, Nat.reduceAdd, Q15, Int.reduceToNat, Q16, Q17, Q18, Q19, Q20, reduceIte, Q21, Q22, S_op_Name, zC]; rfl) : P := e.mpr h
theorem c_Name {σ : List zc} {s : List UInt8} (hs : s.length ≤ 1073741824) {K : AV → List zc → Prop} (hK : K (.d (.bool (zjk s))) σ) : zl Tryz.prog zlp [.d (.str s)] σ K := by
  refine zfT e_op_Name fun hl => ?_
  (refine gq11 ?_; try with_reducible exact True.intro)
  refine c_Runes hs ?_
  (refine gq8 ?_; try with_reducible exact True.intro)
  refine zap hl ?_
  have : decide ((zlf s : Int) > 0) = zjk s := by simp [zjk]
  rw [this]; exact hK


theorem c_Check_1 {σ : List zc} {r : List UInt8} {K : AV → List zc → Prop} (hK : K (.d (.bool (decide (r.length > 64)))) σ) : zl Tryz.prog zgX [.d (.slice (bcs r))] σ K := by
  refine zfT e_op_Check_1 fun hl => ?_
  simp only [znj, iN, bT, bF, eN]
  (refine gq8 ?_; try with_reducible exact True.intro)
  refine zap hl ?_
  have : decide (((bcs r).length : Int) > 64) = decide (r.length > 64) := by simp [bcs]; omega
  rw [this]; exact hK
theorem gq12 {P Q : Prop} (h : Q) (e : P = Q := by simp -dsimp only [↓zgn, ↓zaG, ↓zca, ↓zgo, ↓zgh, ↓zgf, ↓zgi, ↓zgg, ↓zcf, ↓zcb, ↓zcg, ↓zcc, ↓zgj, ↓zbW, ↓zch, ↓zcd, ↓zci, ↓zce, ↓zge, ↓zgl, ↓zbV, ↓zck, ↓zgb, ↓zga, ↓zgd, iN, bT, bF, eN, ↓zds, ↓unC, ↓zX, ↓zJ, ↓zK, ↓zM, ↓zal, ↓zaV, ↓zdU, ↓zay, ↓zbD, ↓zR, ↓zi, ↓zg, ↓zbr, ↓zd, ↓zan, ↓zO, ↓zbf, ↓zbg, ↓zf, ↓zB, ↓zn, ↓zD, ↓zZ, ↓zeb, ↓zes, ↓zaq, ↓zaC, ↓zbe, ↓zbl, ↓zbG, ↓zp, ↓zao, ↓zL, ↓zr, ↓zaj, zen, zbP, zbL, unA, zdF, bnd, zeV, zaf, zac, zeF, dm, dm1, zQ, zaz, zfy, zfx, zI, Q0, Q1, Q2, Q3, Q4, Q5, zam, zw, zu, zN, zG, Q6, Q7, Q8, Q9, Q10, Q11, Q12, Q13, Q14, Nat.reduceAdd, Q15, Int.reduceToNat, Q16, Q17, Q18, Q19, Q20, reduceIte, Q21, Q22, dmT, zdg, zC]; rfl) : P := e.mpr h
theorem zju {σ : List zc} {a : List (List UInt8)} (ha : a.length ≤ 1073741824) {K : AV → List zc → Prop} (hK : K (.d (.bool (a.any fun r => decide (r.length > 64)))) σ) :
    zl Tryz.prog zaD [.d (.slice (zeE a)), .fn (.func zgX) [] []] σ K := by
  refine zjc zdl fun hl => ?_
  simp only [zbp, iN, bT, bF, eN]
  (refine gq8 ?_; try with_reducible exact True.intro)
  refine zjc zdD fun hl => ?_
  simp only [zbE, iN, bT, bF, eN]
  (refine gq8 ?_; try with_reducible exact True.intro)
  refine zae a.length (fun k vs s => vs = [.d (.int .i64 k)] ∧ s = σ ∧ ∀ r ∈ a.take k, ¬ r.length > 64) ⟨rfl, rfl, by simp⟩ ?_
  rintro k vs s hk ⟨rfl, rfl, htk⟩
  (refine gq8 ?_; try with_reducible exact True.intro)
  refine zbh (fun h => ?_) (fun h => ?_)
  · have hka : k < a.length := by (try simp only [decide_eq_true_eq, decide_eq_false_iff_not, beq_iff_eq, beq_eq_false_iff_ne, bne_iff_ne, ne_eq, Bool.not_eq_true', Bool.not_eq_false', bne_eq_false_iff_eq] at *); omega
    have hx : a[k]? = some a[k] := by simp [hka]
    (refine gq7 (zhF hx) ?_; try with_reducible exact True.intro)
    refine And.intro (by omega) (c_Check_1 ?_)
    (refine gq8 ?_; try with_reducible exact True.intro)
    refine zbh (fun h => ?_) (fun h => ?_)
    · refine zap hl ?_
      (refine gq12 ?_; try with_reducible exact True.intro)
      refine zap hl ?_
      have e1 : decide ((k : Int) ≥ 0) = true := by simp
      have e2 : (a.any fun r => decide (r.length > 64)) = true := by
        rw [List.any_eq_true]
        exact ⟨a[k], List.getElem_mem _, h⟩
      rw [e2] at hK
      simp only [zdg, dmT, dm, dm1]
      rw [e1]; exact hK
    · (refine gq8 ?_; try with_reducible exact True.intro)
      refine zdE.next hka ⟨?_, rfl, fun r hr => ?_⟩
      · rw [zdf (by omega) (by omega)]; rfl
      · rw [List.take_add_one, hx] at hr
        rcases List.mem_append.1 hr with hr | hr
        · exact htk r hr
        · have : r = a[k] := by simpa using hr
          subst this
          simpa using h
  · refine zap hl ?_
    (refine gq12 ?_; try with_reducible exact True.intro)
    refine zap hl ?_
    have e2 : (a.any fun r => decide (r.length > 64)) = false := by
      rw [List.any_eq_false]
      intro r hr
      have hk' : k = a.length := by (try simp only [decide_eq_true_eq, decide_eq_false_iff_not, beq_iff_eq, beq_eq_false_iff_ne, bne_iff_ne, ne_eq, Bool.not_eq_true', Bool.not_eq_false', bne_eq_false_iff_eq] at *); omega
      rw [hk', List.take_length] at htk
      simpa using htk r hr
    rw [e2] at hK
    exact hK
theorem gq13 {P Q : Prop} (h : Q) (e : P = Q := by simp -dsimp only [↓zgn, ↓zaG, ↓zca, ↓zgo, ↓zgh, ↓zgf, ↓zgi, ↓zgg, ↓zcf, ↓zcb, ↓zcg, ↓zcc, ↓zgj, ↓zbW, ↓zch, ↓zcd, ↓zci, ↓zce, ↓zge, ↓zgl, ↓zbV, ↓zck, ↓zgb, ↓zga, ↓zgd, iN, bT, bF, eN, ↓zds, ↓unC, ↓zX, ↓zJ, ↓zK, ↓zM, ↓zal, ↓zaV, ↓zdU, ↓zay, ↓zbD, ↓zR, ↓zi, ↓zg, ↓zbr, ↓zd, ↓zan, ↓zO, ↓zbf, ↓zbg, ↓zf, ↓zB, ↓zn, ↓zD, ↓zZ, ↓zeb, ↓zes, ↓zaq, ↓zaC, ↓zbe, ↓zbl, ↓zbG, ↓zp, ↓zao, ↓zL, ↓zr, ↓zaj, zen, zbP, zbL, unA, zdF, bnd, zeV, zaf, zac, zeF, dm, dm1, zQ, zaz, zfy, zfx, zI, Q0, Q1, Q2, Q3, Q4, Q5, zam, zw, zu, zN, zG, Q6, Q7, Q8, Q9, Q10, Q11, Q12, Q13, Q14, Nat.reduceAdd, Q15, Int.reduceToNat, Q16, Q17, Q18, Q19, Q20, reduceIte, Q21, Q22, zC, rep, zV, zfi, toD, zad, Q23, Q24, Q25, Q26, Q27, Q28, Nat.reduceLeDiff, Q29, Nat.reduceSub, Q30, Q31, Q32, sc, Q33, Q34, Q35, Bool.and_false, Bool.and_self, Bool.false_and, Bool.not_false, Bool.not_true, Bool.true_and, Int.toNat_natCast, Int.toNat_zero, List.drop_zero, List.length_map, List.length_nil, List.nil_append, List.take_length, Nat.sub_zero, Nat.zero_add, Option.isSome_none, Option.isSome_some, Option.map_none, Option.map_some, zaJ, beq_self_eq_true, bne_self_eq_false, zbK, zbM, opA]; rfl) : P := e.mpr h
theorem c_Check {σ : List zc} {o : TOp} (ht : o.topic.length ≤ 1073741824) (hg : o.group.length ≤ 1073741824) (hr : o.recs.length ≤ 1073741824) {K : AV → List zc → Prop} (hK : K (.d (.int .i64 (zdm zjk o))) σ) : zl Tryz.prog zhI [opA o] σ K := by
  refine zfT e_op_Check fun hl => ?_
  simp only [zqs, iN, bT, bF, eN, zl1, opA]
  (refine gq4 ?_; try with_reducible exact True.intro)
  refine c_only (o := o) ?_
  have honly : (onlyF o).recs.length ≤ 1073741824 := by unfold onlyF noOp; split <;> (try split) <;> (try split) <;> (try split) <;> simp <;> omega
  (refine gq13 ?_; try with_reducible exact True.intro)
  repeat' first
    | (refine gq4 ?_; try with_reducible exact True.intro)
    | refine c_Same (a := o) (b := onlyF o) hr honly ?_
    | refine c_Name ht ?_
    | refine c_Name hg ?_
    | refine zju hr ?_
    | (refine zbh (fun h => ?_) (fun h => ?_) <;> (try rw [h]))
    | ((with_reducible refine And.intro ?_ ?_); focus (first | omega | rfl | decide))
  all_goals refine zap hl ?_
  all_goals (try simp only [decide_eq_true_eq, decide_eq_false_iff_not, beq_iff_eq, beq_eq_false_iff_ne, bne_iff_ne, ne_eq, Bool.not_eq_true', Bool.not_eq_false', bne_eq_false_iff_eq] at *)
  all_goals
    simp only [zdg, dmT, dm, dm1]
    have e : ∀ z : Int, zdm zjk o = z → K (.d (.int .i64 z)) σ := fun z hz => by rw [← hz]; exact hK
    clear hK
    apply e
    first
    | grind [zdm]
    | skip

end Go.Proofs.YtdgcepphjnoalaaGreat
