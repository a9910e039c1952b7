/- Contracts: no records of topics that no call made; records' clones in rows. -/
import Derived.Test.YtaocmalhjfakdaaKn1
set_option linter.all false
set_option maxRecDepth 100000
set_option linter.unusedSimpArgs false
set_option linter.unusedVariables false
namespace Go.Proofs.Ytaocmalhjfakdaa
open Go.AW

theorem zhj {σ S : List zb} {K : AV → List zb → Prop} {l : List AV} (h : S.take σ.length = σ) (h1 : Low σ.length (dmT (zdK l))) (hl : zez σ.length σ) (hK : K (dmT (zdK l)) σ) : AW.Ends σ.length K (some l) S := by
  unfold AW.Ends
  rw [h]
  exact ⟨h1, hl, hK⟩
section

variable {σ : List zb} {a : AV} {K : AV → List zb → Prop}

theorem c_noAll {n : List UInt8} (h : NoT σ a) (hK : K (.fn (.func zaU) [] [.box σ.length 0, .box (σ.length + 1) 0]) (σ ++ [.box [a], .box [.d (.str n)]])) : zi Try.prog zbk [a, .d (.str n)] σ K := by
  refine zaC zdP.is rfl fun hl _ => zdP.goes ?_
  simp only [zdU, iN, bT, bF, eN]
  cases h with
  | nil =>
    refine gq1 ?_
    exact zaR hK
  | box id cs hb =>
    refine gq1 ?_
    exact zaR hK
theorem zjS {l ba bb : Nat} {n : List UInt8} (h : NoT σ a) (h1 : σ[ba]? = some (.box [a])) (h2 : σ[bb]? = some (.box [.d (.str n)])) (hK : K (.tup []) σ) : zi Try.prog zaU [.fn (.yield l) [] [], .box ba 0, .box bb 0] σ K := by
  refine zaC zdd.is rfl fun hl _ => zdd.goes ?_
  simp only [zdk, iN, bT, bF, eN]
  cases h with
  | nil =>
    refine zaZ (zk h1 h2) ?_
    refine zcV .nil ?_
    refine zaZ (show ((2 : Int) != 0) = true from rfl) ?_
    exact zaR hK
  | box id cs hb =>
    refine zaZ (zk h1 h2) ?_
    refine zcV (.box id cs hb) ?_
    refine zaZ (show ((2 : Int) != 0) = true from rfl) ?_
    exact zaR hK
theorem ziY {n : List UInt8} (h : NoT σ a) (hK : K (.tup [.d (.slice []), .d (.slice [])]) σ) : zi Try.prog zeC [a, .d (.str n)] σ K := by
  refine acE2 zkA fun hl => ?_
  cases h with
  | nil =>
    have h : NoT σ (.d .nilp) := .nil
    (
      have h0 : NoT (σ ++ [zb.box [.exact []], .box [.exact []]]) (AV.d D.nilp) := h.app _
      simp only [zeI, iN, bT, bF, eN]
      refine gq1 ?_
      refine c_noAll h0 ?_
      obtain ⟨B0, hB0⟩ : ∃ B0, σ ++ [zb.box [.exact []], .box [.exact []]] = B0 := ⟨_, rfl⟩
      have g0 : B0[σ.length]? = some (.box [.exact []]) := by rw [← hB0, zu]; rfl
      have g1 : B0[σ.length + 1]? = some (.box [.exact []]) := by rw [← hB0, zB]; rfl
      have g2 : ∀ j, j < σ.length → B0[j]? = σ[j]? := fun j hj => by rw [← hB0]; exact List.getElem?_append_left hj
      have l0 : B0.length = σ.length + 2 := by rw [← hB0]; simp
      rw [hB0] at h0 ⊢
      obtain ⟨B, hB⟩ : ∃ B, B0 ++ [zb.box [(AV.d D.nilp)], zb.box [.d (.str n)]] = B := ⟨_, rfl⟩
      have lB : B.length = σ.length + 4 := by rw [← hB]; simp; omega
      have hBo : ∀ j, j < B0.length → B[j]? = B0[j]? := fun j hj => by rw [← hB]; exact List.getElem?_append_left hj
      have b1 : B[B0.length]? = some (.box [(AV.d D.nilp)]) := by rw [← hB, zu]; rfl
      have b2 : B[B0.length + 1]? = some (.box [.d (.str n)]) := by rw [← hB, zB]; rfl
      have hBn : NoT B (AV.d D.nilp) := by rw [← hB]; exact h0.app _
      refine gq1 ?_
      rw [hB]
      simp only [zgN]
      intro l r vs
      have hr : (B ++ [zb.dead, .lrec l r vs])[B.length + 1]? = some (.lrec l r vs) := by rw [List.getElem?_append_right (by omega)]; simp
      refine ⟨Unit, fun _ s => s[B.length + 1]? = some (.lrec l r vs) ∧ ∀ j, j < B.length → s[j]? = B[j]?, (), fun _ _ _ => False, fun _ => True, fun _ _ _ h => h.elim, ⟨hr, fun j hj => List.getElem?_append_left hj⟩, fun i s h => h.1, fun _ => ?_, fun _ _ _ _ h => h.elim, ?_⟩
      · exact zjS (hBn.app _) (zf b1) (zf b2) ⟨(), trivial, hr, fun j hj => List.getElem?_append_left hj⟩
      · rintro _ s _ ⟨j1, j2⟩
        have k : ∀ R j, j < B.length → (s.set (B.length + 1) R)[j]? = B[j]? := fun R j hj => by rw [List.getElem?_set_ne (by omega)]; exact j2 j hj
        have e0 : ∀ R, (s.set (B.length + 1) R)[σ.length]? = some (.box [.exact []]) := fun R => (k R _ (by omega)).trans ((hBo _ (by omega)).trans g0)
        have e1 : ∀ R, (s.set (B.length + 1) R)[σ.length + 1]? = some (.box [.exact []]) := fun R => (k R _ (by omega)).trans ((hBo _ (by omega)).trans g1)
        have hpre : ∀ R, (s.set (B.length + 1) R).take σ.length = σ := fun R => by
          apply List.ext_getElem?
          intro j
          rw [List.getElem?_take]
          split
          · rename_i hj
            exact (k R j (by omega)).trans ((hBo j (by omega)).trans (g2 j hj))
          · rw [List.getElem?_eq_none (by omega)]
        refine zaZ (zk e0 e1) ?_
        exact zhj (hpre _) (by simp [zju, zhv, dmT, dm, dm1, zdK]) hl hK)
  | box id cs hb =>
    have h : NoT σ (.box id 0) := .box id cs hb
    (
      have h0 : NoT (σ ++ [zb.box [.exact []], .box [.exact []]]) (AV.box id 0) := h.app _
      simp only [zeI, iN, bT, bF, eN]
      refine gq1 ?_
      refine c_noAll h0 ?_
      obtain ⟨B0, hB0⟩ : ∃ B0, σ ++ [zb.box [.exact []], .box [.exact []]] = B0 := ⟨_, rfl⟩
      have g0 : B0[σ.length]? = some (.box [.exact []]) := by rw [← hB0, zu]; rfl
      have g1 : B0[σ.length + 1]? = some (.box [.exact []]) := by rw [← hB0, zB]; rfl
      have g2 : ∀ j, j < σ.length → B0[j]? = σ[j]? := fun j hj => by rw [← hB0]; exact List.getElem?_append_left hj
      have l0 : B0.length = σ.length + 2 := by rw [← hB0]; simp
      rw [hB0] at h0 ⊢
      obtain ⟨B, hB⟩ : ∃ B, B0 ++ [zb.box [(AV.box id 0)], zb.box [.d (.str n)]] = B := ⟨_, rfl⟩
      have lB : B.length = σ.length + 4 := by rw [← hB]; simp; omega
      have hBo : ∀ j, j < B0.length → B[j]? = B0[j]? := fun j hj => by rw [← hB]; exact List.getElem?_append_left hj
      have b1 : B[B0.length]? = some (.box [(AV.box id 0)]) := by rw [← hB, zu]; rfl
      have b2 : B[B0.length + 1]? = some (.box [.d (.str n)]) := by rw [← hB, zB]; rfl
      have hBn : NoT B (AV.box id 0) := by rw [← hB]; exact h0.app _
      refine gq1 ?_
      rw [hB]
      simp only [zgN]
      intro l r vs
      have hr : (B ++ [zb.dead, .lrec l r vs])[B.length + 1]? = some (.lrec l r vs) := by rw [List.getElem?_append_right (by omega)]; simp
      refine ⟨Unit, fun _ s => s[B.length + 1]? = some (.lrec l r vs) ∧ ∀ j, j < B.length → s[j]? = B[j]?, (), fun _ _ _ => False, fun _ => True, fun _ _ _ h => h.elim, ⟨hr, fun j hj => List.getElem?_append_left hj⟩, fun i s h => h.1, fun _ => ?_, fun _ _ _ _ h => h.elim, ?_⟩
      · exact zjS (hBn.app _) (zf b1) (zf b2) ⟨(), trivial, hr, fun j hj => List.getElem?_append_left hj⟩
      · rintro _ s _ ⟨j1, j2⟩
        have k : ∀ R j, j < B.length → (s.set (B.length + 1) R)[j]? = B[j]? := fun R j hj => by rw [List.getElem?_set_ne (by omega)]; exact j2 j hj
        have e0 : ∀ R, (s.set (B.length + 1) R)[σ.length]? = some (.box [.exact []]) := fun R => (k R _ (by omega)).trans ((hBo _ (by omega)).trans g0)
        have e1 : ∀ R, (s.set (B.length + 1) R)[σ.length + 1]? = some (.box [.exact []]) := fun R => (k R _ (by omega)).trans ((hBo _ (by omega)).trans g1)
        have hpre : ∀ R, (s.set (B.length + 1) R).take σ.length = σ := fun R => by
          apply List.ext_getElem?
          intro j
          rw [List.getElem?_take]
          split
          · rename_i hj
            exact (k R j (by omega)).trans ((hBo j (by omega)).trans (g2 j hj))
          · rw [List.getElem?_eq_none (by omega)]
        refine zaZ (zk e0 e1) ?_
        exact zhj (hpre _) (by simp [zju, zhv, dmT, dm, dm1, zdK]) hl hK)
theorem gq22 {A P Q : Prop} (a : A) (h : Q) (e : A → Hd Q → P := by intro a h; (repeat' first | simp -dsimp only [↓zhp, ↓zbg, ↓zcG, ↓zht, ↓zhb, ↓zgZ, ↓zhc, ↓zha, ↓zcM, ↓zcI, ↓zcN, ↓zcJ, ↓zhe, ↓zcD, ↓zcO, ↓zcK, ↓zcP, ↓zcL, ↓zgX, ↓zhn, ↓zcC, ↓zcQ, ↓zgJ, ↓zgI, ↓zgT, iN, bT, bF, eN, ↓zeg, ↓unC, ↓zaj, ↓zQ, ↓zR, ↓zad, ↓zaw, ↓zbd, ↓zdI, ↓zam, ↓zcm, ↓zal, ↓zo, ↓zl, ↓zbR, ↓zh, ↓zag, ↓zL, ↓zaX, ↓zaV, ↓zd, ↓zr, ↓zn, ↓zC, ↓zan, ↓zeb, ↓zej, ↓zaF, ↓zaN, ↓zaK, ↓zby, ↓zbS, ↓zA, ↓zak, ↓zS, ↓zE, ↓zat, zeh, zcf, zcd, unA, zek, bnd, zeV, zab, zT, zeU, dm, dm1, zt, zaL, zfO, zfN, zW, Q0, Q1, Q2, Q3, Q4, Q5, zax, zB, zu, zas, zX, Q6, Q7, Q8, Q9, Q10, Q11, Q12, Q13, Q14, Nat.reduceAdd, Q15, Int.reduceToNat, Q16, Q17, Q18, Q19, Q20, reduceIte, Q21, Q22, zI, rep, zP, zgG, toD, zah, Q23, Q24, Q25, Q26, Q27, Q28, Nat.reduceLeDiff, Q29, Nat.reduceSub, Q30, Q31, Q32, sc, Q33, Q34, Q35, Q36, Q37, Q26, Q38, Q39, n0gt, n1gt, n2gt, n0eq, ziz, n1eq, n2eq, n0ne, n1ne, ziy, ziA, i0ne, i0eq, Bool.not_true, Bool.not_false, List.length_map, Bool.and_false, Bool.and_self, Bool.false_and, Bool.not_false, Bool.not_true, Bool.true_and, Int.toNat_natCast, Int.toNat_zero, List.drop_zero, List.length_map, List.length_nil, List.nil_append, List.take_length, Nat.sub_zero, Nat.zero_add, Option.isSome_none, Option.isSome_some, Option.map_none, Option.map_some, zdA, zcb, beq_self_eq_true, bne_self_eq_false, zhS, zeU, a] | with_reducible refine andA ?_ | fail); exact h.go) : P := e a ⟨h⟩
theorem c_clRowR {t g : Nat} {r : List AV} {K : AV → List zb → Prop} (h0 : 0 < r.length) (hr : r.length ≤ 1073741824) (ht : σ[t]? = some (.row g 1 r)) (hK : ∀ g', K (.rsl σ.length g' 1 0 r.length) (σ ++ [.row g' 1 r])) :
    zi Try.prog ze [.rsl t g 1 0 r.length] σ K := by
  refine zaC zae.is rfl fun hl _ => zae.goes ?_
  have ht' : ∀ τ, (σ ++ τ)[t]? = _ := fun τ => zf ht
  simp only [zay, iN, bT, bF, eN]
  simp only [zan]
  refine ⟨fun h => by omega, fun _ => ?_⟩
  refine gq22 ht' ?_
  try rw [List.take_length]
  exact zaR (hK 1)
theorem allO_frzB {σ : List zb} {n m : Nat} : ∀ ds : List D, allO ((ds.map AV.d).map (frz σ n m)) = some ds
  | [] => rfl
  | d :: ds => by
    have : frz σ n m (.d d) = some d := by cases m <;> rfl
    simp only [List.map_cons, this, allO, allO_frzB ds]
theorem zhJ : ∀ l : List UInt8, zah 1 l.length (l.map fun b => D.int .u8 b.toNat) = bcs l
  | [] => rfl
  | a :: l => by
    have := zhJ l
    simp only [List.length_cons, List.map_cons, zah, List.take_succ_cons, List.take_zero, List.drop_succ_cons, List.drop_zero, this]
    rfl
theorem ziN {σ : List zb} {n₀ m t g : Nat} {l : List UInt8} (ht : σ[t]? = some (.row g 1 (l.map fun b => AV.d (.int .u8 b.toNat)))) (hn : n₀ ≤ t) : frz σ n₀ (m + 2) (.rsl t g 1 0 l.length) = some (.slice (bcs l)) := by
  have e1 : (((l.map fun b => AV.d (.int .u8 b.toNat)).drop (0 * 1)).take ((l.length - 0) * 1)) = (l.map fun b => D.int .u8 b.toNat).map AV.d := by
    rw [List.map_map, Nat.zero_mul, List.drop_zero, List.take_of_length_le (by simp)]; rfl
  simp only [frz, ht, hn, true_and, and_self, if_true, e1]
  rw [allO_frzB]
  simp only [Nat.sub_zero, zhJ]
theorem c_clRowD {t g : Nat} {l : List UInt8} {K : AV → List zb → Prop} (h0 : 0 < l.length) (hr : l.length ≤ 1073741824) (ht : σ[t]? = some (.row g 1 (l.map fun b => AV.d (.int .u8 b.toNat)))) (hK : K (.d (.slice (bcs l))) σ) :
    zi Try.prog ze [.rsl t g 1 0 l.length] σ K := by
  refine zi.frz 2 ?_
  have := c_clRowR (σ := σ) (t := t) (g := g) (r := l.map fun b => AV.d (.int .u8 b.toNat)) (K := fun r s => ∃ r', frzT s σ.length 2 r = some r' ∧ s.take σ.length = σ ∧ K r' σ) (by simpa using h0) (by simpa using hr) ht fun g' => by
    rw [List.length_map]
    refine ⟨.d (.slice (bcs l)), ?_, by simp, hK⟩
    have := ziN (σ := σ ++ [.row g' 1 (l.map fun b => AV.d (.int .u8 b.toNat))]) (n₀ := σ.length) (m := 0) (t := σ.length) (g := g') (l := l) (by rw [zu]; rfl) (Nat.le_refl _)
    simp only [frzT, frz1, this]
  rwa [List.length_map] at this
end

end Go.Proofs.Ytaocmalhjfakdaa
