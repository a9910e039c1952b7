/- The law PreparedLatest, from the contracts. -/
import Derived.Test.YtcappjcojggehaaLv1
import Derived.Test.YtcappjcojggehaaSpBulk
import Derived.Test.YtcappjcojggehaaSpNum
set_option linter.all false
set_option maxRecDepth 100000
set_option linter.unusedSimpArgs false
set_option linter.unusedVariables false
namespace Go.Proofs.Ytcappjcojggehaa
open Go.AW

/-- of each number the view of what is kept -/
abbrev mE (l : List (Int × TPrep)) : List (AV × AV) := ents (l.map fun e => (e.1, .d (.int .i64 e.2.view)))
theorem zmP (s : Int) : ∀ (l : List (Int × TPrep)) (i : Nat), mfind .int (.d (.int .i64 s)) (mE l) i = some ((findP s l i).map fun q => (q.1, .d (.int .i64 q.2.view)))
  | [], _ => rfl
  | e :: r, i => by
    simp only [mE, ents, List.map_cons, mfind, keyEq, if_true, findP]
    by_cases h : s = e.1
    · simp [h]
    · have : (s == e.1) = false := by simpa using h
      simp only [this, if_neg h]
      exact zmP s r (i + 1)
theorem mE_set (l : List (Int × TPrep)) (i : Nat) (p : TPrep) : (mE l).set i (.d (.int .i64 p.seq), .d (.int .i64 p.view)) = mE (l.set i (p.seq, p)) := by
  simp only [mE, ents, List.map_set]
theorem mE_add (l : List (Int × TPrep)) (p : TPrep) : mE l ++ [(.d (.int .i64 p.seq), .d (.int .i64 p.view))] = mE (l ++ [(p.seq, p)]) := by simp [mE, ents]
theorem findP_key {s : Int} : ∀ {l : List (Int × TPrep)} {i : Nat} {q : Nat × TPrep}, findP s l i = some q → ∃ e ∈ l, e.1 = s
  | [], _, _, h => by simp [findP] at h
  | e :: r, i, q, h => by
    simp only [findP] at h
    split at h
    · rename_i h1
      exact ⟨e, by simp, h1.symm⟩
    · obtain ⟨e', h1, h2⟩ := findP_key h
      exact ⟨e', by simp [h1], h2⟩
theorem ziU {s : Int} : ∀ {l : List (Int × TPrep)} {i : Nat}, (∃ e ∈ l, e.1 = s) → ∃ q, findP s l i = some q
  | [], _, ⟨e, h, _⟩ => by cases h
  | e :: r, i, ⟨e', h, h1⟩ => by
    simp only [findP]
    by_cases h2 : s = e.1
    · exact ⟨_, if_pos h2⟩
    · rw [if_neg h2]
      rcases List.mem_cons.1 h with h | h
      · exact absurd (by rw [← h1, h]) h2
      · exact ziU ⟨e', h, h1⟩
theorem findP_at {s : Int} : ∀ {l : List (Int × TPrep)} {i j : Nat} {q : TPrep}, findP s l i = some (j, q) → ∃ k, j = i + k ∧ l[k]? = some (s, q)
  | [], _, _, _, h => by simp [findP] at h
  | e :: r, i, j, q, h => by
    simp only [findP] at h
    split at h
    · rename_i h1
      cases h
      exact ⟨0, rfl, by rw [h1]; rfl⟩
    · obtain ⟨k, h2, h3⟩ := findP_at h
      exact ⟨k + 1, by omega, by simpa using h3⟩
/-- what holds of what is kept -/
def KeptI (l : List (Int × TPrep)) : Prop := ∀ e ∈ l, zjq e.2 ∧ 1 ≤ e.1 ∧ e.1 ≤ 9007199254740992
theorem keptI_put {l : List (Int × TPrep)} {p : TPrep} (h : KeptI l) (hp : zjq p) (h1 : 1 ≤ p.seq) (h2 : p.seq ≤ 9007199254740992) : KeptI (hPut l p) ∧ ∃ q, findP p.seq (hPut l p) 0 = some q := by
  unfold hPut
  cases hq : findP p.seq l 0 with
  | none =>
    refine ⟨fun e he => ?_, ziU ⟨(p.seq, p), by simp, rfl⟩⟩
    rcases List.mem_append.1 he with he | he
    · exact h e he
    · simp at he; subst he; exact ⟨hp, h1, h2⟩
  | some q =>
    obtain ⟨j, q⟩ := q
    obtain ⟨k, rfl, hk⟩ := findP_at hq
    simp only [Nat.zero_add] at *
    have hkl := (List.getElem?_eq_some_iff.1 hk).1
    split
    · exact ⟨h, _, hq⟩
    · refine ⟨fun e he => ?_, ziU ⟨(p.seq, p), List.mem_iff_getElem?.2 ⟨k, by simp [hkl]⟩, rfl⟩⟩
      rcases List.mem_or_eq_of_mem_set he with he | he
      · exact h e he
      · subst he; exact ⟨hp, h1, h2⟩
theorem kept_out {l : List (Int × TPrep)} {s : Int} (h : KeptI l) (ho : s < 1 ∨ s > 9007199254740992) : findP s l 0 = none := by
  cases hq : findP s l 0 with
  | none => rfl
  | some q =>
    obtain ⟨e, he, rfl⟩ := findP_key hq
    have := h e he
    omega
def zdx : List (Bool × List Ty) := [(false, [.slice tyPrep])]
theorem args_preps {n : Nat} (hn : n ≤ 1048576) {ds : List D} {m : Nat} (hf : zbS [.slice tyPrep] ds) (hb : bulkL ds + m ≤ n) : ∃ l, ds = [.slice (prepsE l)] ∧ l.length ≤ 1048576 ∧ ∀ x ∈ l, zjq x := by
  obtain ⟨d, rfl, h1⟩ := one_of hf
  obtain ⟨l, rfl, hR⟩ := dec_sliceR h1 fun e he => dec_prep he
  have h2 : zbR (l.map prepD) ≤ 1048576 := by simp only [bulkL, bulkD] at hb; omega
  have h4 := zdv (f := prepD) (fun a => by simp only [prepD, bulkL, bulkD]; omega) l
  refine ⟨l, rfl, by omega, fun p hp => ?_⟩
  have h3 := zey (f := prepD) hp
  have h5 := leP_bulk (Nat.le_trans h3 h2)
  simp only [prepD, bulkL, bulkD] at h3
  obtain ⟨h6, h7⟩ := batch_sz (b := p.batch) (n := 1048576) (by omega) (by omega)
  exact ⟨h6, by omega, by have := h5.1; omega⟩
theorem gq66 {A P Q : Prop} (a : A) (h : Q) (e : A → P = Q := by intro a; simp -dsimp only [↓zad, ↓loopL, ↓binC, ↓unC, ↓zK, ↓zB, ↓zC, ↓zD, ↓zM, ↓lenC, ↓slcC, ↓convC, ↓boxC, ↓zF, ↓loadC, ↓zo, ↓nilC, ↓zh, ↓zS, ↓zy, ↓idxSC, ↓idxAC, ↓zi, ↓zE, ↓zl, ↓zt, ↓zW, ↓maxC, ↓minC, ↓zY, ↓zac, ↓mgetC, ↓msetC, ↓mdelC, ↓zn, ↓zU, ↓zA, ↓zp, ↓zL, binA, intOp, strOp, unA, esOf, bnd, intV, zQ, fillV, srcE, dm, dm1, consO, cellA, maxL, minL, keepO, Q0, Q1, Q2, Q3, Q4, Q5, zJ, zm, zq, zw, zx, Q6, Q7, Q8, Q9, Q10, Q11, Q12, Q13, Q14, Nat.reduceAdd, Q15, Int.reduceToNat, Q16, Q17, Q18, Q19, Q20, reduceIte, Q21, Q22, zr, rep, zN, toDs, toD, zX, Q23, Q24, Q25, Q26, Q27, Q28, Nat.reduceLeDiff, Q29, Nat.reduceSub, Q30, Q31, Q32, sc, Q33, Q34, Q35, Q36, Q37, Q26, Q38, Q39, n0gt, n1gt, n2gt, n0eq, n1eq0, n1eq, n2eq, n0ne, n1ne, n1ne0, n0ne1, i0ne, i0eq, Bool.not_true, Bool.not_false, List.length_map, prepD, a]; rfl) : P := (e a).mpr h
theorem gq67 {A P Q : Prop} (a : A) (h : Q) (e : A → P = Q := by intro a; simp -dsimp only [↓zad, ↓loopL, ↓binC, ↓unC, ↓zK, ↓zB, ↓zC, ↓zD, ↓zM, ↓lenC, ↓slcC, ↓convC, ↓boxC, ↓zF, ↓loadC, ↓zo, ↓nilC, ↓zh, ↓zS, ↓zy, ↓idxSC, ↓idxAC, ↓zi, ↓zE, ↓zl, ↓zt, ↓zW, ↓maxC, ↓minC, ↓zY, ↓zac, ↓mgetC, ↓msetC, ↓mdelC, ↓zn, ↓zU, ↓zA, ↓zp, ↓zL, binA, intOp, strOp, unA, esOf, bnd, intV, zQ, fillV, srcE, dm, dm1, consO, cellA, maxL, minL, keepO, Q0, Q1, Q2, Q3, Q4, Q5, zJ, zm, zq, zw, zx, Q6, Q7, Q8, Q9, Q10, Q11, Q12, Q13, Q14, Nat.reduceAdd, Q15, Int.reduceToNat, Q16, Q17, Q18, Q19, Q20, reduceIte, Q21, Q22, zr, rep, zN, toDs, toD, zX, Q23, Q24, Q25, Q26, Q27, Q28, Nat.reduceLeDiff, Q29, Nat.reduceSub, Q30, Q31, Q32, sc, Q33, Q34, Q35, Q36, Q37, Q26, Q38, Q39, n0gt, n1gt, n2gt, n0eq, n1eq0, n1eq, n2eq, n0ne, n1ne, n1ne0, n0ne1, i0ne, i0eq, Bool.not_true, Bool.not_false, List.length_map, Option.isSome_none, beq_self_eq_true, bne_self_eq_false, a]; rfl) : P := (e a).mpr h
theorem gq68 {A P Q : Prop} (a : A) (h : Q) (e : A → P = Q := by intro a; simp -dsimp only [↓zad, ↓loopL, ↓binC, ↓unC, ↓zK, ↓zB, ↓zC, ↓zD, ↓zM, ↓lenC, ↓slcC, ↓convC, ↓boxC, ↓zF, ↓loadC, ↓zo, ↓nilC, ↓zh, ↓zS, ↓zy, ↓idxSC, ↓idxAC, ↓zi, ↓zE, ↓zl, ↓zt, ↓zW, ↓maxC, ↓minC, ↓zY, ↓zac, ↓mgetC, ↓msetC, ↓mdelC, ↓zn, ↓zU, ↓zA, ↓zp, ↓zL, binA, intOp, strOp, unA, esOf, bnd, intV, zQ, fillV, srcE, dm, dm1, consO, cellA, maxL, minL, keepO, Q0, Q1, Q2, Q3, Q4, Q5, zJ, zm, zq, zw, zx, Q6, Q7, Q8, Q9, Q10, Q11, Q12, Q13, Q14, Nat.reduceAdd, Q15, Int.reduceToNat, Q16, Q17, Q18, Q19, Q20, reduceIte, Q21, Q22, zr, rep, zN, toDs, toD, zX, Q23, Q24, Q25, Q26, Q27, Q28, Nat.reduceLeDiff, Q29, Nat.reduceSub, Q30, Q31, Q32, sc, Q33, Q34, Q35, Q36, Q37, Q26, Q38, Q39, n0gt, n1gt, n2gt, n0eq, n1eq0, n1eq, n2eq, n0ne, n1ne, n1ne0, n0ne1, i0ne, i0eq, Bool.not_true, Bool.not_false, List.length_map, Option.map_none, zaQ, zbg, mE_add, mgetC, mgetR, msetC, a]; rfl) : P := (e a).mpr h
theorem gq69 {A P Q : Prop} (a : A) (h : Q) (e : A → P = Q := by intro a; simp -dsimp only [↓zad, ↓loopL, ↓binC, ↓unC, ↓zK, ↓zB, ↓zC, ↓zD, ↓zM, ↓lenC, ↓slcC, ↓convC, ↓boxC, ↓zF, ↓loadC, ↓zo, ↓nilC, ↓zh, ↓zS, ↓zy, ↓idxSC, ↓idxAC, ↓zi, ↓zE, ↓zl, ↓zt, ↓zW, ↓maxC, ↓minC, ↓zY, ↓zac, ↓mgetC, ↓msetC, ↓mdelC, ↓zn, ↓zU, ↓zA, ↓zp, ↓zL, binA, intOp, strOp, unA, esOf, bnd, intV, zQ, fillV, srcE, dm, dm1, consO, cellA, maxL, minL, keepO, Q0, Q1, Q2, Q3, Q4, Q5, zJ, zm, zq, zw, zx, Q6, Q7, Q8, Q9, Q10, Q11, Q12, Q13, Q14, Nat.reduceAdd, Q15, Int.reduceToNat, Q16, Q17, Q18, Q19, Q20, reduceIte, Q21, Q22, zr, rep, zN, toDs, toD, zX, Q23, Q24, Q25, Q26, Q27, Q28, Nat.reduceLeDiff, Q29, Nat.reduceSub, Q30, Q31, Q32, sc, Q33, Q34, Q35, Q36, Q37, Q26, Q38, Q39, n0gt, n1gt, n2gt, n0eq, n1eq0, n1eq, n2eq, n0ne, n1ne, n1ne0, n0ne1, i0ne, i0eq, Bool.not_true, Bool.not_false, List.length_map, Option.isSome_some, Option.map_some, beq_self_eq_true, bne_self_eq_false, zaQ, zbg, mgetC, mgetR, a]; rfl) : P := (e a).mpr h
theorem gq70 {A P Q : Prop} (a : A) (h : Q) (e : A → P = Q := by intro a; simp -dsimp only [↓zad, ↓loopL, ↓binC, ↓unC, ↓zK, ↓zB, ↓zC, ↓zD, ↓zM, ↓lenC, ↓slcC, ↓convC, ↓boxC, ↓zF, ↓loadC, ↓zo, ↓nilC, ↓zh, ↓zS, ↓zy, ↓idxSC, ↓idxAC, ↓zi, ↓zE, ↓zl, ↓zt, ↓zW, ↓maxC, ↓minC, ↓zY, ↓zac, ↓mgetC, ↓msetC, ↓mdelC, ↓zn, ↓zU, ↓zA, ↓zp, ↓zL, binA, intOp, strOp, unA, esOf, bnd, intV, zQ, fillV, srcE, dm, dm1, consO, cellA, maxL, minL, keepO, Q0, Q1, Q2, Q3, Q4, Q5, zJ, zm, zq, zw, zx, Q6, Q7, Q8, Q9, Q10, Q11, Q12, Q13, Q14, Nat.reduceAdd, Q15, Int.reduceToNat, Q16, Q17, Q18, Q19, Q20, reduceIte, Q21, Q22, zr, rep, zN, toDs, toD, zX, Q23, Q24, Q25, Q26, Q27, Q28, Nat.reduceLeDiff, Q29, Nat.reduceSub, Q30, Q31, Q32, sc, Q33, Q34, Q35, Q36, Q37, Q26, Q38, Q39, n0gt, n1gt, n2gt, n0eq, n1eq0, n1eq, n2eq, n0ne, n1ne, n1ne0, n0ne1, i0ne, i0eq, Bool.not_true, Bool.not_false, List.length_map, Option.map_some, zaQ, zbg, mE_set, mgetC, mgetR, msetC, a]; rfl) : P := (e a).mpr h
theorem gq71 {A P Q : Prop} (a : A) (h : Q) (e : A → P = Q := by intro a; simp -dsimp only [↓zad, ↓loopL, ↓binC, ↓unC, ↓zK, ↓zB, ↓zC, ↓zD, ↓zM, ↓lenC, ↓slcC, ↓convC, ↓boxC, ↓zF, ↓loadC, ↓zo, ↓nilC, ↓zh, ↓zS, ↓zy, ↓idxSC, ↓idxAC, ↓zi, ↓zE, ↓zl, ↓zt, ↓zW, ↓maxC, ↓minC, ↓zY, ↓zac, ↓mgetC, ↓msetC, ↓mdelC, ↓zn, ↓zU, ↓zA, ↓zp, ↓zL, binA, intOp, strOp, unA, esOf, bnd, intV, zQ, fillV, srcE, dm, dm1, consO, cellA, maxL, minL, keepO, Q0, Q1, Q2, Q3, Q4, Q5, zJ, zm, zq, zw, zx, Q6, Q7, Q8, Q9, Q10, Q11, Q12, Q13, Q14, Nat.reduceAdd, Q15, Int.reduceToNat, Q16, Q17, Q18, Q19, Q20, reduceIte, Q21, Q22, zr, rep, zN, toDs, toD, zX, Q23, Q24, Q25, Q26, Q27, Q28, Nat.reduceLeDiff, Q29, Nat.reduceSub, Q30, Q31, Q32, sc, Q33, Q34, Q35, Q36, Q37, Q26, Q38, Q39, n0gt, n1gt, n2gt, n0eq, n1eq0, n1eq, n2eq, n0ne, n1ne, n1ne0, n0ne1, i0ne, i0eq, Bool.not_true, Bool.not_false, List.length_map, beq_self_eq_true, a]; rfl) : P := (e a).mpr h
theorem zhL (xs : List AV) (n : Nat) (hn : n ≤ 1048576) (h : ArgsOk zdx xs n) : ACall Try.prog zbK xs [] fun r _ => r = .d (.bool true) := by
  obtain ⟨ds, xs1, m1, hf, hb1, rfl, rfl⟩ := h
  obtain ⟨l, rfl, hl1, hl2⟩ := args_preps hn hf hb1
  show ACall Try.prog zbK [.d (.slice (prepsE l))] [] _
  clear hf hb1
  generalize ([] : List AObj) = σ
  refine zu zfw rfl fun hl _ => zgD ?_
  have hll : (prepsE l).length = l.length := List.length_map ..
  simp only [zdq]
  refine c_live15 ?_
  (repeat' (first | (refine gq1 ?_; try with_reducible exact True.intro) | ((with_reducible refine And.intro ?_ ?_); focus (first | omega | rfl | decide | (simp; done)))))
  refine c_heNew ?_
  (repeat' (first | (refine gq2 hll ?_; try with_reducible exact True.intro) | ((with_reducible refine And.intro ?_ ?_); focus (first | omega | rfl | decide | (simp; done)))))
  refine zab l.length (fun k vs s => ∃ H T, vs = [.d (.int .i64 k)] ∧ KeptI H ∧ s = σ ++ (.map (hE H) :: .box [.map σ.length] :: .map (mE H) :: T)) ⟨[], [], rfl, by simp [KeptI], rfl⟩ ?_
  rintro k vs S hk ⟨H, T, rfl, hH, rfl⟩
  by_cases hlt : k < l.length
  · have hd : decide ((k : Int) < (l.length : Int)) = true := by simp; omega
    have hx : l[k]? = some l[k] := by simp [hlt]
    have hxo := hl2 _ (List.getElem_mem hlt)
    have hgx := zax (f := prepD) hx
    obtain ⟨p, hpe⟩ : ∃ p, l[k] = p := ⟨_, rfl⟩
    rw [hpe] at hx hgx hxo
    have hpd : (l.map prepD).length = l.length := List.length_map ..
    (repeat' (first | (refine gq66 (gqc0 hd (gqc0 hgx hll)) ?_; try with_reducible exact True.intro) | ((with_reducible refine And.intro ?_ ?_); focus (first | omega | rfl | decide | (simp; done)))))
    obtain ⟨S, hS⟩ : ∃ S, σ ++ (.map (hE H) :: .box [.map σ.length] :: .map (mE H) :: T) = S := ⟨_, rfl⟩
    have g0 : ∀ τ, (S ++ τ)[σ.length]? = some (.map (hE H)) := fun τ => zO (by rw [← hS, zq]; rfl)
    have g1 : ∀ τ, (S ++ τ)[σ.length + 1]? = some (.box [.map σ.length]) := fun τ => zO (by rw [← hS, zm]; rfl)
    obtain ⟨H', hH'⟩ : ∃ H', (if inR p = true then hPut H p else H) = H' := ⟨_, rfl⟩
    obtain ⟨S', hS'⟩ : ∃ S, σ ++ (.map (hE H') :: .box [.map σ.length] :: .map (mE H) :: T) = S := ⟨_, rfl⟩
    obtain ⟨S2, hS2⟩ : ∃ S, σ ++ (.map (hE H') :: .box [.map σ.length] :: .map (mE H') :: T) = S := ⟨_, rfl⟩
    have r1 : S.length = S'.length := by rw [← hS, ← hS']; simp
    have r2 : S'.length = S2.length := by rw [← hS2, ← hS']; simp
    have s1 : ∀ τ, (S ++ τ).set σ.length (.map (hE H')) = S' ++ τ := fun τ => by
      rw [← hS, ← hS', List.append_assoc, zx]; simp
    have s2 : ∀ τ, (S' ++ τ).set (σ.length + 2) (.map (mE H')) = S2 ++ τ := fun τ => by
      rw [← hS2, ← hS', List.append_assoc, zw]; simp
    have g2 : ∀ τ, (S' ++ τ)[σ.length + 2]? = some (.map (mE H)) := fun τ => zO (by rw [← hS', zm]; rfl)
    have k0 : ∀ τ, zjL (S2 ++ τ) (σ.length + 1) σ.length H' := fun τ => ⟨zO (by rw [← hS2, zm]; rfl), zO (by rw [← hS2, zq]; rfl)⟩
    have k3 : ∀ X τ, (S2 ++ X :: τ)[S'.length]? = some X := fun X τ => by rw [r2, zq]; rfl
    have k2 : ∀ τ, (S2 ++ τ)[σ.length + 2]? = some (.map (mE H')) := fun τ => zO (by rw [← hS2, zm]; rfl)
    have hf := zmP p.seq H 0
    have hf' := zmP p.seq H' 0
    rw [show ∀ τ, σ ++ (.map (hE H) :: .box [.map σ.length] :: .map (mE H) :: (T ++ τ)) = S ++ τ from fun τ => by rw [← hS]; simp, hS]
    refine c_hePut (h := σ.length + 1) (m := σ.length) (l := H) ⟨g1 _, g0 _⟩ hxo ?_
    rw [hH', s1]
    have wk := wk1 k (by omega)
    cases h1 : decide (p.seq ≥ 1)
    · have e1 : H = H' := by rw [← hH', if_neg]; simp at h1; simp [inR]; omega
      subst e1
      have e2 : S' = S2 := by rw [← hS', ← hS2]
      subst e2
      have e3 := kept_out hH (s := p.seq) (by simp at h1; omega)
      rw [e3] at hf
      (repeat' (first | (refine gq62 (gqc0 r1 (gqc0 g2 (gqc0 hf h1))) ?_; try with_reducible exact True.intro) | ((with_reducible refine And.intro ?_ ?_); focus (first | omega | rfl | decide | (simp; done)))))
      refine zkZ (k0 _) (fun e he => (hH e he).1) ?_
      rw [hGet, e3]
      (repeat' (first | (refine gq67 (gqc0 r1 (gqc0 h1 wk)) ?_; try with_reducible exact True.intro) | ((with_reducible refine And.intro ?_ ?_); focus (first | omega | rfl | decide | (simp; done)))))
      exact Again.next hlt ⟨H, _, rfl, hH, by rw [← hS2, List.append_assoc]; rfl⟩
    · cases h2 : decide (p.seq ≤ 9007199254740992)
      · have e1 : H = H' := by rw [← hH', if_neg]; simp at h2; simp [inR]; omega
        subst e1
        have e2 : S' = S2 := by rw [← hS', ← hS2]
        subst e2
        have e3 := kept_out hH (s := p.seq) (by simp at h2; omega)
        rw [e3] at hf
        (repeat' (first | (refine gq62 (gqc0 r1 (gqc0 g2 (gqc0 hf (gqc0 h1 h2)))) ?_; try with_reducible exact True.intro) | ((with_reducible refine And.intro ?_ ?_); focus (first | omega | rfl | decide | (simp; done)))))
        refine zkZ (k0 _) (fun e he => (hH e he).1) ?_
        rw [hGet, e3]
        (repeat' (first | (refine gq67 (gqc0 r1 (gqc0 h1 (gqc0 h2 wk))) ?_; try with_reducible exact True.intro) | ((with_reducible refine And.intro ?_ ?_); focus (first | omega | rfl | decide | (simp; done)))))
        exact Again.next hlt ⟨H, _, rfl, hH, by rw [← hS2, List.append_assoc]; rfl⟩
      · have hin : inR p = true := by simp at h1 h2; simp [inR]; omega
        rw [if_pos hin] at hH'
        obtain ⟨hK, q, hq⟩ := keptI_put hH hxo (by simpa using h1) (by simpa using h2)
        rw [hH'] at hK hq
        rw [hq] at hf'
        unfold hPut at hH'
        cases ho : findP p.seq H 0 with
        | none =>
          rw [ho] at hf hH'
          (repeat' (first | (refine gq68 (gqc0 r1 (gqc0 g2 (gqc0 hf (gqc0 h1 (gqc0 h2 (gqc0 hH' (gqc0 s2 k3))))))) ?_; try with_reducible exact True.intro) | ((with_reducible refine And.intro ?_ ?_); focus (first | omega | rfl | decide | (simp; done)))))
          refine zkZ (k0 _) (fun e he => (hK e he).1) ?_
          rw [hGet, hq]
          (repeat' (first | (refine gq69 (gqc0 r1 (gqc0 r2 (gqc0 h1 (gqc0 h2 (gqc0 wk (gqc0 k2 hf')))))) ?_; try with_reducible exact True.intro) | ((with_reducible refine And.intro ?_ ?_); focus (first | omega | rfl | decide | (simp; done)))))
          exact Again.next hlt ⟨H', _, rfl, hK, by rw [← hS2, List.append_assoc]; rfl⟩
        | some o =>
          rw [ho] at hf hH'
          simp only at hH'
          cases h3 : decide (p.view > o.2.view)
          · rw [if_pos (by simp at h3; omega)] at hH'
            subst hH'
            have e2 : S' = S2 := by rw [← hS', ← hS2]
            subst e2
            (repeat' (first | (refine gq63 (gqc0 r1 (gqc0 g2 (gqc0 hf (gqc0 h1 (gqc0 h2 h3))))) ?_; try with_reducible exact True.intro) | ((with_reducible refine And.intro ?_ ?_); focus (first | omega | rfl | decide | (simp; done)))))
            refine zkZ (k0 _) (fun e he => (hK e he).1) ?_
            rw [hGet, hq]
            (repeat' (first | (refine gq69 (gqc0 r1 (gqc0 r2 (gqc0 h1 (gqc0 h2 (gqc0 wk (gqc0 k2 hf')))))) ?_; try with_reducible exact True.intro) | ((with_reducible refine And.intro ?_ ?_); focus (first | omega | rfl | decide | (simp; done)))))
            exact Again.next hlt ⟨H, _, rfl, hK, by rw [← hS2, List.append_assoc]; rfl⟩
          · rw [if_neg (by simp at h3; omega)] at hH'
            (repeat' (first | (refine gq70 (gqc0 r1 (gqc0 g2 (gqc0 hf (gqc0 h1 (gqc0 h2 (gqc0 h3 (gqc0 hH' (gqc0 s2 k3)))))))) ?_; try with_reducible exact True.intro) | ((with_reducible refine And.intro ?_ ?_); focus (first | omega | rfl | decide | (simp; done)))))
            refine zkZ (k0 _) (fun e he => (hK e he).1) ?_
            rw [hGet, hq]
            (repeat' (first | (refine gq69 (gqc0 r1 (gqc0 r2 (gqc0 h1 (gqc0 h2 (gqc0 wk (gqc0 k2 hf')))))) ?_; try with_reducible exact True.intro) | ((with_reducible refine And.intro ?_ ?_); focus (first | omega | rfl | decide | (simp; done)))))
            exact Again.next hlt ⟨H', _, rfl, hK, by rw [← hS2, List.append_assoc]; rfl⟩
  · have hd : decide ((k : Int) < (l.length : Int)) = false := by simp; omega
    (repeat' (first | (refine gq2 hd ?_; try with_reducible exact True.intro) | ((with_reducible refine And.intro ?_ ?_); focus (first | omega | rfl | decide | (simp; done)))))
    refine c_heLen (h := σ.length + 1) (m := σ.length) (l := H) ?_ ?_
    · exact ⟨by rw [zm]; rfl, by rw [zq]; rfl⟩
    have e1 : (hE H).length = H.length := by simp [hE, ents]
    have e2 : (mE H).length = H.length := by simp [mE, ents]
    (repeat' (first | (refine gq71 e2 ?_; try with_reducible exact True.intro) | ((with_reducible refine And.intro ?_ ?_); focus (first | omega | rfl | decide | (simp; done)))))
    (first | refine zg (by simp [Low_d, dmT, dm, dm1, pack, zc, zd, zb]) hl ?_ | refine ze (by simp [Low_d, dmT, dm, dm1, pack, zc, zd, zb]) hl ?_)
    rfl
end Go.Proofs.Ytcappjcojggehaa
