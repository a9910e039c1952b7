/- The law PreparedOne, from the contracts. -/
import Derived.Test.YtcappjcojggehaaGreatLaw15d
set_option linter.all false
set_option maxRecDepth 100000
set_option linter.unusedSimpArgs false
set_option linter.unusedVariables false
namespace Go.Proofs.YtcappjcojggehaaGreat
open Go.AW

abbrev caseC (q : TCase) : List AV := [.d (.int .i64 q.f), .d (.slice (q.bats.map fun l => [.slice (zeu l)])), .d (.slice (q.votes.map zfB)), .d (.slice (q.specs.map zjE)), .d (.int .i64 q.view), .d (.int .i64 q.low)]
theorem oneM_set (M : List (zoD × Nat)) (i : Nat) (v : zcv) (b : Nat) : (oneM M).set i (keyA v, .d (.int .u8 b)) = oneM (M.set i (zmx v, b)) := by
  simp only [oneM, List.map_set]; rfl
theorem oneM_add (M : List (zoD × Nat)) (v : zcv) (b : Nat) : oneM M ++ [(keyA v, .d (.int .u8 b))] = oneM (M ++ [(zmx v, b)]) := by
  simp [oneM, zmx]
theorem key_fit (v : zcv) : zcc (.ints 5) (keyA v) = true := by simp [zcc, zbx]
def zgE : List (Bool × List Ty) := [(true, tyCase), (false, [.int .u16])]
theorem gq68 {A P Q : Prop} (a : A) (h : Q) (e : A → P = Q := by intro a; simp -dsimp only [↓zcI, ↓zai, ↓zaH, ↓zcJ, ↓zcE, ↓zcC, ↓zcF, ↓zcD, ↓zaM, ↓zaI, ↓zaN, ↓zaJ, ↓zcG, ↓zaG, ↓zaO, ↓zaK, ↓zaP, ↓zaL, ↓zcB, ↓zcH, ↓zaF, ↓zaQ, ↓zcy, ↓zcx, ↓zcA, iN, bT, bF, eN, ↓zbL, ↓unC, ↓zH, ↓zw, ↓zx, ↓zB, ↓zK, ↓zaz, ↓zbv, ↓zY, ↓zbh, ↓zP, ↓zr, ↓zp, ↓zbj, ↓zf, ↓zU, ↓zF, ↓zan, ↓zas, ↓zc, ↓zC, ↓zj, ↓zl, ↓zab, ↓zbK, ↓zbJ, ↓zae, ↓zah, ↓zam, ↓zav, ↓zaB, ↓zg, ↓zW, ↓zy, ↓zi, ↓zJ, zbM, zaE, zaD, unA, zbQ, bnd, zcb, zQ, zag, zcd, dm, dm1, zM, zao, zcr, zcq, zS, Q0, Q1, Q2, Q3, Q4, Q5, zG, zh, zn, zq, zt, Q6, Q7, Q8, Q9, Q10, Q11, Q12, Q13, Q14, Nat.reduceAdd, Q15, Int.reduceToNat, Q16, Q17, Q18, Q19, Q20, reduceIte, Q21, Q22, zm, rep, zL, zcz, toD, zac, Q23, Q24, Q25, Q26, Q27, Q28, Nat.reduceLeDiff, Q29, Nat.reduceSub, Q30, Q31, Q32, sc, Q33, Q34, Q35, Q36, Q37, Q26, Q38, Q39, zfa, zeX, zeU, zfb, zbC, zeY, zeV, zeZ, zeW, zbB, zbD, zfd, zfe, Bool.not_true, Bool.not_false, List.length_map, Option.map_none, zby, zam, zlB, zav, oneM_add, a]; rfl) : P := (e a).mpr h
theorem gq69 {A P Q : Prop} (a : A) (h : Q) (e : A → P = Q := by intro a; simp -dsimp only [↓zcI, ↓zai, ↓zaH, ↓zcJ, ↓zcE, ↓zcC, ↓zcF, ↓zcD, ↓zaM, ↓zaI, ↓zaN, ↓zaJ, ↓zcG, ↓zaG, ↓zaO, ↓zaK, ↓zaP, ↓zaL, ↓zcB, ↓zcH, ↓zaF, ↓zaQ, ↓zcy, ↓zcx, ↓zcA, iN, bT, bF, eN, ↓zbL, ↓unC, ↓zH, ↓zw, ↓zx, ↓zB, ↓zK, ↓zaz, ↓zbv, ↓zY, ↓zbh, ↓zP, ↓zr, ↓zp, ↓zbj, ↓zf, ↓zU, ↓zF, ↓zan, ↓zas, ↓zc, ↓zC, ↓zj, ↓zl, ↓zab, ↓zbK, ↓zbJ, ↓zae, ↓zah, ↓zam, ↓zav, ↓zaB, ↓zg, ↓zW, ↓zy, ↓zi, ↓zJ, zbM, zaE, zaD, unA, zbQ, bnd, zcb, zQ, zag, zcd, dm, dm1, zM, zao, zcr, zcq, zS, Q0, Q1, Q2, Q3, Q4, Q5, zG, zh, zn, zq, zt, Q6, Q7, Q8, Q9, Q10, Q11, Q12, Q13, Q14, Nat.reduceAdd, Q15, Int.reduceToNat, Q16, Q17, Q18, Q19, Q20, reduceIte, Q21, Q22, zm, rep, zL, zcz, toD, zac, Q23, Q24, Q25, Q26, Q27, Q28, Nat.reduceLeDiff, Q29, Nat.reduceSub, Q30, Q31, Q32, sc, Q33, Q34, Q35, Q36, Q37, Q26, Q38, Q39, zfa, zeX, zeU, zfb, zbC, zeY, zeV, zeZ, zeW, zbB, zbD, zfd, zfe, Bool.not_true, Bool.not_false, List.length_map, Option.map_some, zby, zam, zlB, zav, oneM_set, a]; rfl) : P := (e a).mpr h
theorem gq70 {A P Q : Prop} (a : A) (h : Q) (e : A → P = Q := by intro a; simp -dsimp only [↓zcI, ↓zai, ↓zaH, ↓zcJ, ↓zcE, ↓zcC, ↓zcF, ↓zcD, ↓zaM, ↓zaI, ↓zaN, ↓zaJ, ↓zcG, ↓zaG, ↓zaO, ↓zaK, ↓zaP, ↓zaL, ↓zcB, ↓zcH, ↓zaF, ↓zaQ, ↓zcy, ↓zcx, ↓zcA, iN, bT, bF, eN, ↓zbL, ↓unC, ↓zH, ↓zw, ↓zx, ↓zB, ↓zK, ↓zaz, ↓zbv, ↓zY, ↓zbh, ↓zP, ↓zr, ↓zp, ↓zbj, ↓zf, ↓zU, ↓zF, ↓zan, ↓zas, ↓zc, ↓zC, ↓zj, ↓zl, ↓zab, ↓zbK, ↓zbJ, ↓zae, ↓zah, ↓zam, ↓zav, ↓zaB, ↓zg, ↓zW, ↓zy, ↓zi, ↓zJ, zbM, zaE, zaD, unA, zbQ, bnd, zcb, zQ, zag, zcd, dm, dm1, zM, zao, zcr, zcq, zS, Q0, Q1, Q2, Q3, Q4, Q5, zG, zh, zn, zq, zt, Q6, Q7, Q8, Q9, Q10, Q11, Q12, Q13, Q14, Nat.reduceAdd, Q15, Int.reduceToNat, Q16, Q17, Q18, Q19, Q20, reduceIte, Q21, Q22, zm, rep, zL, zcz, toD, zac, Q23, Q24, Q25, Q26, Q27, Q28, Nat.reduceLeDiff, Q29, Nat.reduceSub, Q30, Q31, Q32, sc, Q33, Q34, Q35, Q36, Q37, Q26, Q38, Q39, zfa, zeX, zeU, zfb, zbC, zeY, zeV, zeZ, zeW, zbB, zbD, zfd, zfe, Bool.not_true, Bool.not_false, List.length_map, Option.map_some, zby, zam, zlB, a]; rfl) : P := (e a).mpr h
theorem gq71 {A P Q : Prop} (a : A) (h : Q) (e : A → P = Q := by intro a; simp -dsimp only [↓zcI, ↓zai, ↓zaH, ↓zcJ, ↓zcE, ↓zcC, ↓zcF, ↓zcD, ↓zaM, ↓zaI, ↓zaN, ↓zaJ, ↓zcG, ↓zaG, ↓zaO, ↓zaK, ↓zaP, ↓zaL, ↓zcB, ↓zcH, ↓zaF, ↓zaQ, ↓zcy, ↓zcx, ↓zcA, iN, bT, bF, eN, ↓zbL, ↓unC, ↓zH, ↓zw, ↓zx, ↓zB, ↓zK, ↓zaz, ↓zbv, ↓zY, ↓zbh, ↓zP, ↓zr, ↓zp, ↓zbj, ↓zf, ↓zU, ↓zF, ↓zan, ↓zas, ↓zc, ↓zC, ↓zj, ↓zl, ↓zab, ↓zbK, ↓zbJ, ↓zae, ↓zah, ↓zam, ↓zav, ↓zaB, ↓zg, ↓zW, ↓zy, ↓zi, ↓zJ, zbM, zaE, zaD, unA, zbQ, bnd, zcb, zQ, zag, zcd, dm, dm1, zM, zao, zcr, zcq, zS, Q0, Q1, Q2, Q3, Q4, Q5, zG, zh, zn, zq, zt, Q6, Q7, Q8, Q9, Q10, Q11, Q12, Q13, Q14, Nat.reduceAdd, Q15, Int.reduceToNat, Q16, Q17, Q18, Q19, Q20, reduceIte, Q21, Q22, zm, rep, zL, zcz, toD, zac, Q23, Q24, Q25, Q26, Q27, Q28, Nat.reduceLeDiff, Q29, Nat.reduceSub, Q30, Q31, Q32, sc, Q33, Q34, Q35, Q36, Q37, Q26, Q38, Q39, zfa, zeX, zeU, zfb, zbC, zeY, zeV, zeZ, zeW, zbB, zbD, zfd, zfe, Bool.not_true, Bool.not_false, List.length_map, zjE, a]; rfl) : P := (e a).mpr h
theorem gq72 {A P Q : Prop} (a : A) (h : Q) (e : A → P = Q := by intro a; simp -dsimp only [↓zcI, ↓zai, ↓zaH, ↓zcJ, ↓zcE, ↓zcC, ↓zcF, ↓zcD, ↓zaM, ↓zaI, ↓zaN, ↓zaJ, ↓zcG, ↓zaG, ↓zaO, ↓zaK, ↓zaP, ↓zaL, ↓zcB, ↓zcH, ↓zaF, ↓zaQ, ↓zcy, ↓zcx, ↓zcA, iN, bT, bF, eN, ↓zbL, ↓unC, ↓zH, ↓zw, ↓zx, ↓zB, ↓zK, ↓zaz, ↓zbv, ↓zY, ↓zbh, ↓zP, ↓zr, ↓zp, ↓zbj, ↓zf, ↓zU, ↓zF, ↓zan, ↓zas, ↓zc, ↓zC, ↓zj, ↓zl, ↓zab, ↓zbK, ↓zbJ, ↓zae, ↓zah, ↓zam, ↓zav, ↓zaB, ↓zg, ↓zW, ↓zy, ↓zi, ↓zJ, zbM, zaE, zaD, unA, zbQ, bnd, zcb, zQ, zag, zcd, dm, dm1, zM, zao, zcr, zcq, zS, Q0, Q1, Q2, Q3, Q4, Q5, zG, zh, zn, zq, zt, Q6, Q7, Q8, Q9, Q10, Q11, Q12, Q13, Q14, Nat.reduceAdd, Q15, Int.reduceToNat, Q16, Q17, Q18, Q19, Q20, reduceIte, Q21, Q22, zm, rep, zL, zcz, toD, zac, Q23, Q24, Q25, Q26, Q27, Q28, Nat.reduceLeDiff, Q29, Nat.reduceSub, Q30, Q31, Q32, sc, Q33, Q34, Q35, Q36, Q37, Q26, Q38, Q39, zfa, zeX, zeU, zfb, zbC, zeY, zeV, zeZ, zeW, zbB, zbD, zfd, zfe, Bool.not_true, Bool.not_false, List.length_map, prepD, a]; rfl) : P := (e a).mpr h
set_option maxHeartbeats 2000000 in
theorem zlF (xs : List AV) (n : Nat) (hn : n ≤ 1048576) (h : ArgsOk zgE xs n) : zN Tryz.prog zdH xs [] fun r _ => r = .d (.bool true) := by
  obtain ⟨ds, xs1, m1, hf, hb1, rfl, h⟩ := h
  obtain ⟨q, rfl, hq⟩ := dec_case hf (by omega)
  obtain ⟨ds, xs2, m2, hf, hb2, rfl, rfl⟩ := h
  obtain ⟨d, rfl, h1⟩ := one_of hf
  obtain ⟨z, rfl, hz⟩ := dec_set h1
  show zN Tryz.prog zdH [.agg (caseC q), .d (.int .u16 z)] [] _
  clear hf hb1 hb2 h1
  generalize ([] : List zb) = σ
  refine zk zfQ.is rfl fun hl _ => zfQ.goes ?_
  have hvl : (q.votes.map zfB).length = q.votes.length := List.length_map ..
  have hbl : (q.bats.map fun l => [D.slice (zeu l)]).length = q.bats.length := List.length_map ..
  have hsl : (q.specs.map zjE).length = q.specs.length := List.length_map ..
  simp only [zgb, iN, bT, bF, eN]
  (repeat' first | refine gq1 ?_ | with_reducible first | exact ⟨⟩ | refine zA ?_ | fail)
  refine c_live15 ?_
  (repeat' first | refine gq1 ?_ | with_reducible first | exact ⟨⟩ | refine zA ?_ | fail)
  refine c_rCheckF ?_
  by_cases h0 : q.f < 1 ∨ q.f > 4
  · rw [zdu, if_pos h0]
    (repeat' first | refine gq2 (show ((120 : Int) != 0) = true from rfl) ?_ | with_reducible first | exact ⟨⟩ | refine zA ?_ | fail)
    (first | refine zar hl ?_ | refine zaq hl ?_)
    rfl
  rw [zdu, if_neg h0]
  (repeat' first | refine gq2 (show ((0 : Int) != 0) = false from rfl) ?_ | with_reducible first | exact ⟨⟩ | refine zA ?_ | fail)
  refine c_rAll ?_
  (repeat' first | refine gq1 ?_ | with_reducible first | exact ⟨⟩ | refine zA ?_ | fail)
  refine c_rBoth hz (all_small _) ?_
  (repeat' first | refine gq1 ?_ | with_reducible first | exact ⟨⟩ | refine zA ?_ | fail)
  refine c_rMany (both_small _ _) ?_
  cases hm : decide (((memF (zmL z (allF (zcw 3 q.f).toNat))).length : Int) > q.f)
  rotate_left
  · (repeat' first | refine gq2 hm ?_ | with_reducible first | exact ⟨⟩ | refine zA ?_ | fail)
    (first | refine zar hl ?_ | refine zaq hl ?_)
    rfl
  have hfew := faulty_few h0 (by simpa using hm)
  obtain ⟨N, hN⟩ : ∃ N, min q.bats.length 200 + 1 = N := ⟨_, rfl⟩
  have hN1 : 0 < N ∧ N ≤ 201 := by omega
  have hmin : (if (200 : Int) < (q.bats.length : Int) then (200 : Int) else (q.bats.length : Int)) = ((N - 1 : Nat) : Int) := by split <;> omega
  have hw1 : IntKind.i64.wrap (((N - 1 : Nat) : Int) + 1) = (N : Int) := by rw [zaj (by omega) (by omega)]; omega
  have hw2 : IntKind.u8.wrap (N : Int) = (N : Int) := ziL (by omega)
  have hNz : ((N : Int) == 0) = false := by simp; omega
  have hvl2 : q.votes.length ≤ 536870912 := by have := hq.sum; omega
  (repeat' first | refine gq2 (zu hm (zu hbl (zu hvl (zu hmin (zu hw1 hw2))))) ?_ | with_reducible first | exact ⟨⟩ | refine zA ?_ | fail)
  refine zaW q.votes.length (fun k vs s => ∃ (M : List (zoD × Nat)) (kept : List zcv) (U : List zb), vs = [.own (σ.length + 2) (kept.map zfB), .d (.int .i64 k)] ∧ s = σ ++ (.box (caseC q) :: .map (oneM M) :: .tok 5 kept.length :: U) ∧
      kept.length ≤ k ∧ (∀ v ∈ kept, voteR v) ∧ KeI (inF z) N (M, kept))
    (.tok 0 [] 5 rfl (by simp) (.refl _ _)) ⟨[], [], [], by simp, by simp [oneM], by simp, by simp, by simp, by simp⟩ ?_
  rintro k vs s hk ⟨M, kept, U, rfl, rfl, hkl, hkr, hKI⟩
  have hkl2 : (kept.map zfB).length = kept.length := List.length_map ..
  by_cases hlt : k < q.votes.length
  · have hd : decide ((k : Int) < (q.votes.length : Int)) = true := by simp; omega
    have hx : q.votes[k]? = some q.votes[k] := by simp [hlt]
    have hxr := hq.votes _ (List.getElem_mem hlt)
    have hgx := zaT (f := zfB) hx
    obtain ⟨v, hve⟩ : ∃ v, q.votes[k] = v := ⟨_, rfl⟩
    rw [hve] at hx hgx hxr
    have hw : IntKind.i64.wrap ((k : Int) + 1) = ((k + 1 : Nat) : Int) := by rw [zaj (by omega) (by omega)]; rfl
    have hrem : Int.tmod (v.batch : Int) (N : Int) = ((v.batch % N : Nat) : Int) := by rw [Int.tmod_eq_emod_of_nonneg (show (0 : Int) ≤ (v.batch : Int) by omega)]; rfl
    have hf := zna v M 0
    have hft := key_fit v
    have hnx := keI (v := v) hN1.1 hKI
    obtain ⟨b, hb⟩ : ∃ b, v.batch % N = b := ⟨_, rfl⟩
    have hbN : b < N := hb ▸ Nat.mod_lt _ hN1.1
    unfold keepV at hnx
    rw [hb] at hrem hnx
    have hvr' : voteR { v with batch := b } := ⟨hxr.1, hxr.2.1, hxr.2.2.1, hxr.2.2.2.1, by simp only; omega⟩
    have hkr' : ∀ w ∈ kept ++ [{ v with batch := b }], voteR w := fun w hw => by
      rcases List.mem_append.1 hw with hw | hw
      · exact hkr w hw
      · simp at hw; subst hw; exact hvr'
    obtain ⟨kept2, hk2⟩ : ∃ l, kept ++ [{ v with batch := b }] = l := ⟨_, rfl⟩
    have hl1 : kept.length + 1 = kept2.length := by rw [← hk2]; simp
    have hl2 : kept.map zfB ++ [[.int .i64 v.key, .int .i64 v.kind, .int .i64 v.view, .int .i64 v.seq, .int .u8 b]] = kept2.map zfB := by rw [← hk2]; simp [zfB]
    rw [hk2] at hkr' hnx
    cases ho : zen (zmx v) M 0 with
    | none =>
      rw [ho] at hf hnx
      (repeat' first | refine gq68 (zu hd (zu hgx (zu hvl (zu hw1 (zu hw2 (zu hrem (zu hNz (zu hf (zu hft (zu hkl2 (zu hw (zu hl1 hl2)))))))))))) ?_ | with_reducible first | exact ⟨⟩ | refine zA ?_ | fail)
      exact zaR.next hlt ⟨_, kept2, _, rfl, rfl, by omega, hkr', hnx⟩
    | some o =>
      obtain ⟨i, had⟩ := o
      rw [ho] at hf hnx
      simp only at hnx
      cases h1 : ((had : Int) != (b : Int))
      · have h1' : had = b := by simp at h1; omega
        rw [if_neg (by simp [h1'])] at hnx
        (repeat' first | refine gq69 (zu hd (zu hgx (zu hvl (zu hw1 (zu hw2 (zu hrem (zu hNz (zu hf (zu hft (zu h1 (zu hkl2 (zu hw (zu hl1 hl2))))))))))))) ?_ | with_reducible first | exact ⟨⟩ | refine zA ?_ | fail)
        exact zaR.next hlt ⟨_, kept2, _, rfl, rfl, by omega, hkr', hnx⟩
      · have h1' : had ≠ b := by simp at h1; omega
        (repeat' first | refine gq70 (zu hd (zu hgx (zu hvl (zu hw1 (zu hw2 (zu hrem (zu hNz (zu hf (zu hft h1))))))))) ?_ | with_reducible first | exact ⟨⟩ | refine zA ?_ | fail)
        refine c_rIn hz ?_
        cases h2 : inF z v.key
        · rw [if_pos ⟨h1', h2⟩] at hnx
          (repeat' first | refine gq2 hw ?_ | with_reducible first | exact ⟨⟩ | refine zA ?_ | fail)
          exact zaR.next hlt ⟨M, kept, _, rfl, rfl, by omega, hkr, hnx⟩
        · rw [if_neg (by simp [h2])] at hnx
          (repeat' first | refine gq69 (zu hw1 (zu hw2 (zu hrem (zu hNz (zu hf (zu hft (zu hkl2 (zu hw (zu hl1 hl2))))))))) ?_ | with_reducible first | exact ⟨⟩ | refine zA ?_ | fail)
          exact zaR.next hlt ⟨_, kept2, _, rfl, rfl, by omega, hkr', hnx⟩
  · have hd : decide ((k : Int) < (q.votes.length : Int)) = false := by simp; omega
    have htk : List.take ((N - 1 : Nat) : Int).toNat (q.bats.map fun l => [D.slice (zeu l)]) = (q.bats.take (N - 1)).map fun l => [D.slice (zeu l)] := by rw [List.map_take]; rfl
    have hb1 : ∀ e ∈ q.bats.map (fun l => [D.slice (zeu l)]), e.length = 1 := zjI (f := fun l => [D.slice (zeu l)]) (fun _ => rfl) q.bats
    (repeat' first | refine gq2 (zu hd (zu hbl (zu hmin htk))) ?_ | with_reducible first | exact ⟨⟩ | refine zA ?_ | fail)
    rw [← List.map_take]
    have hq2 := okC_less hq (m := N - 1) (votes := kept) (by omega) hkr
    obtain ⟨q2, hq2e⟩ : ∃ c : TCase, ({ q with bats := q.bats.take (N - 1), votes := kept } : TCase) = c := ⟨_, rfl⟩
    have e1 : q2.bats = q.bats.take (N - 1) := by rw [← hq2e]
    have e2 : q2.votes = kept := by rw [← hq2e]
    have e3 : q2.specs = q.specs := by rw [← hq2e]
    have e4 : q2.f = q.f := by rw [← hq2e]
    have e5 : q2.view = q.view := by rw [← hq2e]
    have e6 : q2.low = q.low := by rw [← hq2e]
    rw [hq2e] at hq2
    rw [← e1, ← e3, ← e4, ← e5, ← e6]
    rw [← e3] at hsl
    rw [← e2] at hKI ⊢
    refine begun_case hq2 fun C => ?_
    have hI := begI hq2.ops hq2.sum
    have hSg := sig_beg q2.bats q2.votes
    have hKe := keI_kept hKI
    simp only at hKe
    obtain ⟨B, hB⟩ : ∃ B, begF q2.bats q2.votes = B := ⟨_, rfl⟩
    rw [hB] at hI hSg ⊢
    obtain ⟨c, hc⟩ : ∃ c, σ ++ zb.box [.d (.int .i64 q2.f), .d (.slice (q2.bats.map fun l => [.slice (zeu l)])), .own (σ.length + 2) (q2.votes.map zfB), .d (.slice (q2.specs.map zjE)), .d (.int .i64 q2.view), .d (.int .i64 q2.low)] :: .map (oneM M) :: .tok 5 q2.votes.length :: U = c := ⟨_, rfl⟩
    rw [hc]
    have hc0 : ∀ τ, (c ++ τ)[σ.length]? = some _ := fun τ => by rw [← hc, List.append_assoc, zn]; rfl
    obtain ⟨S, hS⟩ : ∃ S, c ++ endO c.length C B = S := ⟨_, rfl⟩
    have hcs : ∀ τ, (S ++ τ)[σ.length]? = some _ := fun τ => by rw [← hS, List.append_assoc]; exact hc0 _
    have st : ∀ τ, (S ++ τ)[c.length + 9]? = some (.box [.box (c.length + 2) 0, .box (c.length + 5) 0, .box (c.length + 7) 0, .box (c.length + 8) 0, .d (.slice (bsE B.bs)), .d (.slice (dsE B.ds)), .d (.slice (zaY B.ss))]) := fun τ => zaa (hS ▸ end_st)
    have tt : zcT S _ _ _ B.L := hS ▸ end_tab
    have tl : zcU S _ _ _ B.G := hS ▸ end_led
    have hpre : ∃ T, S = σ ++ T := ⟨_, by rw [← hS, ← hc, List.append_assoc]⟩
    have hcs0 := hcs []
    rw [List.append_nil] at hcs0
    rw [hS]
    have h1 := hI.bl
    have h2 := hI.dl
    have h3 := hI.ss0
    have h4 := hI.ss1
    have h5 := hI.led
    have hbl := hq2.bl
    have hsl2 := hq2.sl
    (repeat' first | refine gq2 (zu hcs0 hsl) ?_ | with_reducible first | exact ⟨⟩ | refine zA ?_ | fail)
    refine zaW q2.specs.length (fun k vs s => ∃ (good : List zcs) (U : List zb), vs = [.own S.length (zlu good), .d (.int .i64 k)] ∧ s = S ++ (.tok 7 good.length :: U) ∧ good.length ≤ k ∧ ∀ p ∈ good, zhe B.L B.G q2.f p = true)
      (.tok 0 [] 7 rfl (by simp) (.refl _ _)) ⟨[], [], rfl, by simp, by simp, by simp⟩ ?_
    rintro j vs s hj ⟨good, T, rfl, rfl, hgl, hgs⟩
    have hgl2 : (zlu good).length = good.length := List.length_map ..
    by_cases hlt : j < q2.specs.length
    · have hd : decide ((j : Int) < (q2.specs.length : Int)) = true := by simp; omega
      have hx : q2.specs[j]? = some q2.specs[j] := by simp [hlt]
      have hxs := hq2.specs _ (List.getElem_mem hlt)
      have hgx := zaT (f := zjE) hx
      obtain ⟨p, hpe⟩ : ∃ p, q2.specs[j] = p := ⟨_, rfl⟩
      rw [hpe] at hx hgx hxs
      have hw : IntKind.i64.wrap ((j : Int) + 1) = ((j + 1 : Nat) : Int) := by rw [zaj (by omega) (by omega)]; rfl
      (repeat' first | refine gq71 (zu hd (zu hgx hsl)) ?_ | with_reducible first | exact ⟨⟩ | refine zA ?_ | fail)
      refine zoz (p := p) (st _) (by omega) h2 (by omega) h3 (by omega) hxs.1.2.2.2.1 hxs.1.2.2.2.2 hxs.2 ?_
      have hM := zjX hI (p := p) hxs.2
      obtain ⟨X, hMe⟩ : ∃ X, zlE B.bs B.ds B.ss p = X := ⟨_, rfl⟩
      rw [hMe] at hM ⊢
      (repeat' first | refine gq2 (zu st hcs) ?_ | with_reducible first | exact ⟨⟩ | refine zA ?_ | fail)
      refine zmg (p := X) (tt.app _) (tl.app _) hI.tab (by omega) hM ?_
      cases hv : zhe B.L B.G q2.f X
      · (repeat' first | refine gq2 hw ?_ | with_reducible first | exact ⟨⟩ | refine zA ?_ | fail)
        exact zaR.next hlt ⟨good, _, rfl, rfl, by omega, hgs⟩
      · obtain ⟨good2, hg2⟩ : ∃ l, good ++ [X] = l := ⟨_, rfl⟩
        have g1 : good.length + 1 = good2.length := by rw [← hg2]; simp
        have g2 : zlu good ++ [[.int .i64 X.view, .int .i64 X.seq, .int .i64 X.dig, .int .i64 X.fkey, .int .i64 X.fdig, .slice (zaY X.signs), .slice (zbs X.batch)]] = zlu good2 := by rw [← hg2]; simp [prepD]
        (repeat' first | refine gq2 (zu hw (zu hgl2 (zu g1 g2))) ?_ | with_reducible first | exact ⟨⟩ | refine zA ?_ | fail)
        refine zaR.next hlt ⟨good2, _, rfl, rfl, by omega, fun y hy => ?_⟩
        rw [← hg2] at hy
        rcases List.mem_append.1 hy with hy | hy
        · exact hgs y hy
        · simp at hy; subst hy; exact hv
    · have hd : decide ((j : Int) < (q2.specs.length : Int)) = false := by simp; omega
      have hone : ∀ a ∈ good, ∀ b ∈ good, a.view = b.view → a.seq = b.seq → a.dig = b.dig := fun a ha b hb hv hs => one_plain hSg hKe (by rw [e4]; exact hfew) (hgs a ha) (hgs b hb) hv hs
      obtain ⟨V, hV⟩ : ∃ V, S ++ (zb.tok 7 good.length :: T) = V := ⟨_, rfl⟩
      have hpre2 : ∃ T, V = σ ++ T := by obtain ⟨T, rfl⟩ := hpre; exact ⟨_, by rw [← hV, List.append_assoc]⟩
      rw [hV]
      have hgn : good.length ≤ 1048576 := by omega
      (repeat' first | refine gq2 (zu hd hgl2) ?_ | with_reducible first | exact ⟨⟩ | refine zA ?_ | fail)
      refine zV good.length (fun i vs s => vs = [.d (.int .i64 i)] ∧ ∃ T, s = σ ++ T) ⟨rfl, hpre2⟩ ?_
      rintro i vs s hi ⟨rfl, T2, rfl⟩
      by_cases hil : i < good.length
      · have hd2 : decide ((i : Int) < (good.length : Int)) = true := by simp; omega
        have hy : good[i]? = some good[i] := by simp [hil]
        have hym := List.getElem_mem hil
        have hgy := zaT (f := prepD) hy
        obtain ⟨a, hae⟩ : ∃ a, good[i] = a := ⟨_, rfl⟩
        rw [hae] at hy hgy hym
        have h7 := preps_7 good
        have hti : (List.take i (zlu good)).length = i := by rw [List.length_take]; omega
        have hw : IntKind.i64.wrap ((i : Int) + 1) = ((i + 1 : Nat) : Int) := by rw [zaj (by omega) (by omega)]; rfl
        (repeat' first | refine gq72 (zu hd2 (zu hgl2 (zu hgy hti))) ?_ | with_reducible first | exact ⟨⟩ | refine zA ?_ | fail)
        refine zV i (fun j vs s => vs = [.d (.int .i64 j)] ∧ ∃ T, s = σ ++ (T2 ++ (.box [.d (.int .i64 a.view), .d (.int .i64 a.seq), .d (.int .i64 a.dig), .d (.int .i64 a.fkey), .d (.int .i64 a.fdig), .d (.slice (zaY a.signs)), .d (.slice (zbs a.batch))] :: T))) ⟨rfl, [], rfl⟩ ?_
        rintro j vs s hj ⟨rfl, T3, rfl⟩
        by_cases hjl : j < i
        · have hd3 : decide ((j : Int) < (i : Int)) = true := by simp; omega
          have hz2 : good[j]? = some good[j] := by simp [show j < good.length by omega]
          have hzm := List.getElem_mem (show j < good.length by omega)
          have hgz0 := zaT (f := prepD) hz2
          have hgz : (List.take i (zlu good))[j]? = some (prepD good[j]) := by rw [List.getElem?_take, if_pos hjl]; exact hgz0
          obtain ⟨b, hbe⟩ : ∃ b, good[j] = b := ⟨_, rfl⟩
          rw [hbe] at hgz hzm
          have hw2 : IntKind.i64.wrap ((j : Int) + 1) = ((j + 1 : Nat) : Int) := by rw [zaj (by omega) (by omega)]; rfl
          cases k1 : (a.view == b.view)
          · (repeat' first | refine gq72 (zu hd3 (zu hgz (zu hti (zu k1 hw2)))) ?_ | with_reducible first | exact ⟨⟩ | refine zA ?_ | fail)
            exact zaR.next hjl ⟨rfl, _, rfl⟩
          cases k2 : (a.seq == b.seq)
          · (repeat' first | refine gq72 (zu hd3 (zu hgz (zu hti (zu k1 (zu k2 hw2))))) ?_ | with_reducible first | exact ⟨⟩ | refine zA ?_ | fail)
            exact zaR.next hjl ⟨rfl, _, rfl⟩
          have k3 : (a.dig != b.dig) = false := by
            have := hone a hym b hzm (by simpa using k1) (by simpa using k2)
            simp [this]
          (repeat' first | refine gq72 (zu hd3 (zu hgz (zu hti (zu k1 (zu k2 (zu k3 hw2)))))) ?_ | with_reducible first | exact ⟨⟩ | refine zA ?_ | fail)
          exact zaR.next hjl ⟨rfl, _, rfl⟩
        · have hd3 : decide ((j : Int) < (i : Int)) = false := by simp; omega
          (repeat' first | refine gq2 (zu hd3 (zu hti hw)) ?_ | with_reducible first | exact ⟨⟩ | refine zA ?_ | fail)
          exact zaR.next hil ⟨rfl, _, rfl⟩
      · have hd2 : decide ((i : Int) < (good.length : Int)) = false := by simp; omega
        (repeat' first | refine gq2 hd2 ?_ | with_reducible first | exact ⟨⟩ | refine zA ?_ | fail)
        (first | refine zar hl ?_ | refine zaq hl ?_)
        rfl
end Go.Proofs.YtcappjcojggehaaGreat
