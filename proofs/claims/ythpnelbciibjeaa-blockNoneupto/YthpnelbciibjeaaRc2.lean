/- Contracts: what is wrong with batches, on both sides. -/
import Derived.Test.YthpnelbciibjeaaOpC
set_option linter.all false
set_option maxRecDepth 100000
set_option linter.unusedSimpArgs false
set_option linter.unusedVariables false
namespace Go.Proofs.Ythpnelbciibjeaa
open Go.AW

theorem wk1 (k : Nat) (h : k ≤ 1073741824) : IntKind.i64.wrap ((k : Int) + 1) = ((k + 1 : Nat) : Int) := by rw [zbJ (by omega) (by omega)]; rfl
theorem zmy {A P Q : Prop} (a : A) (h : Q) (e : A → Hd Q → P := by intro a h; (repeat' first | simp -dsimp only [↓ziv, ↓zbi, ↓zcW, ↓zix, ↓zio, ↓zim, ↓ziq, ↓zin, ↓zdb, ↓zcX, ↓zdc, ↓zcY, ↓zir, ↓zcU, ↓zdd, ↓zcZ, ↓zde, ↓zda, ↓zil, ↓ziu, ↓zcS, ↓zdf, ↓zia, ↓zhZ, ↓zij, iN, bT, bF, eN, ↓zeU, ↓unC, ↓zah, ↓zR, ↓zS, ↓zad, ↓zaG, ↓zbl, ↓zea, ↓zaj, ↓zcA, ↓zau, ↓zu, ↓zo, ↓zcT, ↓zi, ↓zax, ↓zac, ↓zbm, ↓zbg, ↓zd, ↓zK, ↓zq, ↓zJ, ↓zaI, ↓zeE, ↓zfi, ↓zat, ↓zaW, ↓zaY, ↓zbC, ↓zck, ↓zG, ↓zaA, ↓zQ, ↓zF, ↓zaE, zfb, zcF, zcr, unA, zfm, bnd, zfY, zap, zaw, zfQ, dm, dm1, zA, zaT, zgP, zgO, zZ, Q0, Q1, Q2, Q3, Q4, Q5, zaD, zI, zr, zav, zW, Q6, Q7, Q8, Q9, Q10, Q11, Q12, Q13, Q14, Nat.reduceAdd, Q15, Int.reduceToNat, Q16, Q17, Q18, Q19, Q20, reduceIte, Q21, Q22, zD, rep, zT, zgN, toD, zan, Q23, Q24, Q25, Q26, Q27, Q28, Nat.reduceLeDiff, Q29, Nat.reduceSub, Q30, Q31, Q32, sc, Q33, Q34, Q35, Q36, Q37, Q26, Q38, Q39, n0gt, n1gt, n2gt, n0eq, zhd, n1eq, n2eq, n0ne, n1ne, zhc, zhe, i0ne, i0eq, Bool.not_true, Bool.not_false, List.length_map, a] | with_reducible refine andA ?_ | fail); exact h.go) : P := e a ⟨h⟩
theorem gq23 {A P Q : Prop} (a : A) (h : Q) (e : A → Hd Q → P := by intro a h; (repeat' first | simp -dsimp only [↓ziv, ↓zbi, ↓zcW, ↓zix, ↓zio, ↓zim, ↓ziq, ↓zin, ↓zdb, ↓zcX, ↓zdc, ↓zcY, ↓zir, ↓zcU, ↓zdd, ↓zcZ, ↓zde, ↓zda, ↓zil, ↓ziu, ↓zcS, ↓zdf, ↓zia, ↓zhZ, ↓zij, iN, bT, bF, eN, ↓zeU, ↓unC, ↓zah, ↓zR, ↓zS, ↓zad, ↓zaG, ↓zbl, ↓zea, ↓zaj, ↓zcA, ↓zau, ↓zu, ↓zo, ↓zcT, ↓zi, ↓zax, ↓zac, ↓zbm, ↓zbg, ↓zd, ↓zK, ↓zq, ↓zJ, ↓zaI, ↓zeE, ↓zfi, ↓zat, ↓zaW, ↓zaY, ↓zbC, ↓zck, ↓zG, ↓zaA, ↓zQ, ↓zF, ↓zaE, zfb, zcF, zcr, unA, zfm, bnd, zfY, zap, zaw, zfQ, dm, dm1, zA, zaT, zgP, zgO, zZ, Q0, Q1, Q2, Q3, Q4, Q5, zaD, zI, zr, zav, zW, Q6, Q7, Q8, Q9, Q10, Q11, Q12, Q13, Q14, Nat.reduceAdd, Q15, Int.reduceToNat, Q16, Q17, Q18, Q19, Q20, reduceIte, Q21, Q22, zD, rep, zT, zgN, toD, zan, Q23, Q24, Q25, Q26, Q27, Q28, Nat.reduceLeDiff, Q29, Nat.reduceSub, Q30, Q31, Q32, sc, Q33, Q34, Q35, Q36, Q37, Q26, Q38, Q39, n0gt, n1gt, n2gt, n0eq, zhd, n1eq, n2eq, n0ne, n1ne, zhc, zhe, i0ne, i0eq, Bool.not_true, Bool.not_false, List.length_map, Bool.and_false, Bool.and_self, Bool.false_and, Bool.not_false, Bool.not_true, Bool.true_and, Int.toNat_natCast, Int.toNat_zero, List.drop_zero, List.length_map, List.length_nil, List.nil_append, List.take_length, Nat.sub_zero, Nat.zero_add, Option.isSome_none, Option.isSome_some, Option.map_none, Option.map_some, zbN, beq_self_eq_true, bne_self_eq_false, zbL, zcn, opA, signD, zeb, a] | with_reducible refine andA ?_ | fail); exact h.go) : P := e a ⟨h⟩
theorem zkF {σ : List zc} {b : List zh} (hb : okB b) {K : AV → List zc → Prop} (hK : K (.d (.int .i64 (zC b))) σ) : zj Try.prog zbH [.d (.slice (zkG b))] σ K := by
  refine zhr zhX fun hl => ?_
  have fin : ∀ z, zC b = z → K (.d (.int .i64 z)) σ := fun z h => h ▸ hK
  clear hK
  obtain ⟨hb1, hb2⟩ := hb
  simp only [zeN, iN, bT, bF, eN, zl0]
  cases h4 : decide ((b.length : Int) > 4)
  rotate_left
  · refine zmy h4 ?_
    refine zbD hl ?_
    exact fin _ (by rw [zC, if_pos (by simp at h4; omega)])
  have h4' : ¬ b.length > 4 := by simp at h4; omega
  refine zmy h4 ?_
  refine zV b.length (fun k vs s => vs = [.d (.int .i64 k)] ∧ (∃ T, s = σ ++ T) ∧ zhi (b.take k) = 0) ⟨rfl, ⟨[], by simp⟩, rfl⟩ ?_
  rintro k vs s hk ⟨rfl, ⟨T, rfl⟩, he⟩
  by_cases hlt : k < b.length
  · have hd : decide ((k : Int) < (b.length : Int)) = true := by simp; omega
    have hx : b[k]? = some b[k] := by simp [hlt]
    have hbx := hb2 _ (List.getElem_mem hlt)
    have hgx := zef (f := zeb) hx
    obtain ⟨x, hxe⟩ : ∃ x, b[k] = x := ⟨_, rfl⟩
    rw [hxe] at hx hgx hbx
    have bad : errF x ≠ 0 → K (.d (.int .i64 (errF x))) σ := fun h => fin _ (by rw [zC, if_neg h4', if_pos (by rw [zne hx he h]; exact h)]; exact zne hx he h)
    refine gq23 (zgp hd hgx) ?_
    refine c_rqCheck (x := x) hbx ?_
    cases h1 : (zao x != 0)
    rotate_left
    · have h1' : zao x ≠ 0 := by simpa using h1
      refine zmy h1 ?_
      refine zbD hl ?_
      have e : errF x = zao x := by rw [errF, if_pos h1']
      rw [e] at bad
      exact bad h1'
    refine zmy h1 ?_
    have h1' : ¬ zao x ≠ 0 := by simpa using h1
    have e : errF x = zaF x.key x.dig := by rw [errF, if_neg h1']
    refine zju ?_
    cases h2 : (zaF x.key x.dig != 0)
    rotate_left
    · refine zmy h2 ?_
      refine zbD hl ?_
      rw [e] at bad
      exact bad (by simpa using h2)
    refine zmy (zgp h2 (wk1 k (by omega))) ?_
    exact zcd.next hlt ⟨rfl, ⟨_, rfl⟩, errsF_snoc hx he (by rw [e]; simpa using h2)⟩
  · have hn : k = b.length := by omega
    subst hn
    rw [List.take_length] at he
    have hd : decide ((b.length : Int) < (b.length : Int)) = false := by simp
    refine zmy hd ?_
    refine zV b.length (fun k vs s => vs = [.d (.int .i64 k)] ∧ (∃ T, s = σ ++ T) ∧ (b.take k).Pairwise ndup) ⟨rfl, ⟨T, rfl⟩, by simp⟩ ?_
    rintro k vs s hk' ⟨rfl, ⟨T, rfl⟩, hp⟩
    by_cases hlt : k < b.length
    · have hd : decide ((k : Int) < (b.length : Int)) = true := by simp; omega
      have hx : b[k]? = some b[k] := by simp [hlt]
      have hgx := zef (f := zeb) hx
      obtain ⟨x, hxe⟩ : ∃ x, b[k] = x := ⟨_, rfl⟩
      rw [hxe] at hx hgx
      have htk : List.take k (List.map zeb b) = List.map zeb (b.take k) := by rw [List.map_take]
      have hlk : (b.take k).length = k := by rw [List.length_take]; omega
      refine gq23 (zgp hd (zgp hgx (zgp htk hlk))) ?_
      refine ⟨batch_nine b, ?_⟩
      refine gq23 (zgp hd (zgp hgx (zgp htk hlk))) ?_
      refine zV k (fun j vs s => vs = [.d (.int .i64 j)] ∧ (∃ T', s = σ ++ (T ++ .box [.d (.int .i64 x.client), .d (.int .i64 x.time), .d (.int .i64 x.op.kind), .d (.str x.op.topic), .d (.str x.op.group), .d (.int .i64 x.op.offset), .d (.slice (zbK x.op.recs)), .d (.int .i64 x.key), .d (.int .i64 x.dig)] :: T')) ∧ ∀ y ∈ b.take j, ¬ (x.client = y.client ∧ x.time = y.time)) ⟨rfl, ⟨[], by simp⟩, by simp⟩ ?_
      rintro j vs s hj ⟨rfl, ⟨T', rfl⟩, hno⟩
      by_cases hjk : j < k
      · have hd : decide ((j : Int) < (k : Int)) = true := by simp; omega
        have hy : b[j]? = some (b[j]'(by omega)) := List.getElem?_eq_getElem _
        have hy' : (b.take k)[j]? = some (b[j]'(by omega)) := by rw [List.getElem?_take, if_pos hjk]; exact hy
        have hgy := zef (f := zeb) hy'
        obtain ⟨y, hye⟩ : ∃ y, b[j]'(by omega) = y := ⟨_, rfl⟩
        rw [hye] at hy hgy hy'
        have hyt : b.take (j + 1) = b.take j ++ [y] := by rw [List.take_add_one, hy]; rfl
        have next : ¬ (x.client = y.client ∧ x.time = y.time) → ∀ z ∈ b.take (j + 1), ¬ (x.client = z.client ∧ x.time = z.time) := fun h z hz => by
          rw [hyt] at hz
          rcases List.mem_append.1 hz with hz | hz
          · exact hno z hz
          · simp at hz; subst hz; exact h
        cases h1 : (x.client == y.client)
        · refine gq23 (zgp hd (zgp htk (zgp hlk (zgp hgy (zgp h1 (wk1 j (by omega))))))) ?_
          exact zcd.next hjk ⟨rfl, ⟨_, rfl⟩, next (by simp at h1; exact fun h => h1 h.1)⟩
        cases h2 : (x.time == y.time)
        · refine gq23 (zgp hd (zgp htk (zgp hlk (zgp hgy (zgp h1 (zgp h2 (wk1 j (by omega)))))))) ?_
          exact zcd.next hjk ⟨rfl, ⟨_, rfl⟩, next (by simp at h2; exact fun h => h2 h.2)⟩
        · refine gq23 (zgp hd (zgp htk (zgp hlk (zgp hgy (zgp h1 h2))))) ?_
          refine zbD hl ?_
          have hnp := pairs_not hx hy hjk ⟨by simpa using h1, by simpa using h2⟩
          exact fin _ (by rw [zC, if_neg h4', if_neg (by simpa using he), if_neg hnp])
      · have hd : decide ((j : Int) < (k : Int)) = false := by simp; omega
        have hn : j = k := by omega
        subst hn
        refine zmy (zgp hd (zgp htk (zgp hlk (wk1 j (by omega))))) ?_
        exact zcd.next hlt ⟨rfl, ⟨_, rfl⟩, pairs_snoc hx hp hno⟩
    · have hd : decide ((k : Int) < (b.length : Int)) = false := by simp; omega
      refine zmy hd ?_
      refine zbD hl ?_
      have hn : k = b.length := by omega
      subst hn
      rw [List.take_length] at hp
      exact fin _ (by rw [zC, if_neg h4', if_neg (by simpa using he), if_pos hp])
end Go.Proofs.Ythpnelbciibjeaa
