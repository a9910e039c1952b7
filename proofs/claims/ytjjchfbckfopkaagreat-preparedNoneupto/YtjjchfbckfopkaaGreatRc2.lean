/- Contracts: what is wrong with batches, on both sides. -/
import Derived.Test.YtjjchfbckfopkaaGreatRc1
set_option linter.all false
set_option maxRecDepth 100000
set_option linter.unusedSimpArgs false
set_option linter.unusedVariables false
namespace Go.Proofs.YtjjchfbckfopkaaGreat
open Go.AW

theorem wk1 (k : Nat) (h : k ≤ 1073741824) : IntKind.i64.wrap ((k : Int) + 1) = ((k + 1 : Nat) : Int) := by rw [zao (by omega) (by omega)]; rfl
theorem gq35 {A P Q : Prop} (a : A) (h : Q) (e : A → Hd Q → P := by intro a h; (repeat' first | simp -dsimp only [↓zem, ↓zas, ↓zbe, ↓zen, ↓zeg, ↓zee, ↓zeh, ↓zef, ↓zbj, ↓zbf, ↓zbk, ↓zbg, ↓zei, ↓zbd, ↓zbl, ↓zbh, ↓zbm, ↓zbi, ↓zec, ↓zel, ↓zbc, ↓zbo, ↓zdY, ↓zdX, ↓zeb, iN, bT, bF, eN, ↓zcx, ↓unC, ↓zU, ↓zE, ↓zF, ↓zI, ↓zaa, ↓zaE, ↓zco, ↓zZ, ↓zbw, ↓zQ, ↓zl, ↓zm, ↓zbF, ↓zf, ↓zab, ↓zK, ↓zay, ↓zaD, ↓zc, ↓zy, ↓zi, ↓zr, ↓zai, ↓zcz, ↓zcG, ↓zal, ↓zap, ↓zax, ↓zaG, ↓zaN, ↓zj, ↓zad, ↓zG, ↓zq, ↓zX, zcE, zaZ, zaW, unA, zcH, bnd, zdj, zY, zac, zdk, dm, dm1, zJ, zar, zdD, zdC, zT, Q0, Q1, Q2, Q3, Q4, Q5, zS, zg, zp, zu, zC, Q6, Q7, Q8, Q9, Q10, Q11, Q12, Q13, Q14, Nat.reduceAdd, Q15, Int.reduceToNat, Q16, Q17, Q18, Q19, Q20, reduceIte, Q21, Q22, zA, rep, zV, zdZ, toD, zaj, Q23, Q24, Q25, Q26, Q27, Q28, Nat.reduceLeDiff, Q29, Nat.reduceSub, Q30, Q31, Q32, sc, Q33, Q34, Q35, Q36, Q37, Q26, Q38, Q39, zjL, zjI, zjF, zjM, zdO, zjJ, zjG, zjK, zjH, zdN, zdP, zjT, zjU, Bool.not_true, Bool.not_false, List.length_map, Bool.and_false, Bool.and_self, Bool.false_and, Bool.not_false, Bool.not_true, Bool.true_and, Int.toNat_natCast, Int.toNat_zero, List.drop_zero, List.length_map, List.length_nil, List.nil_append, List.take_length, Nat.sub_zero, Nat.zero_add, Option.isSome_none, Option.isSome_some, Option.map_none, Option.map_some, zaq, beq_self_eq_true, bne_self_eq_false, zbu, zbC, opA, prepD, zgb, zet, zaK, a] | with_reducible refine zkm ?_ | fail); exact h.go) : P := e a ⟨h⟩
theorem zkK {σ : List zb} {b : List ze} (hb : okB b) {K : AV → List zb → Prop} (hK : K (.d (.int .i64 (zw b))) σ) : zn Tryz.prog zbS [.d (.slice (zbn b))] σ K := by
  refine zfz zhN fun hl => ?_
  have fin : ∀ z, zw b = z → K (.d (.int .i64 z)) σ := fun z h => h ▸ hK
  clear hK
  obtain ⟨hb1, hb2⟩ := hb
  simp only [zeH, iN, bT, bF, eN, zl2]
  cases h4 : decide ((b.length : Int) > 4)
  rotate_left
  · refine zfi h4 ?_
    refine zam hl ?_
    exact fin _ (by rw [zw, if_pos (by simp at h4; omega)])
  have h4' : ¬ b.length > 4 := by simp at h4; omega
  refine zfi h4 ?_
  refine zR b.length (fun k vs s => vs = [.d (.int .i64 k)] ∧ (∃ T, s = σ ++ T) ∧ zgM (b.take k) = 0) ⟨rfl, ⟨[], by simp⟩, rfl⟩ ?_
  rintro k vs s hk ⟨rfl, ⟨T, rfl⟩, he⟩
  by_cases hlt : k < b.length
  · have hd : decide ((k : Int) < (b.length : Int)) = true := by simp; omega
    have hx : b[k]? = some b[k] := by simp [hlt]
    have hbx := hb2 _ (List.getElem_mem hlt)
    have hgx := zaT (f := zaK) hx
    obtain ⟨x, hxe⟩ : ∃ x, b[k] = x := ⟨_, rfl⟩
    rw [hxe] at hx hgx hbx
    have bad : znv x ≠ 0 → K (.d (.int .i64 (znv x))) σ := fun h => fin _ (by rw [zw, if_neg h4', if_pos (by rw [zhG hx he h]; exact h)]; exact zhG hx he h)
    refine gq35 (zce hd hgx) ?_
    refine c_rqCheck (x := x) hbx ?_
    cases h1 : (zB x != 0)
    rotate_left
    · have h1' : zB x ≠ 0 := by simpa using h1
      refine zfi h1 ?_
      refine zam hl ?_
      have e : znv x = zB x := by rw [znv, if_pos h1']
      rw [e] at bad
      exact bad h1'
    refine zfi h1 ?_
    have h1' : ¬ zB x ≠ 0 := by simpa using h1
    have e : znv x = zah x.key x.dig := by rw [znv, if_neg h1']
    refine zjb ?_
    cases h2 : (zah x.key x.dig != 0)
    rotate_left
    · refine zfi h2 ?_
      refine zam hl ?_
      rw [e] at bad
      exact bad (by simpa using h2)
    refine zfi (zce h2 (wk1 k (by omega))) ?_
    exact zbq.next hlt ⟨rfl, ⟨_, rfl⟩, znu hx he (by rw [e]; simpa using h2)⟩
  · have hn : k = b.length := by omega
    subst hn
    rw [List.take_length] at he
    have hd : decide ((b.length : Int) < (b.length : Int)) = false := by simp
    refine zfi hd ?_
    refine zR b.length (fun k vs s => vs = [.d (.int .i64 k)] ∧ (∃ T, s = σ ++ T) ∧ (b.take k).Pairwise ndup) ⟨rfl, ⟨T, rfl⟩, by simp⟩ ?_
    rintro k vs s hk' ⟨rfl, ⟨T, rfl⟩, hp⟩
    by_cases hlt : k < b.length
    · have hd : decide ((k : Int) < (b.length : Int)) = true := by simp; omega
      have hx : b[k]? = some b[k] := by simp [hlt]
      have hgx := zaT (f := zaK) hx
      obtain ⟨x, hxe⟩ : ∃ x, b[k] = x := ⟨_, rfl⟩
      rw [hxe] at hx hgx
      have htk : List.take k (List.map zaK b) = List.map zaK (b.take k) := by rw [List.map_take]
      have hlk : (b.take k).length = k := by rw [List.length_take]; omega
      refine gq35 (zce hd (zce hgx (zce htk hlk))) ?_
      refine ⟨batch_nine b, ?_⟩
      refine gq35 (zce hd (zce hgx (zce htk hlk))) ?_
      refine zR k (fun j vs s => vs = [.d (.int .i64 j)] ∧ (∃ T', s = σ ++ (T ++ .box [.d (.int .i64 x.client), .d (.int .i64 x.time), .d (.int .i64 x.op.kind), .d (.str x.op.topic), .d (.str x.op.group), .d (.int .i64 x.op.offset), .d (.slice (zeu x.op.recs)), .d (.int .i64 x.key), .d (.int .i64 x.dig)] :: T')) ∧ ∀ y ∈ b.take j, ¬ (x.client = y.client ∧ x.time = y.time)) ⟨rfl, ⟨[], by simp⟩, by simp⟩ ?_
      rintro j vs s hj ⟨rfl, ⟨T', rfl⟩, hno⟩
      by_cases hjk : j < k
      · have hd : decide ((j : Int) < (k : Int)) = true := by simp; omega
        have hy : b[j]? = some (b[j]'(by omega)) := List.getElem?_eq_getElem _
        have hy' : (b.take k)[j]? = some (b[j]'(by omega)) := by rw [List.getElem?_take, if_pos hjk]; exact hy
        have hgy := zaT (f := zaK) hy'
        obtain ⟨y, hye⟩ : ∃ y, b[j]'(by omega) = y := ⟨_, rfl⟩
        rw [hye] at hy hgy hy'
        have hyt : b.take (j + 1) = b.take j ++ [y] := by rw [List.take_add_one, hy]; rfl
        have next : ¬ (x.client = y.client ∧ x.time = y.time) → ∀ z ∈ b.take (j + 1), ¬ (x.client = z.client ∧ x.time = z.time) := fun h z hz => by
          rw [hyt] at hz
          rcases List.mem_append.1 hz with hz | hz
          · exact hno z hz
          · simp at hz; subst hz; exact h
        cases h1 : (x.client == y.client)
        · refine gq35 (zce hd (zce htk (zce hlk (zce hgy (zce h1 (wk1 j (by omega))))))) ?_
          exact zbq.next hjk ⟨rfl, ⟨_, rfl⟩, next (by simp at h1; exact fun h => h1 h.1)⟩
        cases h2 : (x.time == y.time)
        · refine gq35 (zce hd (zce htk (zce hlk (zce hgy (zce h1 (zce h2 (wk1 j (by omega)))))))) ?_
          exact zbq.next hjk ⟨rfl, ⟨_, rfl⟩, next (by simp at h2; exact fun h => h2 h.2)⟩
        · refine gq35 (zce hd (zce htk (zce hlk (zce hgy (zce h1 h2))))) ?_
          refine zam hl ?_
          have hnp := pairs_not hx hy hjk ⟨by simpa using h1, by simpa using h2⟩
          exact fin _ (by rw [zw, if_neg h4', if_neg (by simpa using he), if_neg hnp])
      · have hd : decide ((j : Int) < (k : Int)) = false := by simp; omega
        have hn : j = k := by omega
        subst hn
        refine zfi (zce hd (zce htk (zce hlk (wk1 j (by omega))))) ?_
        exact zbq.next hlt ⟨rfl, ⟨_, rfl⟩, zng hx hp hno⟩
    · have hd : decide ((k : Int) < (b.length : Int)) = false := by simp; omega
      refine zfi hd ?_
      refine zam hl ?_
      have hn : k = b.length := by omega
      subst hn
      rw [List.take_length] at hp
      exact fin _ (by rw [zw, if_neg h4', if_neg (by simpa using he), if_pos hp])
theorem zjc {σ : List zb} {b : List ze} (hb : okB b) {K : AV → List zb → Prop} (hK : K (.d (.int .i64 (zw b))) σ) : zn Tryz.prog zcT [.d (.slice (zbn b))] σ K := by
  refine zfz zla fun hl => ?_
  have fin : ∀ z, zw b = z → K (.d (.int .i64 z)) σ := fun z h => h ▸ hK
  clear hK
  obtain ⟨hb1, hb2⟩ := hb
  simp only [zgx, iN, bT, bF, eN]
  cases h4 : decide ((b.length : Int) > 4)
  rotate_left
  · refine zfi h4 ?_
    refine zam hl ?_
    exact fin _ (by rw [zw, if_pos (by simp at h4; omega)])
  have h4' : ¬ b.length > 4 := by simp at h4; omega
  refine zfi h4 ?_
  refine zR b.length (fun k vs s => vs = [.d (.int .i64 k)] ∧ s = σ ∧ zgM (b.take k) = 0) ⟨rfl, rfl, rfl⟩ ?_
  rintro k vs s hk ⟨rfl, rfl, he⟩
  by_cases hlt : k < b.length
  · have hd : decide ((k : Int) < (b.length : Int)) = true := by simp; omega
    have hx : b[k]? = some b[k] := by simp [hlt]
    have hbx := hb2 _ (List.getElem_mem hlt)
    have hgx := zaT (f := zaK) hx
    obtain ⟨x, hxe⟩ : ∃ x, b[k] = x := ⟨_, rfl⟩
    rw [hxe] at hx hgx hbx
    have bad : znv x ≠ 0 → K (.d (.int .i64 (znv x))) s := fun h => fin _ (by rw [zw, if_neg h4', if_pos (by rw [zhG hx he h]; exact h)]; exact zhG hx he h)
    refine gq35 (zce hd hgx) ?_
    refine znz (x := x) hbx ?_
    cases h1 : (zB x != 0)
    rotate_left
    · have h1' : zB x ≠ 0 := by simpa using h1
      refine zfi h1 ?_
      refine zam hl ?_
      have e : znv x = zB x := by rw [znv, if_pos h1']
      rw [e] at bad
      exact bad h1'
    refine gq35 (zce h1 hgx) ?_
    have h1' : ¬ zB x ≠ 0 := by simpa using h1
    have e : znv x = zah x.key x.dig := by rw [znv, if_neg h1']
    refine zhX ?_
    cases h2 : (zah x.key x.dig != 0)
    rotate_left
    · refine zfi h2 ?_
      refine zam hl ?_
      rw [e] at bad
      exact bad (by simpa using h2)
    refine zfi (zce h2 (wk1 k (by omega))) ?_
    exact zbq.next hlt ⟨rfl, rfl, znu hx he (by rw [e]; simpa using h2)⟩
  · have hn : k = b.length := by omega
    subst hn
    rw [List.take_length] at he
    have hd : decide ((b.length : Int) < (b.length : Int)) = false := by simp
    refine zfi hd ?_
    refine zR b.length (fun k vs q => vs = [.d (.int .i64 k)] ∧ q = s ∧ (b.take k).Pairwise ndup) ⟨rfl, rfl, by simp⟩ ?_
    rintro k vs s hk' ⟨rfl, rfl, hp⟩
    by_cases hlt : k < b.length
    · have hd : decide ((k : Int) < (b.length : Int)) = true := by simp; omega
      have hx : b[k]? = some b[k] := by simp [hlt]
      have hgx := zaT (f := zaK) hx
      obtain ⟨x, hxe⟩ : ∃ x, b[k] = x := ⟨_, rfl⟩
      rw [hxe] at hx hgx
      refine zfi hd ?_
      refine zR k (fun j vs q => vs = [.d (.int .i64 j)] ∧ q = s ∧ ∀ y ∈ b.take j, ¬ (x.client = y.client ∧ x.time = y.time)) ⟨rfl, rfl, by simp⟩ ?_
      rintro j vs s hj ⟨rfl, rfl, hno⟩
      by_cases hjk : j < k
      · have hd : decide ((j : Int) < (k : Int)) = true := by simp; omega
        have hy : b[j]? = some (b[j]'(by omega)) := List.getElem?_eq_getElem _
        have hgy := zaT (f := zaK) hy
        obtain ⟨y, hye⟩ : ∃ y, b[j]'(by omega) = y := ⟨_, rfl⟩
        rw [hye] at hy hgy
        have hyt : b.take (j + 1) = b.take j ++ [y] := by rw [List.take_add_one, hy]; rfl
        have next : ¬ (x.client = y.client ∧ x.time = y.time) → ∀ z ∈ b.take (j + 1), ¬ (x.client = z.client ∧ x.time = z.time) := fun h z hz => by
          rw [hyt] at hz
          rcases List.mem_append.1 hz with hz | hz
          · exact hno z hz
          · simp at hz; subst hz; exact h
        cases h1 : (x.client == y.client)
        · refine gq35 (zce hd (zce hgx (zce hgy (zce h1 (wk1 j (by omega)))))) ?_
          exact zbq.next hjk ⟨rfl, rfl, next (by simp at h1; exact fun h => h1 h.1)⟩
        cases h2 : (x.time == y.time)
        · refine gq35 (zce hd (zce hgx (zce hgy (zce h1 (zce h2 (wk1 j (by omega))))))) ?_
          exact zbq.next hjk ⟨rfl, rfl, next (by simp at h2; exact fun h => h2 h.2)⟩
        · refine gq35 (zce hd (zce hgx (zce hgy (zce h1 h2)))) ?_
          refine zam hl ?_
          have hnp := pairs_not hx hy hjk ⟨by simpa using h1, by simpa using h2⟩
          exact fin _ (by rw [zw, if_neg h4', if_neg (by simpa using he), if_neg hnp])
      · have hd : decide ((j : Int) < (k : Int)) = false := by simp; omega
        have hn : j = k := by omega
        subst hn
        refine zfi (zce hd (wk1 j (by omega))) ?_
        exact zbq.next hlt ⟨rfl, rfl, zng hx hp hno⟩
    · have hd : decide ((k : Int) < (b.length : Int)) = false := by simp; omega
      refine zfi hd ?_
      refine zam hl ?_
      have hn : k = b.length := by omega
      subst hn
      rw [List.take_length] at hp
      exact fin _ (by rw [zw, if_neg h4', if_neg (by simpa using he), if_pos hp])
end Go.Proofs.YtjjchfbckfopkaaGreat
