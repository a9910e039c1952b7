/- Contracts: what is wrong with batches, on both sides. -/
import Derived.Test.YtcappjcojggehaaGreatRc1
set_option linter.all false
set_option maxRecDepth 100000
set_option linter.unusedSimpArgs false
set_option linter.unusedVariables false
namespace Go.Proofs.YtcappjcojggehaaGreat
open Go.AW

theorem wk1 (k : Nat) (h : k ≤ 1073741824) : IntKind.i64.wrap ((k : Int) + 1) = ((k + 1 : Nat) : Int) := by rw [zaj (by omega) (by omega)]; rfl
theorem gq41 {A P Q : Prop} (a : A) (h : Q) (e : A → P = Q := by intro a; simp -dsimp only [↓zcI, ↓zai, ↓zaH, ↓zcJ, ↓zcE, ↓zcC, ↓zcF, ↓zcD, ↓zaM, ↓zaI, ↓zaN, ↓zaJ, ↓zcG, ↓zaG, ↓zaO, ↓zaK, ↓zaP, ↓zaL, ↓zcB, ↓zcH, ↓zaF, ↓zaQ, ↓zcy, ↓zcx, ↓zcA, iN, bT, bF, eN, ↓zbL, ↓unC, ↓zH, ↓zw, ↓zx, ↓zB, ↓zK, ↓zaz, ↓zbv, ↓zY, ↓zbh, ↓zP, ↓zr, ↓zp, ↓zbj, ↓zf, ↓zU, ↓zF, ↓zan, ↓zas, ↓zc, ↓zC, ↓zj, ↓zl, ↓zab, ↓zbK, ↓zbJ, ↓zae, ↓zah, ↓zam, ↓zav, ↓zaB, ↓zg, ↓zW, ↓zy, ↓zi, ↓zJ, zbM, zaE, zaD, unA, zbQ, bnd, zcb, zQ, zag, zcd, dm, dm1, zM, zao, zcr, zcq, zS, Q0, Q1, Q2, Q3, Q4, Q5, zG, zh, zn, zq, zt, Q6, Q7, Q8, Q9, Q10, Q11, Q12, Q13, Q14, Nat.reduceAdd, Q15, Int.reduceToNat, Q16, Q17, Q18, Q19, Q20, reduceIte, Q21, Q22, zm, rep, zL, zcz, toD, zac, Q23, Q24, Q25, Q26, Q27, Q28, Nat.reduceLeDiff, Q29, Nat.reduceSub, Q30, Q31, Q32, sc, Q33, Q34, Q35, Q36, Q37, Q26, Q38, Q39, zfa, zeX, zeU, zfb, zbC, zeY, zeV, zeZ, zeW, zbB, zbD, zfd, zfe, Bool.not_true, Bool.not_false, List.length_map, zbr, a]; rfl) : P := (e a).mpr h
theorem zkG {σ : List zb} {b : List zd} (hb : okB b) {K : AV → List zb → Prop} (hK : K (.d (.int .i64 (zD b))) σ) : zN Tryz.prog zbS [.d (.slice (zbs b))] σ K := by
  refine zk zef.is rfl fun hl _ => zef.goes ?_
  have fin : ∀ z, zD b = z → K (.d (.int .i64 z)) σ := fun z h => h ▸ hK
  clear hK
  obtain ⟨hb1, hb2⟩ := hb
  simp only [zek, iN, bT, bF, eN]
  cases h4 : decide ((b.length : Int) > 4)
  rotate_left
  · (repeat' first | refine zff h4 ?_ | with_reducible first | exact ⟨⟩ | refine zA ?_ | fail)
    (first | refine zar hl ?_ | refine zaq hl ?_)
    exact fin _ (by rw [zD, if_pos (by simp at h4; omega)])
  have h4' : ¬ b.length > 4 := by simp at h4; omega
  (repeat' first | refine zff h4 ?_ | with_reducible first | exact ⟨⟩ | refine zA ?_ | fail)
  refine zV b.length (fun k vs s => vs = [.d (.int .i64 k)] ∧ (∃ T, s = σ ++ T) ∧ zhh (b.take k) = 0) ⟨rfl, ⟨[], by simp⟩, rfl⟩ ?_
  rintro k vs s hk ⟨rfl, ⟨T, rfl⟩, he⟩
  by_cases hlt : k < b.length
  · have hd : decide ((k : Int) < (b.length : Int)) = true := by simp; omega
    have hx : b[k]? = some b[k] := by simp [hlt]
    have hbx := hb2 _ (List.getElem_mem hlt)
    have hgx := zaT (f := zbr) hx
    obtain ⟨x, hxe⟩ : ∃ x, b[k] = x := ⟨_, rfl⟩
    rw [hxe] at hx hgx hbx
    have bad : znl x ≠ 0 → K (.d (.int .i64 (znl x))) σ := fun h => fin _ (by rw [zD, if_neg h4', if_pos (by rw [zhW hx he h]; exact h)]; exact zhW hx he h)
    (repeat' first | refine gq41 (zcl hd hgx) ?_ | with_reducible first | exact ⟨⟩ | refine zA ?_ | fail)
    refine c_rqCheck (x := x) hbx ?_
    cases h1 : (zI x != 0)
    rotate_left
    · have h1' : zI x ≠ 0 := by simpa using h1
      (repeat' first | refine zff h1 ?_ | with_reducible first | exact ⟨⟩ | refine zA ?_ | fail)
      (first | refine zar hl ?_ | refine zaq hl ?_)
      have e : znl x = zI x := by rw [znl, if_pos h1']
      rw [e] at bad
      exact bad h1'
    (repeat' first | refine zff h1 ?_ | with_reducible first | exact ⟨⟩ | refine zA ?_ | fail)
    have h1' : ¬ zI x ≠ 0 := by simpa using h1
    have e : znl x = zal x.key x.dig := by rw [znl, if_neg h1']
    refine zjk ?_
    cases h2 : (zal x.key x.dig != 0)
    rotate_left
    · (repeat' first | refine zff h2 ?_ | with_reducible first | exact ⟨⟩ | refine zA ?_ | fail)
      (first | refine zar hl ?_ | refine zaq hl ?_)
      rw [e] at bad
      exact bad (by simpa using h2)
    (repeat' first | refine zff (zcl h2 (wk1 k (by omega))) ?_ | with_reducible first | exact ⟨⟩ | refine zA ?_ | fail)
    exact zaR.next hlt ⟨rfl, ⟨_, rfl⟩, znk hx he (by rw [e]; simpa using h2)⟩
  · have hn : k = b.length := by omega
    subst hn
    rw [List.take_length] at he
    have hd : decide ((b.length : Int) < (b.length : Int)) = false := by simp
    (repeat' first | refine zff hd ?_ | with_reducible first | exact ⟨⟩ | refine zA ?_ | fail)
    refine zV b.length (fun k vs s => vs = [.d (.int .i64 k)] ∧ (∃ T, s = σ ++ T) ∧ (b.take k).Pairwise ndup) ⟨rfl, ⟨T, rfl⟩, by simp⟩ ?_
    rintro k vs s hk' ⟨rfl, ⟨T, rfl⟩, hp⟩
    by_cases hlt : k < b.length
    · have hd : decide ((k : Int) < (b.length : Int)) = true := by simp; omega
      have hx : b[k]? = some b[k] := by simp [hlt]
      have hgx := zaT (f := zbr) hx
      obtain ⟨x, hxe⟩ : ∃ x, b[k] = x := ⟨_, rfl⟩
      rw [hxe] at hx hgx
      have htk : List.take k (List.map zbr b) = List.map zbr (b.take k) := by rw [List.map_take]
      have hlk : (b.take k).length = k := by rw [List.length_take]; omega
      (repeat' first | refine gq41 (zcl hd (zcl hgx (zcl htk hlk))) ?_ | with_reducible first | exact ⟨⟩ | refine zA ?_ | fail)
      refine ⟨batch_nine b, ?_⟩
      (repeat' first | refine gq41 (zcl hd (zcl hgx (zcl htk hlk))) ?_ | with_reducible first | exact ⟨⟩ | refine zA ?_ | fail)
      refine zV k (fun j vs s => vs = [.d (.int .i64 j)] ∧ (∃ T', s = σ ++ (T ++ .box [.d (.int .i64 x.client), .d (.int .i64 x.time), .d (.int .i64 x.op.kind), .d (.str x.op.topic), .d (.str x.op.group), .d (.int .i64 x.op.offset), .d (.slice (zdy x.op.recs)), .d (.int .i64 x.key), .d (.int .i64 x.dig)] :: T')) ∧ ∀ y ∈ b.take j, ¬ (x.client = y.client ∧ x.time = y.time)) ⟨rfl, ⟨[], by simp⟩, by simp⟩ ?_
      rintro j vs s hj ⟨rfl, ⟨T', rfl⟩, hno⟩
      by_cases hjk : j < k
      · have hd : decide ((j : Int) < (k : Int)) = true := by simp; omega
        have hy : b[j]? = some (b[j]'(by omega)) := List.getElem?_eq_getElem _
        have hy' : (b.take k)[j]? = some (b[j]'(by omega)) := by rw [List.getElem?_take, if_pos hjk]; exact hy
        have hgy := zaT (f := zbr) hy'
        obtain ⟨y, hye⟩ : ∃ y, b[j]'(by omega) = y := ⟨_, rfl⟩
        rw [hye] at hy hgy hy'
        have hyt : b.take (j + 1) = b.take j ++ [y] := by rw [List.take_add_one, hy]; rfl
        have next : ¬ (x.client = y.client ∧ x.time = y.time) → ∀ z ∈ b.take (j + 1), ¬ (x.client = z.client ∧ x.time = z.time) := fun h z hz => by
          rw [hyt] at hz
          rcases List.mem_append.1 hz with hz | hz
          · exact hno z hz
          · simp at hz; subst hz; exact h
        cases h1 : (x.client == y.client)
        · (repeat' first | refine gq41 (zcl hd (zcl htk (zcl hlk (zcl hgy (zcl h1 (wk1 j (by omega))))))) ?_ | with_reducible first | exact ⟨⟩ | refine zA ?_ | fail)
          exact zaR.next hjk ⟨rfl, ⟨_, rfl⟩, next (by simp at h1; exact fun h => h1 h.1)⟩
        cases h2 : (x.time == y.time)
        · (repeat' first | refine gq41 (zcl hd (zcl htk (zcl hlk (zcl hgy (zcl h1 (zcl h2 (wk1 j (by omega)))))))) ?_ | with_reducible first | exact ⟨⟩ | refine zA ?_ | fail)
          exact zaR.next hjk ⟨rfl, ⟨_, rfl⟩, next (by simp at h2; exact fun h => h2 h.2)⟩
        · (repeat' first | refine gq41 (zcl hd (zcl htk (zcl hlk (zcl hgy (zcl h1 h2))))) ?_ | with_reducible first | exact ⟨⟩ | refine zA ?_ | fail)
          (first | refine zar hl ?_ | refine zaq hl ?_)
          have hnp := pairs_not hx hy hjk ⟨by simpa using h1, by simpa using h2⟩
          exact fin _ (by rw [zD, if_neg h4', if_neg (by simpa using he), if_neg hnp])
      · have hd : decide ((j : Int) < (k : Int)) = false := by simp; omega
        have hn : j = k := by omega
        subst hn
        (repeat' first | refine zff (zcl hd (zcl htk (zcl hlk (wk1 j (by omega))))) ?_ | with_reducible first | exact ⟨⟩ | refine zA ?_ | fail)
        exact zaR.next hlt ⟨rfl, ⟨_, rfl⟩, zmU hx hp hno⟩
    · have hd : decide ((k : Int) < (b.length : Int)) = false := by simp; omega
      (repeat' first | refine zff hd ?_ | with_reducible first | exact ⟨⟩ | refine zA ?_ | fail)
      (first | refine zar hl ?_ | refine zaq hl ?_)
      have hn : k = b.length := by omega
      subst hn
      rw [List.take_length] at hp
      exact fin _ (by rw [zD, if_neg h4', if_neg (by simpa using he), if_pos hp])
theorem zjl {σ : List zb} {b : List zd} (hb : okB b) {K : AV → List zb → Prop} (hK : K (.d (.int .i64 (zD b))) σ) : zN Tryz.prog zcZ [.d (.slice (zbs b))] σ K := by
  refine zk zgF.is rfl fun hl _ => zgF.goes ?_
  have fin : ∀ z, zD b = z → K (.d (.int .i64 z)) σ := fun z h => h ▸ hK
  clear hK
  obtain ⟨hb1, hb2⟩ := hb
  simp only [zgR, iN, bT, bF, eN]
  cases h4 : decide ((b.length : Int) > 4)
  rotate_left
  · (repeat' first | refine zff h4 ?_ | with_reducible first | exact ⟨⟩ | refine zA ?_ | fail)
    (first | refine zar hl ?_ | refine zaq hl ?_)
    exact fin _ (by rw [zD, if_pos (by simp at h4; omega)])
  have h4' : ¬ b.length > 4 := by simp at h4; omega
  (repeat' first | refine zff h4 ?_ | with_reducible first | exact ⟨⟩ | refine zA ?_ | fail)
  refine zV b.length (fun k vs s => vs = [.d (.int .i64 k)] ∧ s = σ ∧ zhh (b.take k) = 0) ⟨rfl, rfl, rfl⟩ ?_
  rintro k vs s hk ⟨rfl, rfl, he⟩
  by_cases hlt : k < b.length
  · have hd : decide ((k : Int) < (b.length : Int)) = true := by simp; omega
    have hx : b[k]? = some b[k] := by simp [hlt]
    have hbx := hb2 _ (List.getElem_mem hlt)
    have hgx := zaT (f := zbr) hx
    obtain ⟨x, hxe⟩ : ∃ x, b[k] = x := ⟨_, rfl⟩
    rw [hxe] at hx hgx hbx
    have bad : znl x ≠ 0 → K (.d (.int .i64 (znl x))) s := fun h => fin _ (by rw [zD, if_neg h4', if_pos (by rw [zhW hx he h]; exact h)]; exact zhW hx he h)
    (repeat' first | refine gq41 (zcl hd hgx) ?_ | with_reducible first | exact ⟨⟩ | refine zA ?_ | fail)
    refine znE (x := x) hbx ?_
    cases h1 : (zI x != 0)
    rotate_left
    · have h1' : zI x ≠ 0 := by simpa using h1
      (repeat' first | refine zff h1 ?_ | with_reducible first | exact ⟨⟩ | refine zA ?_ | fail)
      (first | refine zar hl ?_ | refine zaq hl ?_)
      have e : znl x = zI x := by rw [znl, if_pos h1']
      rw [e] at bad
      exact bad h1'
    (repeat' first | refine gq41 (zcl h1 hgx) ?_ | with_reducible first | exact ⟨⟩ | refine zA ?_ | fail)
    have h1' : ¬ zI x ≠ 0 := by simpa using h1
    have e : znl x = zal x.key x.dig := by rw [znl, if_neg h1']
    refine zil ?_
    cases h2 : (zal x.key x.dig != 0)
    rotate_left
    · (repeat' first | refine zff h2 ?_ | with_reducible first | exact ⟨⟩ | refine zA ?_ | fail)
      (first | refine zar hl ?_ | refine zaq hl ?_)
      rw [e] at bad
      exact bad (by simpa using h2)
    (repeat' first | refine zff (zcl h2 (wk1 k (by omega))) ?_ | with_reducible first | exact ⟨⟩ | refine zA ?_ | fail)
    exact zaR.next hlt ⟨rfl, rfl, znk hx he (by rw [e]; simpa using h2)⟩
  · have hn : k = b.length := by omega
    subst hn
    rw [List.take_length] at he
    have hd : decide ((b.length : Int) < (b.length : Int)) = false := by simp
    (repeat' first | refine zff hd ?_ | with_reducible first | exact ⟨⟩ | refine zA ?_ | fail)
    refine zV b.length (fun k vs q => vs = [.d (.int .i64 k)] ∧ q = s ∧ (b.take k).Pairwise ndup) ⟨rfl, rfl, by simp⟩ ?_
    rintro k vs s hk' ⟨rfl, rfl, hp⟩
    by_cases hlt : k < b.length
    · have hd : decide ((k : Int) < (b.length : Int)) = true := by simp; omega
      have hx : b[k]? = some b[k] := by simp [hlt]
      have hgx := zaT (f := zbr) hx
      obtain ⟨x, hxe⟩ : ∃ x, b[k] = x := ⟨_, rfl⟩
      rw [hxe] at hx hgx
      (repeat' first | refine zff hd ?_ | with_reducible first | exact ⟨⟩ | refine zA ?_ | fail)
      refine zV k (fun j vs q => vs = [.d (.int .i64 j)] ∧ q = s ∧ ∀ y ∈ b.take j, ¬ (x.client = y.client ∧ x.time = y.time)) ⟨rfl, rfl, by simp⟩ ?_
      rintro j vs s hj ⟨rfl, rfl, hno⟩
      by_cases hjk : j < k
      · have hd : decide ((j : Int) < (k : Int)) = true := by simp; omega
        have hy : b[j]? = some (b[j]'(by omega)) := List.getElem?_eq_getElem _
        have hgy := zaT (f := zbr) hy
        obtain ⟨y, hye⟩ : ∃ y, b[j]'(by omega) = y := ⟨_, rfl⟩
        rw [hye] at hy hgy
        have hyt : b.take (j + 1) = b.take j ++ [y] := by rw [List.take_add_one, hy]; rfl
        have next : ¬ (x.client = y.client ∧ x.time = y.time) → ∀ z ∈ b.take (j + 1), ¬ (x.client = z.client ∧ x.time = z.time) := fun h z hz => by
          rw [hyt] at hz
          rcases List.mem_append.1 hz with hz | hz
          · exact hno z hz
          · simp at hz; subst hz; exact h
        cases h1 : (x.client == y.client)
        · (repeat' first | refine gq41 (zcl hd (zcl hgx (zcl hgy (zcl h1 (wk1 j (by omega)))))) ?_ | with_reducible first | exact ⟨⟩ | refine zA ?_ | fail)
          exact zaR.next hjk ⟨rfl, rfl, next (by simp at h1; exact fun h => h1 h.1)⟩
        cases h2 : (x.time == y.time)
        · (repeat' first | refine gq41 (zcl hd (zcl hgx (zcl hgy (zcl h1 (zcl h2 (wk1 j (by omega))))))) ?_ | with_reducible first | exact ⟨⟩ | refine zA ?_ | fail)
          exact zaR.next hjk ⟨rfl, rfl, next (by simp at h2; exact fun h => h2 h.2)⟩
        · (repeat' first | refine gq41 (zcl hd (zcl hgx (zcl hgy (zcl h1 h2)))) ?_ | with_reducible first | exact ⟨⟩ | refine zA ?_ | fail)
          (first | refine zar hl ?_ | refine zaq hl ?_)
          have hnp := pairs_not hx hy hjk ⟨by simpa using h1, by simpa using h2⟩
          exact fin _ (by rw [zD, if_neg h4', if_neg (by simpa using he), if_neg hnp])
      · have hd : decide ((j : Int) < (k : Int)) = false := by simp; omega
        have hn : j = k := by omega
        subst hn
        (repeat' first | refine zff (zcl hd (wk1 j (by omega))) ?_ | with_reducible first | exact ⟨⟩ | refine zA ?_ | fail)
        exact zaR.next hlt ⟨rfl, rfl, zmU hx hp hno⟩
    · have hd : decide ((k : Int) < (b.length : Int)) = false := by simp; omega
      (repeat' first | refine zff hd ?_ | with_reducible first | exact ⟨⟩ | refine zA ?_ | fail)
      (first | refine zar hl ?_ | refine zaq hl ?_)
      have hn : k = b.length := by omega
      subst hn
      rw [List.take_length] at hp
      exact fin _ (by rw [zD, if_neg h4', if_neg (by simpa using he), if_pos hp])
end Go.Proofs.YtcappjcojggehaaGreat
