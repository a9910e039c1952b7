/- Contracts: what is wrong with batches, on both sides. -/
import Derived.Test.YtpgahkdjkanblaaGreatRc1
set_option linter.all false
set_option maxRecDepth 100000
set_option linter.unusedSimpArgs false
set_option linter.unusedVariables false
namespace Go.Proofs.YtpgahkdjkanblaaGreat
open Go.AW

theorem wk1 (k : Nat) (h : k ≤ 1073741824) : IntKind.i64.wrap ((k : Int) + 1) = ((k + 1 : Nat) : Int) := by rw [zat (by omega) (by omega)]; rfl
theorem znj {A P Q : Prop} (a : A) (h : Q) (e : A → Hd Q → P := by intro a h; (repeat' first | simp -dsimp only [↓zey, ↓zay, ↓zbs, ↓zez, ↓zeu, ↓zes, ↓zev, ↓zet, ↓zbx, ↓zbt, ↓zby, ↓zbu, ↓zew, ↓zbr, ↓zbz, ↓zbv, ↓zbA, ↓zbw, ↓zer, ↓zex, ↓zbp, ↓zbB, ↓zep, ↓zeo, ↓zeq, iN, bT, bF, eN, ↓zcv, ↓unC, ↓zU, ↓zI, ↓zJ, ↓zM, ↓zX, ↓zal, ↓zcX, ↓zai, ↓zaJ, ↓zW, ↓zg, ↓zn, ↓zbP, ↓zb, ↓zaf, ↓zD, ↓zaI, ↓zaQ, ↓zd, ↓zF, ↓zj, ↓zG, ↓zam, ↓zdc, ↓zdj, ↓zak, ↓zau, ↓zaL, ↓zaY, ↓zbh, ↓zo, ↓zaj, ↓zK, ↓zr, ↓zV, zdk, zbn, zbk, unA, zdu, bnd, zdG, zae, zO, zdW, dm, dm1, zR, zaF, zea, zdZ, zw, Q0, Q1, Q2, Q3, Q4, Q5, zY, zC, zt, zN, zE, Q6, Q7, Q8, Q9, Q10, Q11, Q12, Q13, Q14, Nat.reduceAdd, Q15, Int.reduceToNat, Q16, Q17, Q18, Q19, Q20, reduceIte, Q21, Q22, zA, rep, zZ, zeB, toD, zap, Q23, Q24, Q25, Q26, Q27, Q28, Nat.reduceLeDiff, Q29, Nat.reduceSub, Q30, Q31, Q32, sc, Q33, Q34, Q35, Q36, Q37, Q26, Q38, Q39, zpZ, zpW, zpT, zqa, zgd, zpX, zpU, zpY, zpV, zgc, zge, zqb, zqc, Bool.not_true, Bool.not_false, List.length_map, zbm, zhJ, zcU, opA, zeV, zeS, zfG, zaM, a] | with_reducible refine zqd ?_ | fail); exact h.go) : P := e a ⟨h⟩
theorem zjy {σ : List zf} {b : List zu} (hb : okB b) {K : KT} (hK : K (.d (.int .i64 (zy b))) σ) : zm Tryz.prog zbG [.d (.slice (zbo b))] σ K := by
  refine zc zhL.is rfl fun hl _ => zhL.goes ?_
  have fin : ∀ z, zy b = z → K (.d (.int .i64 z)) σ := fun z h => h ▸ hK
  clear hK
  obtain ⟨hb1, hb2⟩ := hb
  simp only [zhT, iN, bT, bF, eN]
  cases h4 : decide ((b.length : Int) > 4)
  rotate_left
  · refine zH h4 ?_
    refine zq hl ?_
    exact fin _ (by rw [zy, if_pos (by simp at h4; omega)])
  have h4' : ¬ b.length > 4 := by simp at h4; omega
  refine zH h4 ?_
  refine zl b.length (fun k vs s => vs = [.d (.int .i64 k)] ∧ (∃ T, s = σ ++ T) ∧ zlU (b.take k) = 0) ⟨rfl, ⟨[], by simp⟩, rfl⟩ ?_
  rintro k vs s hk ⟨rfl, ⟨T, rfl⟩, he⟩
  by_cases hlt : k < b.length
  · have hd : decide ((k : Int) < (b.length : Int)) = true := by simp; omega
    have hx : b[k]? = some b[k] := by simp [hlt]
    have hbx := hb2 _ (List.getElem_mem hlt)
    have hgx := zQ (f := zaM) hx
    obtain ⟨x, hxe⟩ : ∃ x, b[k] = x := ⟨_, rfl⟩
    rw [hxe] at hx hgx hbx
    have bad : zuJ x ≠ 0 → K (.d (.int .i64 (zuJ x))) σ := fun h => fin _ (by rw [zy, if_neg h4', if_pos (by rw [znk hx he h]; exact h)]; exact znk hx he h)
    refine znj (zi hd hgx) ?_
    refine c_rqCheck (x := x) hbx ?_
    cases h1 : (zad x != 0)
    rotate_left
    · have h1' : zad x ≠ 0 := by simpa using h1
      refine zH h1 ?_
      refine zq hl ?_
      have e : zuJ x = zad x := by rw [zuJ, if_pos h1']
      rw [e] at bad
      exact bad h1'
    refine zH h1 ?_
    have h1' : ¬ zad x ≠ 0 := by simpa using h1
    have e : zuJ x = zL x.key x.dig := by rw [zuJ, if_neg h1']
    refine zeO ?_
    cases h2 : (zL x.key x.dig != 0)
    rotate_left
    · refine zH h2 ?_
      refine zq hl ?_
      rw [e] at bad
      exact bad (by simpa using h2)
    refine zH (zi h2 (wk1 k (by omega))) ?_
    exact zaG.next hlt ⟨rfl, ⟨_, rfl⟩, zuI hx he (by rw [e]; simpa using h2)⟩
  · have hn : k = b.length := by omega
    subst hn
    rw [List.take_length] at he
    have hd : decide ((b.length : Int) < (b.length : Int)) = false := by simp
    refine zH hd ?_
    refine zl b.length (fun k vs s => vs = [.d (.int .i64 k)] ∧ (∃ T, s = σ ++ T) ∧ (b.take k).Pairwise ndup) ⟨rfl, ⟨T, rfl⟩, by simp⟩ ?_
    rintro k vs s hk' ⟨rfl, ⟨T, rfl⟩, hp⟩
    by_cases hlt : k < b.length
    · have hd : decide ((k : Int) < (b.length : Int)) = true := by simp; omega
      have hx : b[k]? = some b[k] := by simp [hlt]
      have hgx := zQ (f := zaM) hx
      obtain ⟨x, hxe⟩ : ∃ x, b[k] = x := ⟨_, rfl⟩
      rw [hxe] at hx hgx
      have htk : List.take k (List.map zaM b) = List.map zaM (b.take k) := by rw [List.map_take]
      have hlk : (b.take k).length = k := by rw [List.length_take]; omega
      refine znj (zi hd (zi hgx (zi htk hlk))) ?_
      refine ⟨batch_nine b, ?_⟩
      refine znj (zi hd (zi hgx (zi htk hlk))) ?_
      refine zl k (fun j vs s => vs = [.d (.int .i64 j)] ∧ (∃ T', s = σ ++ (T ++ .box [.d (.int .i64 x.client), .d (.int .i64 x.time), .d (.int .i64 x.op.kind), .d (.str x.op.topic), .d (.str x.op.group), .d (.int .i64 x.op.offset), .d (.slice (zeT x.op.recs)), .d (.int .i64 x.key), .d (.int .i64 x.dig)] :: T')) ∧ ∀ y ∈ b.take j, ¬ (x.client = y.client ∧ x.time = y.time)) ⟨rfl, ⟨[], by simp⟩, by simp⟩ ?_
      rintro j vs s hj ⟨rfl, ⟨T', rfl⟩, hno⟩
      by_cases hjk : j < k
      · have hd : decide ((j : Int) < (k : Int)) = true := by simp; omega
        have hy : b[j]? = some (b[j]'(by omega)) := List.getElem?_eq_getElem _
        have hy' : (b.take k)[j]? = some (b[j]'(by omega)) := by rw [List.getElem?_take, if_pos hjk]; exact hy
        have hgy := zQ (f := zaM) hy'
        obtain ⟨y, hye⟩ : ∃ y, b[j]'(by omega) = y := ⟨_, rfl⟩
        rw [hye] at hy hgy hy'
        have hyt : b.take (j + 1) = b.take j ++ [y] := by rw [List.take_add_one, hy]; rfl
        have next : ¬ (x.client = y.client ∧ x.time = y.time) → ∀ z ∈ b.take (j + 1), ¬ (x.client = z.client ∧ x.time = z.time) := fun h z hz => by
          rw [hyt] at hz
          rcases List.mem_append.1 hz with hz | hz
          · exact hno z hz
          · simp at hz; subst hz; exact h
        cases h1 : (x.client == y.client)
        · refine znj (zi hd (zi htk (zi hlk (zi hgy (zi h1 (wk1 j (by omega))))))) ?_
          exact zaG.next hjk ⟨rfl, ⟨_, rfl⟩, next (by simp at h1; exact fun h => h1 h.1)⟩
        cases h2 : (x.time == y.time)
        · refine znj (zi hd (zi htk (zi hlk (zi hgy (zi h1 (zi h2 (wk1 j (by omega)))))))) ?_
          exact zaG.next hjk ⟨rfl, ⟨_, rfl⟩, next (by simp at h2; exact fun h => h2 h.2)⟩
        · refine znj (zi hd (zi htk (zi hlk (zi hgy (zi h1 h2))))) ?_
          refine zq hl ?_
          have hnp := pairs_not hx hy hjk ⟨by simpa using h1, by simpa using h2⟩
          exact fin _ (by rw [zy, if_neg h4', if_neg (by simpa using he), if_neg hnp])
      · have hd : decide ((j : Int) < (k : Int)) = false := by simp; omega
        have hn : j = k := by omega
        subst hn
        refine zH (zi hd (zi htk (zi hlk (wk1 j (by omega))))) ?_
        exact zaG.next hlt ⟨rfl, ⟨_, rfl⟩, zus hx hp hno⟩
    · have hd : decide ((k : Int) < (b.length : Int)) = false := by simp; omega
      refine zH hd ?_
      refine zq hl ?_
      have hn : k = b.length := by omega
      subst hn
      rw [List.take_length] at hp
      exact fin _ (by rw [zy, if_neg h4', if_neg (by simpa using he), if_pos hp])
theorem zld {σ : List zf} {b : List zu} (hb : okB b) {K : KT} (hK : K (.d (.int .i64 (zy b))) σ) : zm Tryz.prog zcE [.d (.slice (zbo b))] σ K := by
  refine zc zlm.is rfl fun hl _ => zlm.goes ?_
  have fin : ∀ z, zy b = z → K (.d (.int .i64 z)) σ := fun z h => h ▸ hK
  clear hK
  obtain ⟨hb1, hb2⟩ := hb
  simp only [zlE, iN, bT, bF, eN]
  cases h4 : decide ((b.length : Int) > 4)
  rotate_left
  · refine zH h4 ?_
    refine zq hl ?_
    exact fin _ (by rw [zy, if_pos (by simp at h4; omega)])
  have h4' : ¬ b.length > 4 := by simp at h4; omega
  refine zH h4 ?_
  refine zl b.length (fun k vs s => vs = [.d (.int .i64 k)] ∧ s = σ ∧ zlU (b.take k) = 0) ⟨rfl, rfl, rfl⟩ ?_
  rintro k vs s hk ⟨rfl, rfl, he⟩
  by_cases hlt : k < b.length
  · have hd : decide ((k : Int) < (b.length : Int)) = true := by simp; omega
    have hx : b[k]? = some b[k] := by simp [hlt]
    have hbx := hb2 _ (List.getElem_mem hlt)
    have hgx := zQ (f := zaM) hx
    obtain ⟨x, hxe⟩ : ∃ x, b[k] = x := ⟨_, rfl⟩
    rw [hxe] at hx hgx hbx
    have bad : zuJ x ≠ 0 → K (.d (.int .i64 (zuJ x))) s := fun h => fin _ (by rw [zy, if_neg h4', if_pos (by rw [znk hx he h]; exact h)]; exact znk hx he h)
    refine znj (zi hd hgx) ?_
    refine zvd (x := x) hbx ?_
    cases h1 : (zad x != 0)
    rotate_left
    · have h1' : zad x ≠ 0 := by simpa using h1
      refine zH h1 ?_
      refine zq hl ?_
      have e : zuJ x = zad x := by rw [zuJ, if_pos h1']
      rw [e] at bad
      exact bad h1'
    refine znj (zi h1 hgx) ?_
    have h1' : ¬ zad x ≠ 0 := by simpa using h1
    have e : zuJ x = zL x.key x.dig := by rw [zuJ, if_neg h1']
    refine zef ?_
    cases h2 : (zL x.key x.dig != 0)
    rotate_left
    · refine zH h2 ?_
      refine zq hl ?_
      rw [e] at bad
      exact bad (by simpa using h2)
    refine zH (zi h2 (wk1 k (by omega))) ?_
    exact zaG.next hlt ⟨rfl, rfl, zuI hx he (by rw [e]; simpa using h2)⟩
  · have hn : k = b.length := by omega
    subst hn
    rw [List.take_length] at he
    have hd : decide ((b.length : Int) < (b.length : Int)) = false := by simp
    refine zH hd ?_
    refine zl b.length (fun k vs q => vs = [.d (.int .i64 k)] ∧ q = s ∧ (b.take k).Pairwise ndup) ⟨rfl, rfl, by simp⟩ ?_
    rintro k vs s hk' ⟨rfl, rfl, hp⟩
    by_cases hlt : k < b.length
    · have hd : decide ((k : Int) < (b.length : Int)) = true := by simp; omega
      have hx : b[k]? = some b[k] := by simp [hlt]
      have hgx := zQ (f := zaM) hx
      obtain ⟨x, hxe⟩ : ∃ x, b[k] = x := ⟨_, rfl⟩
      rw [hxe] at hx hgx
      refine zH hd ?_
      refine zl k (fun j vs q => vs = [.d (.int .i64 j)] ∧ q = s ∧ ∀ y ∈ b.take j, ¬ (x.client = y.client ∧ x.time = y.time)) ⟨rfl, rfl, by simp⟩ ?_
      rintro j vs s hj ⟨rfl, rfl, hno⟩
      by_cases hjk : j < k
      · have hd : decide ((j : Int) < (k : Int)) = true := by simp; omega
        have hy : b[j]? = some (b[j]'(by omega)) := List.getElem?_eq_getElem _
        have hgy := zQ (f := zaM) hy
        obtain ⟨y, hye⟩ : ∃ y, b[j]'(by omega) = y := ⟨_, rfl⟩
        rw [hye] at hy hgy
        have hyt : b.take (j + 1) = b.take j ++ [y] := by rw [List.take_add_one, hy]; rfl
        have next : ¬ (x.client = y.client ∧ x.time = y.time) → ∀ z ∈ b.take (j + 1), ¬ (x.client = z.client ∧ x.time = z.time) := fun h z hz => by
          rw [hyt] at hz
          rcases List.mem_append.1 hz with hz | hz
          · exact hno z hz
          · simp at hz; subst hz; exact h
        cases h1 : (x.client == y.client)
        · refine znj (zi hd (zi hgx (zi hgy (zi h1 (wk1 j (by omega)))))) ?_
          exact zaG.next hjk ⟨rfl, rfl, next (by simp at h1; exact fun h => h1 h.1)⟩
        cases h2 : (x.time == y.time)
        · refine znj (zi hd (zi hgx (zi hgy (zi h1 (zi h2 (wk1 j (by omega))))))) ?_
          exact zaG.next hjk ⟨rfl, rfl, next (by simp at h2; exact fun h => h2 h.2)⟩
        · refine znj (zi hd (zi hgx (zi hgy (zi h1 h2)))) ?_
          refine zq hl ?_
          have hnp := pairs_not hx hy hjk ⟨by simpa using h1, by simpa using h2⟩
          exact fin _ (by rw [zy, if_neg h4', if_neg (by simpa using he), if_neg hnp])
      · have hd : decide ((j : Int) < (k : Int)) = false := by simp; omega
        have hn : j = k := by omega
        subst hn
        refine zH (zi hd (wk1 j (by omega))) ?_
        exact zaG.next hlt ⟨rfl, rfl, zus hx hp hno⟩
    · have hd : decide ((k : Int) < (b.length : Int)) = false := by simp; omega
      refine zH hd ?_
      refine zq hl ?_
      have hn : k = b.length := by omega
      subst hn
      rw [List.take_length] at hp
      exact fin _ (by rw [zy, if_neg h4', if_neg (by simpa using he), if_pos hp])
end Go.Proofs.YtpgahkdjkanblaaGreat
