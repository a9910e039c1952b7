/- Contracts: what is wrong with batches, on both sides. -/
import Derived.Test.YtcappjcojggehaaGreatRc1
set_option linter.all false
set_option maxRecDepth 100000
set_option linter.unusedSimpArgs false
set_option linter.unusedVariables false
namespace Go.Proofs.YtcappjcojggehaaGreat
open Go.AW

theorem wk1 (k : Nat) (h : k ≤ 1073741824) : IntKind.i64.wrap ((k : Int) + 1) = ((k + 1 : Nat) : Int) := by rw [zak (by omega) (by omega)]; rfl
theorem zoE {A P Q : Prop} (a : A) (h : Q) (e : A → P = Q := by intro a; simp -dsimp only [↓zcS, ↓zal, ↓zaI, ↓zcT, ↓zcN, ↓zcL, ↓zcO, ↓zcM, ↓zaN, ↓zaJ, ↓zaO, ↓zaK, ↓zcP, ↓zaH, ↓zaP, ↓zaL, ↓zaQ, ↓zaM, ↓zcK, ↓zcQ, ↓zaG, ↓zaR, ↓zcH, ↓zcG, ↓zcJ, iN, bT, bF, eN, ↓zbI, ↓unC, ↓zJ, ↓zx, ↓zy, ↓zC, ↓zQ, ↓zaA, ↓zbD, ↓zaa, ↓zbg, ↓zU, ↓zl, ↓zu, ↓zba, ↓ze, ↓zY, ↓zH, ↓zap, ↓zaw, ↓zc, ↓zD, ↓zj, ↓zo, ↓zad, ↓zbM, ↓zbX, ↓zaf, ↓zaj, ↓zar, ↓zax, ↓zaC, ↓zh, ↓zZ, ↓zB, ↓zk, ↓zO, zbS, zaF, zaD, unA, zcd, bnd, zcp, zT, zag, zcs, dm, dm1, zN, zaq, zcv, zcu, zL, Q0, Q1, Q2, Q3, Q4, Q5, zI, zg, zr, zt, zw, Q6, Q7, Q8, Q9, Q10, Q11, Q12, Q13, Q14, Nat.reduceAdd, Q15, Int.reduceToNat, Q16, Q17, Q18, Q19, Q20, reduceIte, Q21, Q22, zq, rep, zP, zcI, toD, zae, Q23, Q24, Q25, Q26, Q27, Q28, Nat.reduceLeDiff, Q29, Nat.reduceSub, Q30, Q31, Q32, sc, Q33, Q34, Q35, Q36, Q37, Q26, Q38, Q39, zfN, zfK, zfH, zfO, zbV, zfL, zfI, zfM, zfJ, zbU, zbW, zfQ, zfR, Bool.not_true, Bool.not_false, List.length_map, zbo, a]; rfl) : P := (e a).mpr h
theorem zla {σ : List zb} {b : List zf} (hb : okB b) {K : AV → List zb → Prop} (hK : K (.d (.int .i64 (zA b))) σ) : zK Tryz.prog zbP [.d (.slice (zbu b))] σ K := by
  refine zi zeo.is rfl fun hl _ => zeo.goes ?_
  have fin : ∀ z, zA b = z → K (.d (.int .i64 z)) σ := fun z h => h ▸ hK
  clear hK
  obtain ⟨hb1, hb2⟩ := hb
  simp only [zes, iN, bT, bF, eN]
  cases h4 : decide ((b.length : Int) > 4)
  rotate_left
  · (repeat' first | refine zfd h4 ?_ | with_reducible first | exact ⟨⟩ | refine zn ?_ | fail)
    (first | refine zai hl ?_ | refine zah hl ?_)
    exact fin _ (by rw [zA, if_pos (by simp at h4; omega)])
  have h4' : ¬ b.length > 4 := by simp at h4; omega
  (repeat' first | refine zfd h4 ?_ | with_reducible first | exact ⟨⟩ | refine zn ?_ | fail)
  refine zX b.length (fun k vs s => vs = [.d (.int .i64 k)] ∧ (∃ T, s = σ ++ T) ∧ zhq (b.take k) = 0) ⟨rfl, ⟨[], by simp⟩, rfl⟩ ?_
  rintro k vs s hk ⟨rfl, ⟨T, rfl⟩, he⟩
  by_cases hlt : k < b.length
  · have hd : decide ((k : Int) < (b.length : Int)) = true := by simp; omega
    have hx : b[k]? = some b[k] := by simp [hlt]
    have hbx := hb2 _ (List.getElem_mem hlt)
    have hgx := zaS (f := zbo) hx
    obtain ⟨x, hxe⟩ : ∃ x, b[k] = x := ⟨_, rfl⟩
    rw [hxe] at hx hgx hbx
    have bad : znz x ≠ 0 → K (.d (.int .i64 (znz x))) σ := fun h => fin _ (by rw [zA, if_neg h4', if_pos (by rw [zil hx he h]; exact h)]; exact zil hx he h)
    (repeat' first | refine zoE (zck hd hgx) ?_ | with_reducible first | exact ⟨⟩ | refine zn ?_ | fail)
    refine c_rqCheck (x := x) hbx ?_
    cases h1 : (zG x != 0)
    rotate_left
    · have h1' : zG x ≠ 0 := by simpa using h1
      (repeat' first | refine zfd h1 ?_ | with_reducible first | exact ⟨⟩ | refine zn ?_ | fail)
      (first | refine zai hl ?_ | refine zah hl ?_)
      have e : znz x = zG x := by rw [znz, if_pos h1']
      rw [e] at bad
      exact bad h1'
    (repeat' first | refine zfd h1 ?_ | with_reducible first | exact ⟨⟩ | refine zn ?_ | fail)
    have h1' : ¬ zG x ≠ 0 := by simpa using h1
    have e : znz x = zan x.key x.dig := by rw [znz, if_neg h1']
    refine zjz ?_
    cases h2 : (zan x.key x.dig != 0)
    rotate_left
    · (repeat' first | refine zfd h2 ?_ | with_reducible first | exact ⟨⟩ | refine zn ?_ | fail)
      (first | refine zai hl ?_ | refine zah hl ?_)
      rw [e] at bad
      exact bad (by simpa using h2)
    (repeat' first | refine zfd (zck h2 (wk1 k (by omega))) ?_ | with_reducible first | exact ⟨⟩ | refine zn ?_ | fail)
    exact zbh.next hlt ⟨rfl, ⟨_, rfl⟩, zny hx he (by rw [e]; simpa using h2)⟩
  · have hn : k = b.length := by omega
    subst hn
    rw [List.take_length] at he
    have hd : decide ((b.length : Int) < (b.length : Int)) = false := by simp
    (repeat' first | refine zfd hd ?_ | with_reducible first | exact ⟨⟩ | refine zn ?_ | fail)
    refine zX b.length (fun k vs s => vs = [.d (.int .i64 k)] ∧ (∃ T, s = σ ++ T) ∧ (b.take k).Pairwise ndup) ⟨rfl, ⟨T, rfl⟩, by simp⟩ ?_
    rintro k vs s hk' ⟨rfl, ⟨T, rfl⟩, hp⟩
    by_cases hlt : k < b.length
    · have hd : decide ((k : Int) < (b.length : Int)) = true := by simp; omega
      have hx : b[k]? = some b[k] := by simp [hlt]
      have hgx := zaS (f := zbo) hx
      obtain ⟨x, hxe⟩ : ∃ x, b[k] = x := ⟨_, rfl⟩
      rw [hxe] at hx hgx
      have htk : List.take k (List.map zbo b) = List.map zbo (b.take k) := by rw [List.map_take]
      have hlk : (b.take k).length = k := by rw [List.length_take]; omega
      (repeat' first | refine zoE (zck hd (zck hgx (zck htk hlk))) ?_ | with_reducible first | exact ⟨⟩ | refine zn ?_ | fail)
      refine ⟨batch_nine b, ?_⟩
      (repeat' first | refine zoE (zck hd (zck hgx (zck htk hlk))) ?_ | with_reducible first | exact ⟨⟩ | refine zn ?_ | fail)
      refine zX k (fun j vs s => vs = [.d (.int .i64 j)] ∧ (∃ T', s = σ ++ (T ++ .box [.d (.int .i64 x.client), .d (.int .i64 x.time), .d (.int .i64 x.op.kind), .d (.str x.op.topic), .d (.str x.op.group), .d (.int .i64 x.op.offset), .d (.slice (zdA x.op.recs)), .d (.int .i64 x.key), .d (.int .i64 x.dig)] :: T')) ∧ ∀ y ∈ b.take j, ¬ (x.client = y.client ∧ x.time = y.time)) ⟨rfl, ⟨[], by simp⟩, by simp⟩ ?_
      rintro j vs s hj ⟨rfl, ⟨T', rfl⟩, hno⟩
      by_cases hjk : j < k
      · have hd : decide ((j : Int) < (k : Int)) = true := by simp; omega
        have hy : b[j]? = some (b[j]'(by omega)) := List.getElem?_eq_getElem _
        have hy' : (b.take k)[j]? = some (b[j]'(by omega)) := by rw [List.getElem?_take, if_pos hjk]; exact hy
        have hgy := zaS (f := zbo) hy'
        obtain ⟨y, hye⟩ : ∃ y, b[j]'(by omega) = y := ⟨_, rfl⟩
        rw [hye] at hy hgy hy'
        have hyt : b.take (j + 1) = b.take j ++ [y] := by rw [List.take_add_one, hy]; rfl
        have next : ¬ (x.client = y.client ∧ x.time = y.time) → ∀ z ∈ b.take (j + 1), ¬ (x.client = z.client ∧ x.time = z.time) := fun h z hz => by
          rw [hyt] at hz
          rcases List.mem_append.1 hz with hz | hz
          · exact hno z hz
          · simp at hz; subst hz; exact h
        cases h1 : (x.client == y.client)
        · (repeat' first | refine zoE (zck hd (zck htk (zck hlk (zck hgy (zck h1 (wk1 j (by omega))))))) ?_ | with_reducible first | exact ⟨⟩ | refine zn ?_ | fail)
          exact zbh.next hjk ⟨rfl, ⟨_, rfl⟩, next (by simp at h1; exact fun h => h1 h.1)⟩
        cases h2 : (x.time == y.time)
        · (repeat' first | refine zoE (zck hd (zck htk (zck hlk (zck hgy (zck h1 (zck h2 (wk1 j (by omega)))))))) ?_ | with_reducible first | exact ⟨⟩ | refine zn ?_ | fail)
          exact zbh.next hjk ⟨rfl, ⟨_, rfl⟩, next (by simp at h2; exact fun h => h2 h.2)⟩
        · (repeat' first | refine zoE (zck hd (zck htk (zck hlk (zck hgy (zck h1 h2))))) ?_ | with_reducible first | exact ⟨⟩ | refine zn ?_ | fail)
          (first | refine zai hl ?_ | refine zah hl ?_)
          have hnp := pairs_not hx hy hjk ⟨by simpa using h1, by simpa using h2⟩
          exact fin _ (by rw [zA, if_neg h4', if_neg (by simpa using he), if_neg hnp])
      · have hd : decide ((j : Int) < (k : Int)) = false := by simp; omega
        have hn : j = k := by omega
        subst hn
        (repeat' first | refine zfd (zck hd (zck htk (zck hlk (wk1 j (by omega))))) ?_ | with_reducible first | exact ⟨⟩ | refine zn ?_ | fail)
        exact zbh.next hlt ⟨rfl, ⟨_, rfl⟩, znk hx hp hno⟩
    · have hd : decide ((k : Int) < (b.length : Int)) = false := by simp; omega
      (repeat' first | refine zfd hd ?_ | with_reducible first | exact ⟨⟩ | refine zn ?_ | fail)
      (first | refine zai hl ?_ | refine zah hl ?_)
      have hn : k = b.length := by omega
      subst hn
      rw [List.take_length] at hp
      exact fin _ (by rw [zA, if_neg h4', if_neg (by simpa using he), if_pos hp])
theorem zgE {σ : List zb} {b : List zf} (hb : okB b) {K : AV → List zb → Prop} (hK : K (.d (.int .i64 (zA b))) σ) : zK Tryz.prog zcm [.d (.slice (zbu b))] σ K := by
  refine zi zgM.is rfl fun hl _ => zgM.goes ?_
  have fin : ∀ z, zA b = z → K (.d (.int .i64 z)) σ := fun z h => h ▸ hK
  clear hK
  obtain ⟨hb1, hb2⟩ := hb
  simp only [zha, iN, bT, bF, eN]
  cases h4 : decide ((b.length : Int) > 4)
  rotate_left
  · (repeat' first | refine zfd h4 ?_ | with_reducible first | exact ⟨⟩ | refine zn ?_ | fail)
    (first | refine zai hl ?_ | refine zah hl ?_)
    exact fin _ (by rw [zA, if_pos (by simp at h4; omega)])
  have h4' : ¬ b.length > 4 := by simp at h4; omega
  (repeat' first | refine zfd h4 ?_ | with_reducible first | exact ⟨⟩ | refine zn ?_ | fail)
  refine zX b.length (fun k vs s => vs = [.d (.int .i64 k)] ∧ s = σ ∧ zhq (b.take k) = 0) ⟨rfl, rfl, rfl⟩ ?_
  rintro k vs s hk ⟨rfl, rfl, he⟩
  by_cases hlt : k < b.length
  · have hd : decide ((k : Int) < (b.length : Int)) = true := by simp; omega
    have hx : b[k]? = some b[k] := by simp [hlt]
    have hbx := hb2 _ (List.getElem_mem hlt)
    have hgx := zaS (f := zbo) hx
    obtain ⟨x, hxe⟩ : ∃ x, b[k] = x := ⟨_, rfl⟩
    rw [hxe] at hx hgx hbx
    have bad : znz x ≠ 0 → K (.d (.int .i64 (znz x))) s := fun h => fin _ (by rw [zA, if_neg h4', if_pos (by rw [zil hx he h]; exact h)]; exact zil hx he h)
    (repeat' first | refine zoE (zck hd hgx) ?_ | with_reducible first | exact ⟨⟩ | refine zn ?_ | fail)
    refine znP (x := x) hbx ?_
    cases h1 : (zG x != 0)
    rotate_left
    · have h1' : zG x ≠ 0 := by simpa using h1
      (repeat' first | refine zfd h1 ?_ | with_reducible first | exact ⟨⟩ | refine zn ?_ | fail)
      (first | refine zai hl ?_ | refine zah hl ?_)
      have e : znz x = zG x := by rw [znz, if_pos h1']
      rw [e] at bad
      exact bad h1'
    (repeat' first | refine zoE (zck h1 hgx) ?_ | with_reducible first | exact ⟨⟩ | refine zn ?_ | fail)
    have h1' : ¬ zG x ≠ 0 := by simpa using h1
    have e : znz x = zan x.key x.dig := by rw [znz, if_neg h1']
    refine ziB ?_
    cases h2 : (zan x.key x.dig != 0)
    rotate_left
    · (repeat' first | refine zfd h2 ?_ | with_reducible first | exact ⟨⟩ | refine zn ?_ | fail)
      (first | refine zai hl ?_ | refine zah hl ?_)
      rw [e] at bad
      exact bad (by simpa using h2)
    (repeat' first | refine zfd (zck h2 (wk1 k (by omega))) ?_ | with_reducible first | exact ⟨⟩ | refine zn ?_ | fail)
    exact zbh.next hlt ⟨rfl, rfl, zny hx he (by rw [e]; simpa using h2)⟩
  · have hn : k = b.length := by omega
    subst hn
    rw [List.take_length] at he
    have hd : decide ((b.length : Int) < (b.length : Int)) = false := by simp
    (repeat' first | refine zfd hd ?_ | with_reducible first | exact ⟨⟩ | refine zn ?_ | fail)
    refine zX b.length (fun k vs q => vs = [.d (.int .i64 k)] ∧ q = s ∧ (b.take k).Pairwise ndup) ⟨rfl, rfl, by simp⟩ ?_
    rintro k vs s hk' ⟨rfl, rfl, hp⟩
    by_cases hlt : k < b.length
    · have hd : decide ((k : Int) < (b.length : Int)) = true := by simp; omega
      have hx : b[k]? = some b[k] := by simp [hlt]
      have hgx := zaS (f := zbo) hx
      obtain ⟨x, hxe⟩ : ∃ x, b[k] = x := ⟨_, rfl⟩
      rw [hxe] at hx hgx
      (repeat' first | refine zfd hd ?_ | with_reducible first | exact ⟨⟩ | refine zn ?_ | fail)
      refine zX k (fun j vs q => vs = [.d (.int .i64 j)] ∧ q = s ∧ ∀ y ∈ b.take j, ¬ (x.client = y.client ∧ x.time = y.time)) ⟨rfl, rfl, by simp⟩ ?_
      rintro j vs s hj ⟨rfl, rfl, hno⟩
      by_cases hjk : j < k
      · have hd : decide ((j : Int) < (k : Int)) = true := by simp; omega
        have hy : b[j]? = some (b[j]'(by omega)) := List.getElem?_eq_getElem _
        have hgy := zaS (f := zbo) hy
        obtain ⟨y, hye⟩ : ∃ y, b[j]'(by omega) = y := ⟨_, rfl⟩
        rw [hye] at hy hgy
        have hyt : b.take (j + 1) = b.take j ++ [y] := by rw [List.take_add_one, hy]; rfl
        have next : ¬ (x.client = y.client ∧ x.time = y.time) → ∀ z ∈ b.take (j + 1), ¬ (x.client = z.client ∧ x.time = z.time) := fun h z hz => by
          rw [hyt] at hz
          rcases List.mem_append.1 hz with hz | hz
          · exact hno z hz
          · simp at hz; subst hz; exact h
        cases h1 : (x.client == y.client)
        · (repeat' first | refine zoE (zck hd (zck hgx (zck hgy (zck h1 (wk1 j (by omega)))))) ?_ | with_reducible first | exact ⟨⟩ | refine zn ?_ | fail)
          exact zbh.next hjk ⟨rfl, rfl, next (by simp at h1; exact fun h => h1 h.1)⟩
        cases h2 : (x.time == y.time)
        · (repeat' first | refine zoE (zck hd (zck hgx (zck hgy (zck h1 (zck h2 (wk1 j (by omega))))))) ?_ | with_reducible first | exact ⟨⟩ | refine zn ?_ | fail)
          exact zbh.next hjk ⟨rfl, rfl, next (by simp at h2; exact fun h => h2 h.2)⟩
        · (repeat' first | refine zoE (zck hd (zck hgx (zck hgy (zck h1 h2)))) ?_ | with_reducible first | exact ⟨⟩ | refine zn ?_ | fail)
          (first | refine zai hl ?_ | refine zah hl ?_)
          have hnp := pairs_not hx hy hjk ⟨by simpa using h1, by simpa using h2⟩
          exact fin _ (by rw [zA, if_neg h4', if_neg (by simpa using he), if_neg hnp])
      · have hd : decide ((j : Int) < (k : Int)) = false := by simp; omega
        have hn : j = k := by omega
        subst hn
        (repeat' first | refine zfd (zck hd (wk1 j (by omega))) ?_ | with_reducible first | exact ⟨⟩ | refine zn ?_ | fail)
        exact zbh.next hlt ⟨rfl, rfl, znk hx hp hno⟩
    · have hd : decide ((k : Int) < (b.length : Int)) = false := by simp; omega
      (repeat' first | refine zfd hd ?_ | with_reducible first | exact ⟨⟩ | refine zn ?_ | fail)
      (first | refine zai hl ?_ | refine zah hl ?_)
      have hn : k = b.length := by omega
      subst hn
      rw [List.take_length] at hp
      exact fin _ (by rw [zA, if_neg h4', if_neg (by simpa using he), if_pos hp])
end Go.Proofs.YtcappjcojggehaaGreat
