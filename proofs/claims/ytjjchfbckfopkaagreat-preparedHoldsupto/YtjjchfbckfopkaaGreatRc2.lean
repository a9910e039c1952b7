/- Contracts: what is wrong with batches, on both sides. -/
import Derived.Test.YtjjchfbckfopkaaGreatSpRc
set_option linter.all false
set_option maxRecDepth 100000
set_option linter.unusedSimpArgs false
set_option linter.unusedVariables false
namespace Go.Proofs.YtjjchfbckfopkaaGreat
open Go.AW

theorem wk1 (k : Nat) (h : k ≤ 1073741824) : IntKind.i64.wrap ((k : Int) + 1) = ((k + 1 : Nat) : Int) := by rw [zap (by omega) (by omega)]; rfl
theorem gq37 {A P Q : Prop} (a : A) (h : Q) (e : A → Hd Q → P := by intro a h; (repeat' first | simp -dsimp only [↓zek, ↓zar, ↓zbg, ↓zel, ↓zef, ↓zed, ↓zeg, ↓zee, ↓zbl, ↓zbh, ↓zbm, ↓zbi, ↓zeh, ↓zbe, ↓zbn, ↓zbj, ↓zbo, ↓zbk, ↓zec, ↓zej, ↓zbd, ↓zbp, ↓zdW, ↓zdV, ↓zea, iN, bT, bF, eN, ↓zci, ↓unC, ↓zS, ↓zE, ↓zF, ↓zJ, ↓zZ, ↓zaD, ↓zcj, ↓zab, ↓zbr, ↓zU, ↓zl, ↓zo, ↓zbz, ↓zg, ↓zad, ↓zI, ↓zaz, ↓zaJ, ↓zc, ↓zB, ↓zn, ↓zq, ↓zaj, ↓zcB, ↓zcE, ↓zah, ↓zao, ↓zaA, ↓zaO, ↓zaT, ↓zm, ↓zae, ↓zG, ↓zp, ↓zY, zcD, zaV, zaU, unA, zcK, bnd, zcZ, zaa, zag, zdh, dm, dm1, zM, zau, zdy, zdx, zT, Q0, Q1, Q2, Q3, Q4, Q5, zR, zi, zk, zu, zy, Q6, Q7, Q8, Q9, Q10, Q11, Q12, Q13, Q14, Nat.reduceAdd, Q15, Int.reduceToNat, Q16, Q17, Q18, Q19, Q20, reduceIte, Q21, Q22, zA, rep, zV, zdX, toD, zaf, Q23, Q24, Q25, Q26, Q27, Q28, Nat.reduceLeDiff, Q29, Nat.reduceSub, Q30, Q31, Q32, sc, Q33, Q34, Q35, Q36, Q37, Q26, Q38, Q39, zjZ, zjW, zjT, zka, zdJ, zjX, zjU, zjY, zjV, zdI, zdK, zkf, zkg, Bool.not_true, Bool.not_false, List.length_map, Bool.and_false, Bool.and_self, Bool.false_and, Bool.not_false, Bool.not_true, Bool.true_and, Int.toNat_natCast, Int.toNat_zero, List.drop_zero, List.length_map, List.length_nil, List.nil_append, List.take_length, Nat.sub_zero, Nat.zero_add, Option.isSome_none, Option.isSome_some, Option.map_none, Option.map_some, zav, beq_self_eq_true, bne_self_eq_false, zbC, zbE, opA, zdY, zfn, zeN, zas, a] | with_reducible refine zkw ?_ | fail); exact h.go) : P := e a ⟨h⟩
theorem zlQ {σ : List zb} {b : List zf} (hb : okB b) {K : AV → List zb → Prop} (hK : K (.d (.int .i64 (zx b))) σ) : zt Tryz.prog zbY [.d (.slice (zaM b))] σ K := by
  refine ziC ziH fun hl => ?_
  have fin : ∀ z, zx b = z → K (.d (.int .i64 z)) σ := fun z h => h ▸ hK
  clear hK
  obtain ⟨hb1, hb2⟩ := hb
  simp only [zfb, iN, bT, bF, eN, zl3]
  cases h4 : decide ((b.length : Int) > 4)
  rotate_left
  · refine zfN h4 ?_
    refine zam hl ?_
    exact fin _ (by rw [zx, if_pos (by simp at h4; omega)])
  have h4' : ¬ b.length > 4 := by simp at h4; omega
  refine zfN h4 ?_
  refine zC b.length (fun k vs s => vs = [.d (.int .i64 k)] ∧ (∃ T, s = σ ++ T) ∧ zhx (b.take k) = 0) ⟨rfl, ⟨[], by simp⟩, rfl⟩ ?_
  rintro k vs s hk ⟨rfl, ⟨T, rfl⟩, he⟩
  by_cases hlt : k < b.length
  · have hd : decide ((k : Int) < (b.length : Int)) = true := by simp; omega
    have hx : b[k]? = some b[k] := by simp [hlt]
    have hbx := hb2 _ (List.getElem_mem hlt)
    have hgx := zax (f := zas) hx
    obtain ⟨x, hxe⟩ : ∃ x, b[k] = x := ⟨_, rfl⟩
    rw [hxe] at hx hgx hbx
    have bad : zoN x ≠ 0 → K (.d (.int .i64 (zoN x))) σ := fun h => fin _ (by rw [zx, if_neg h4', if_pos (by rw [ziw hx he h]; exact h)]; exact ziw hx he h)
    refine gq37 (zcr hd hgx) ?_
    refine c_rqCheck (x := x) hbx ?_
    cases h1 : (zD x != 0)
    rotate_left
    · have h1' : zD x ≠ 0 := by simpa using h1
      refine zfN h1 ?_
      refine zam hl ?_
      have e : zoN x = zD x := by rw [zoN, if_pos h1']
      rw [e] at bad
      exact bad h1'
    refine zfN h1 ?_
    have h1' : ¬ zD x ≠ 0 := by simpa using h1
    have e : zoN x = zal x.key x.dig := by rw [zoN, if_neg h1']
    refine zkp ?_
    cases h2 : (zal x.key x.dig != 0)
    rotate_left
    · refine zfN h2 ?_
      refine zam hl ?_
      rw [e] at bad
      exact bad (by simpa using h2)
    refine zfN (zcr h2 (wk1 k (by omega))) ?_
    exact zaQ.next hlt ⟨rfl, ⟨_, rfl⟩, zoM hx he (by rw [e]; simpa using h2)⟩
  · have hn : k = b.length := by omega
    subst hn
    rw [List.take_length] at he
    have hd : decide ((b.length : Int) < (b.length : Int)) = false := by simp
    refine zfN hd ?_
    refine zC b.length (fun k vs s => vs = [.d (.int .i64 k)] ∧ (∃ T, s = σ ++ T) ∧ (b.take k).Pairwise ndup) ⟨rfl, ⟨T, rfl⟩, by simp⟩ ?_
    rintro k vs s hk' ⟨rfl, ⟨T, rfl⟩, hp⟩
    by_cases hlt : k < b.length
    · have hd : decide ((k : Int) < (b.length : Int)) = true := by simp; omega
      have hx : b[k]? = some b[k] := by simp [hlt]
      have hgx := zax (f := zas) hx
      obtain ⟨x, hxe⟩ : ∃ x, b[k] = x := ⟨_, rfl⟩
      rw [hxe] at hx hgx
      have htk : List.take k (List.map zas b) = List.map zas (b.take k) := by rw [List.map_take]
      have hlk : (b.take k).length = k := by rw [List.length_take]; omega
      refine gq37 (zcr hd (zcr hgx (zcr htk hlk))) ?_
      refine ⟨batch_nine b, ?_⟩
      refine gq37 (zcr hd (zcr hgx (zcr htk hlk))) ?_
      refine zC k (fun j vs s => vs = [.d (.int .i64 j)] ∧ (∃ T', s = σ ++ (T ++ .box [.d (.int .i64 x.client), .d (.int .i64 x.time), .d (.int .i64 x.op.kind), .d (.str x.op.topic), .d (.str x.op.group), .d (.int .i64 x.op.offset), .d (.slice (zcX x.op.recs)), .d (.int .i64 x.key), .d (.int .i64 x.dig)] :: T')) ∧ ∀ y ∈ b.take j, ¬ (x.client = y.client ∧ x.time = y.time)) ⟨rfl, ⟨[], by simp⟩, by simp⟩ ?_
      rintro j vs s hj ⟨rfl, ⟨T', rfl⟩, hno⟩
      by_cases hjk : j < k
      · have hd : decide ((j : Int) < (k : Int)) = true := by simp; omega
        have hy : b[j]? = some (b[j]'(by omega)) := List.getElem?_eq_getElem _
        have hy' : (b.take k)[j]? = some (b[j]'(by omega)) := by rw [List.getElem?_take, if_pos hjk]; exact hy
        have hgy := zax (f := zas) hy'
        obtain ⟨y, hye⟩ : ∃ y, b[j]'(by omega) = y := ⟨_, rfl⟩
        rw [hye] at hy hgy hy'
        have hyt : b.take (j + 1) = b.take j ++ [y] := by rw [List.take_add_one, hy]; rfl
        have next : ¬ (x.client = y.client ∧ x.time = y.time) → ∀ z ∈ b.take (j + 1), ¬ (x.client = z.client ∧ x.time = z.time) := fun h z hz => by
          rw [hyt] at hz
          rcases List.mem_append.1 hz with hz | hz
          · exact hno z hz
          · simp at hz; subst hz; exact h
        cases h1 : (x.client == y.client)
        · refine gq37 (zcr hd (zcr htk (zcr hlk (zcr hgy (zcr h1 (wk1 j (by omega))))))) ?_
          exact zaQ.next hjk ⟨rfl, ⟨_, rfl⟩, next (by simp at h1; exact fun h => h1 h.1)⟩
        cases h2 : (x.time == y.time)
        · refine gq37 (zcr hd (zcr htk (zcr hlk (zcr hgy (zcr h1 (zcr h2 (wk1 j (by omega)))))))) ?_
          exact zaQ.next hjk ⟨rfl, ⟨_, rfl⟩, next (by simp at h2; exact fun h => h2 h.2)⟩
        · refine gq37 (zcr hd (zcr htk (zcr hlk (zcr hgy (zcr h1 h2))))) ?_
          refine zam hl ?_
          have hnp := pairs_not hx hy hjk ⟨by simpa using h1, by simpa using h2⟩
          exact fin _ (by rw [zx, if_neg h4', if_neg (by simpa using he), if_neg hnp])
      · have hd : decide ((j : Int) < (k : Int)) = false := by simp; omega
        have hn : j = k := by omega
        subst hn
        refine zfN (zcr hd (zcr htk (zcr hlk (wk1 j (by omega))))) ?_
        exact zaQ.next hlt ⟨rfl, ⟨_, rfl⟩, zox hx hp hno⟩
    · have hd : decide ((k : Int) < (b.length : Int)) = false := by simp; omega
      refine zfN hd ?_
      refine zam hl ?_
      have hn : k = b.length := by omega
      subst hn
      rw [List.take_length] at hp
      exact fin _ (by rw [zx, if_neg h4', if_neg (by simpa using he), if_pos hp])
theorem zkq {σ : List zb} {b : List zf} (hb : okB b) {K : AV → List zb → Prop} (hK : K (.d (.int .i64 (zx b))) σ) : zt Tryz.prog zdi [.d (.slice (zaM b))] σ K := by
  refine ziC zmh fun hl => ?_
  have fin : ∀ z, zx b = z → K (.d (.int .i64 z)) σ := fun z h => h ▸ hK
  clear hK
  obtain ⟨hb1, hb2⟩ := hb
  simp only [zhj, iN, bT, bF, eN]
  cases h4 : decide ((b.length : Int) > 4)
  rotate_left
  · refine zfN h4 ?_
    refine zam hl ?_
    exact fin _ (by rw [zx, if_pos (by simp at h4; omega)])
  have h4' : ¬ b.length > 4 := by simp at h4; omega
  refine zfN h4 ?_
  refine zC b.length (fun k vs s => vs = [.d (.int .i64 k)] ∧ s = σ ∧ zhx (b.take k) = 0) ⟨rfl, rfl, rfl⟩ ?_
  rintro k vs s hk ⟨rfl, rfl, he⟩
  by_cases hlt : k < b.length
  · have hd : decide ((k : Int) < (b.length : Int)) = true := by simp; omega
    have hx : b[k]? = some b[k] := by simp [hlt]
    have hbx := hb2 _ (List.getElem_mem hlt)
    have hgx := zax (f := zas) hx
    obtain ⟨x, hxe⟩ : ∃ x, b[k] = x := ⟨_, rfl⟩
    rw [hxe] at hx hgx hbx
    have bad : zoN x ≠ 0 → K (.d (.int .i64 (zoN x))) s := fun h => fin _ (by rw [zx, if_neg h4', if_pos (by rw [ziw hx he h]; exact h)]; exact ziw hx he h)
    refine gq37 (zcr hd hgx) ?_
    refine zoR (x := x) hbx ?_
    cases h1 : (zD x != 0)
    rotate_left
    · have h1' : zD x ≠ 0 := by simpa using h1
      refine zfN h1 ?_
      refine zam hl ?_
      have e : zoN x = zD x := by rw [zoN, if_pos h1']
      rw [e] at bad
      exact bad h1'
    refine gq37 (zcr h1 hgx) ?_
    have h1' : ¬ zD x ≠ 0 := by simpa using h1
    have e : zoN x = zal x.key x.dig := by rw [zoN, if_neg h1']
    refine ziU ?_
    cases h2 : (zal x.key x.dig != 0)
    rotate_left
    · refine zfN h2 ?_
      refine zam hl ?_
      rw [e] at bad
      exact bad (by simpa using h2)
    refine zfN (zcr h2 (wk1 k (by omega))) ?_
    exact zaQ.next hlt ⟨rfl, rfl, zoM hx he (by rw [e]; simpa using h2)⟩
  · have hn : k = b.length := by omega
    subst hn
    rw [List.take_length] at he
    have hd : decide ((b.length : Int) < (b.length : Int)) = false := by simp
    refine zfN hd ?_
    refine zC b.length (fun k vs q => vs = [.d (.int .i64 k)] ∧ q = s ∧ (b.take k).Pairwise ndup) ⟨rfl, rfl, by simp⟩ ?_
    rintro k vs s hk' ⟨rfl, rfl, hp⟩
    by_cases hlt : k < b.length
    · have hd : decide ((k : Int) < (b.length : Int)) = true := by simp; omega
      have hx : b[k]? = some b[k] := by simp [hlt]
      have hgx := zax (f := zas) hx
      obtain ⟨x, hxe⟩ : ∃ x, b[k] = x := ⟨_, rfl⟩
      rw [hxe] at hx hgx
      refine zfN hd ?_
      refine zC k (fun j vs q => vs = [.d (.int .i64 j)] ∧ q = s ∧ ∀ y ∈ b.take j, ¬ (x.client = y.client ∧ x.time = y.time)) ⟨rfl, rfl, by simp⟩ ?_
      rintro j vs s hj ⟨rfl, rfl, hno⟩
      by_cases hjk : j < k
      · have hd : decide ((j : Int) < (k : Int)) = true := by simp; omega
        have hy : b[j]? = some (b[j]'(by omega)) := List.getElem?_eq_getElem _
        have hgy := zax (f := zas) hy
        obtain ⟨y, hye⟩ : ∃ y, b[j]'(by omega) = y := ⟨_, rfl⟩
        rw [hye] at hy hgy
        have hyt : b.take (j + 1) = b.take j ++ [y] := by rw [List.take_add_one, hy]; rfl
        have next : ¬ (x.client = y.client ∧ x.time = y.time) → ∀ z ∈ b.take (j + 1), ¬ (x.client = z.client ∧ x.time = z.time) := fun h z hz => by
          rw [hyt] at hz
          rcases List.mem_append.1 hz with hz | hz
          · exact hno z hz
          · simp at hz; subst hz; exact h
        cases h1 : (x.client == y.client)
        · refine gq37 (zcr hd (zcr hgx (zcr hgy (zcr h1 (wk1 j (by omega)))))) ?_
          exact zaQ.next hjk ⟨rfl, rfl, next (by simp at h1; exact fun h => h1 h.1)⟩
        cases h2 : (x.time == y.time)
        · refine gq37 (zcr hd (zcr hgx (zcr hgy (zcr h1 (zcr h2 (wk1 j (by omega))))))) ?_
          exact zaQ.next hjk ⟨rfl, rfl, next (by simp at h2; exact fun h => h2 h.2)⟩
        · refine gq37 (zcr hd (zcr hgx (zcr hgy (zcr h1 h2)))) ?_
          refine zam hl ?_
          have hnp := pairs_not hx hy hjk ⟨by simpa using h1, by simpa using h2⟩
          exact fin _ (by rw [zx, if_neg h4', if_neg (by simpa using he), if_neg hnp])
      · have hd : decide ((j : Int) < (k : Int)) = false := by simp; omega
        have hn : j = k := by omega
        subst hn
        refine zfN (zcr hd (wk1 j (by omega))) ?_
        exact zaQ.next hlt ⟨rfl, rfl, zox hx hp hno⟩
    · have hd : decide ((k : Int) < (b.length : Int)) = false := by simp; omega
      refine zfN hd ?_
      refine zam hl ?_
      have hn : k = b.length := by omega
      subst hn
      rw [List.take_length] at hp
      exact fin _ (by rw [zx, if_neg h4', if_neg (by simpa using he), if_pos hp])
end Go.Proofs.YtjjchfbckfopkaaGreat
