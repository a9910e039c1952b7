/- Contracts: runes and names. -/
import Derived.Test.YtjjchfbckfopkaaGreatCodec1
import Derived.Test.YtjjchfbckfopkaaGreatSpUtf
set_option linter.all false
set_option maxRecDepth 100000
set_option linter.unusedSimpArgs false
namespace Go.Proofs.YtjjchfbckfopkaaGreat
open Go.AW

theorem c_Runes {σ : List zb} {s : List UInt8} (hs : s.length ≤ 1073741824) {K : AV → List zb → Prop} (hK : K (.d (.int .i64 (zeM s))) σ) : zp Tryz.prog zks [.d (.str s)] σ K := by
  refine zil e_op_Runes fun hl => ?_
  simp only [zoR, iN, bT, bF, eN, zae]
  refine zB s.length (fun pos vs s' => ∃ cnt : Nat, vs = [.d (.int .i64 cnt)] ∧ s' = σ ++ [.iter s pos] ∧ pos ≤ s.length ∧ cnt ≤ pos ∧ zcN (s.length + 1) s = (zcN (s.length + 1) (s.drop pos)).map (· + cnt)) ⟨0, rfl, rfl, by omega, by omega, by simp⟩ ?_
  rintro pos vs s' hp ⟨cnt, rfl, rfl, hps, hc, hr⟩
  simp only [zl, zjx, zm, List.getElem?_cons_zero]
  split
  · rename_i hlt
    have hd : s.drop pos ≠ [] := by intro e; have := congrArg List.length e; simp at this; omega
    have hw := goDec_width _ hd
    have hw2 := zii (s.drop pos)
    simp only [decode_eq s pos hlt]
    have hcount : zcN (s.length + 1) (s.drop pos) = if (zfV (s.drop pos)).2 = 0 ∨ badF (zfV (s.drop pos)).1 = true then none else (zcN s.length ((s.drop pos).drop (zfV (s.drop pos)).2)).map (· + 1) := by
      rw [zcN, if_neg hd]
    (repeat' (first | (refine zlh ?_; try with_reducible exact True.intro) | (refine zI (fun h => ?_) (fun h => ?_) <;> (try rw [h])) | ((with_reducible refine And.intro ?_ ?_); focus (first | omega | rfl | decide))))
    all_goals first
      | (refine zad hl ?_
         have hb : badF (zjE (s.drop pos)).1 = true := by
           simp only [badF]
           (try simp only [decide_eq_true_eq, decide_eq_false_iff_not, beq_iff_eq, beq_eq_false_iff_ne, bne_iff_ne, ne_eq, Bool.not_eq_true', Bool.not_eq_false', bne_eq_false_iff_eq] at *)
           omega
         rw [goDec_bad] at hb
         have : zcN (s.length + 1) (s.drop pos) = none := by rw [hcount, if_pos (by simpa using hb)]
         have h0 : zeM s = 0 := by simp [zeM, hr, this]
         rw [h0] at hK; exact hK)
      | skip
    all_goals
      have hb : badF (zjE (s.drop pos)).1 = false := by
        simp only [badF]
        (try simp only [decide_eq_true_eq, decide_eq_false_iff_not, beq_iff_eq, beq_eq_false_iff_ne, bne_iff_ne, ne_eq, Bool.not_eq_true', Bool.not_eq_false', bne_eq_false_iff_eq] at *)
        omega
      obtain ⟨g1, g2, g3⟩ := goDec_good hb
      rw [zan (by omega) (by omega)]
      refine zaP.to (pos + (zjE (s.drop pos)).2) (by omega) (by simp at hw; omega) ⟨cnt + 1, rfl, rfl, by simp at hw; omega, by omega, ?_⟩
      rw [hr, hcount, if_neg (by simp [g2, g3]), g1, List.drop_drop, zjc s.length (s.length + 1) _ (by simp at *; omega) (by simp; omega)]
      cases zcN (s.length + 1) (List.drop (pos + (zfV (s.drop pos)).2) s) <;> simp
      omega
  · rename_i hlt
    have e : s.drop pos = [] := List.drop_eq_nil_of_le (by omega)
    have hcnt : zcN (s.length + 1) s = some cnt := by rw [hr, e]; simp [zcN]
    (refine gq19 ?_; try with_reducible exact True.intro)
    refine zI (fun h => ?_) (fun h => ?_)
    all_goals (try (refine gq18 h ?_; try with_reducible exact True.intro))
    · refine zad hl ?_
      have h0 : zeM s = 0 := by simp [zeM, hcnt]; simp at h; omega
      rw [h0] at hK; exact hK
    · refine zad hl ?_
      have h0 : zeM s = cnt := by simp [zeM, hcnt]; simp at h; omega
      rw [h0] at hK; exact hK
theorem gq22 {P Q : Prop} (h : Q) (e : P = Q := by simp -dsimp only [↓zex, ↓zav, ↓zbj, ↓zey, ↓zer, ↓zep, ↓zes, ↓zeq, ↓zbo, ↓zbk, ↓zbp, ↓zbl, ↓zet, ↓zbh, ↓zbq, ↓zbm, ↓zbr, ↓zbn, ↓zem, ↓zew, ↓zbg, ↓zbt, ↓zeh, ↓zeg, ↓zel, iN, bT, bF, eN, ↓zcm, ↓unC, ↓zU, ↓zE, ↓zF, ↓zK, ↓zab, ↓zaA, ↓zct, ↓zY, ↓zbd, ↓zX, ↓zj, ↓zq, ↓zbI, ↓zf, ↓zac, ↓zJ, ↓zaB, ↓zaK, ↓zd, ↓zD, ↓zn, ↓zr, ↓zal, ↓zcE, ↓zcM, ↓zak, ↓zas, ↓zaG, ↓zaM, ↓zaS, ↓zl, ↓zae, ↓zG, ↓zo, ↓zZ, zcK, zbc, zba, unA, zcS, bnd, zdq, zaa, zai, zdr, dm, dm1, zP, zaC, zdL, zdK, zT, Q0, Q1, Q2, Q3, Q4, Q5, zS, zh, zm, zw, zA, Q6, Q7, Q8, Q9, Q10, Q11, Q12, Q13, Q14, Nat.reduceAdd, Q15, Int.reduceToNat, Q16, Q17, Q18, Q19, Q20, reduceIte, Q21, Q22, S_op_Name, zx]; rfl) : P := e.mpr h
theorem c_Name {σ : List zb} {s : List UInt8} (hs : s.length ≤ 1073741824) {K : AV → List zb → Prop} (hK : K (.d (.bool (zhg s))) σ) : zp Tryz.prog zjz [.d (.str s)] σ K := by
  refine zil e_op_Name fun hl => ?_
  (refine gq22 ?_; try with_reducible exact True.intro)
  refine c_Runes hs ?_
  (refine gq19 ?_; try with_reducible exact True.intro)
  refine zad hl ?_
  have : decide ((zeM s : Int) > 0) = zhg s := by simp [zhg]
  rw [this]; exact hK

theorem c_rsize {σ : List zb} {c : Nat} {K : AV → List zb → Prop} (hK : K (.d (.int .i64 (zhf c))) σ) : zp Tryz.prog zkp [.d (.int .u8 c)] σ K := by
  refine zil e_r06_size fun hl => ?_
  simp only [zoN, iN, bT, bF, eN]
  (repeat' (first | (refine zlh ?_; try with_reducible exact True.intro) | (refine zI (fun h => ?_) (fun h => ?_) <;> (try rw [h])) | ((with_reducible refine And.intro ?_ ?_); focus (first | omega | rfl | decide))))
  all_goals refine zad hl ?_
  all_goals (try simp only [decide_eq_true_eq, decide_eq_false_iff_not, beq_iff_eq, beq_eq_false_iff_ne, bne_iff_ne, ne_eq, Bool.not_eq_true', Bool.not_eq_false', bne_eq_false_iff_eq] at *)
  all_goals
    simp only [zcf, dmT, dm, dm1]
    have e : ∀ z : Nat, zhf c = z → K (.d (.int .i64 z)) σ := fun z hz => by rw [← hz]; exact hK
    first
    | exact e 0 (by unfold zhf; rw [if_neg (by omega), if_neg (by omega), if_neg (by omega), if_neg (by omega)])
    | exact e 1 (by unfold zhf; rw [if_pos (by omega)])
    | exact e 2 (by unfold zhf; rw [if_neg (by omega), if_pos (by omega)])
    | exact e 3 (by unfold zhf; rw [if_neg (by omega), if_neg (by omega), if_pos (by omega)])
    | exact e 4 (by unfold zhf; rw [if_neg (by omega), if_neg (by omega), if_neg (by omega), if_pos (by omega)])

theorem mask_eq (z : Nat) (hz : z = 2 ∨ z = 3 ∨ z = 4) (b : Nat) (hb : b < 256) :
    IntKind.i64.wrap ↑(BitVec.ofInt IntKind.i64.bits (b : Int) &&& BitVec.ofInt IntKind.i64.bits (IntKind.i64.wrap (IntKind.i64.wrap (1 * 2 ^ (min (IntKind.i64.wrap (7 - (z : Int))).toNat IntKind.i64.bits)) - 1))).toNat = ((b % 2 ^ (7 - z) : Nat) : Int) := by
  have h0 : (BitVec.ofInt 64 (b : Int)).toNat = b := by simp; omega
  have key : ∀ m : Nat, (m = 3 ∨ m = 4 ∨ m = 5) → IntKind.i64.wrap ↑(BitVec.ofInt 64 (b : Int) &&& BitVec.ofInt 64 ((2 : Int) ^ m - 1)).toNat = ((b % 2 ^ m : Nat) : Int) := fun m hm => by
    have : (BitVec.ofInt 64 (b : Int) &&& BitVec.ofInt 64 ((2 : Int) ^ m - 1)).toNat = b % 2 ^ m := by
      rw [BitVec.toNat_and, h0]
      rcases hm with rfl | rfl | rfl
      · exact Nat.and_two_pow_sub_one_eq_mod b 3
      · exact Nat.and_two_pow_sub_one_eq_mod b 4
      · exact Nat.and_two_pow_sub_one_eq_mod b 5
    rw [this]
    have : b % 2 ^ m < 256 := Nat.lt_of_le_of_lt (Nat.mod_le _ _) hb
    exact zan (by omega) (by omega)
  rcases hz with rfl | rfl | rfl
  · exact key 5 (by omega)
  · exact key 4 (by omega)
  · exact key 3 (by omega)

theorem partF_lt (s : List UInt8) (z : Nat) (hz : 2 ≤ z) : ∀ i, zdU s z i < 32 * 64 ^ i
  | 0 => by
    simp only [zdU]
    have : 2 ^ (7 - z) ≤ 2 ^ 5 := Nat.pow_le_pow_right (by omega) (by omega)
    have := Nat.mod_lt (at8 s 0) (y := 2 ^ (7 - z)) (Nat.pos_of_ne_zero (by simp))
    omega
  | i + 1 => by
    simp only [zdU, Nat.pow_succ]
    have := partF_lt s z hz i
    omega

theorem at8_some {s : List UInt8} {i : Nat} (h : i < s.length) : s[i]? = some s[i] ∧ (s[i].toNat : Int) = (at8 s i : Int) := by
  have : s[i]? = some s[i] := List.getElem?_eq_getElem h
  exact ⟨this, by simp [at8, this]⟩

theorem gq23 {A P Q : Prop} (a : A) (h : Q) (e : A → P = Q := by intro a; simp -dsimp only [↓zex, ↓zav, ↓zbj, ↓zey, ↓zer, ↓zep, ↓zes, ↓zeq, ↓zbo, ↓zbk, ↓zbp, ↓zbl, ↓zet, ↓zbh, ↓zbq, ↓zbm, ↓zbr, ↓zbn, ↓zem, ↓zew, ↓zbg, ↓zbt, ↓zeh, ↓zeg, ↓zel, iN, bT, bF, eN, ↓zcm, ↓unC, ↓zU, ↓zE, ↓zF, ↓zK, ↓zab, ↓zaA, ↓zct, ↓zY, ↓zbd, ↓zX, ↓zj, ↓zq, ↓zbI, ↓zf, ↓zac, ↓zJ, ↓zaB, ↓zaK, ↓zd, ↓zD, ↓zn, ↓zr, ↓zal, ↓zcE, ↓zcM, ↓zak, ↓zas, ↓zaG, ↓zaM, ↓zaS, ↓zl, ↓zae, ↓zG, ↓zo, ↓zZ, zcK, zbc, zba, unA, zcS, bnd, zdq, zaa, zai, zdr, dm, dm1, zP, zaC, zdL, zdK, zT, Q0, Q1, Q2, Q3, Q4, Q5, zS, zh, zm, zw, zA, Q6, Q7, Q8, Q9, Q10, Q11, Q12, Q13, Q14, Nat.reduceAdd, Q15, Int.reduceToNat, Q16, Q17, Q18, Q19, Q20, reduceIte, Q21, Q22, znx, zx, a]; rfl) : P := (e a).mpr h
theorem gq24 {A P Q : Prop} (a : A) (h : Q) (e : A → P = Q := by intro a; simp -dsimp only [↓zex, ↓zav, ↓zbj, ↓zey, ↓zer, ↓zep, ↓zes, ↓zeq, ↓zbo, ↓zbk, ↓zbp, ↓zbl, ↓zet, ↓zbh, ↓zbq, ↓zbm, ↓zbr, ↓zbn, ↓zem, ↓zew, ↓zbg, ↓zbt, ↓zeh, ↓zeg, ↓zel, iN, bT, bF, eN, ↓zcm, ↓unC, ↓zU, ↓zE, ↓zF, ↓zK, ↓zab, ↓zaA, ↓zct, ↓zY, ↓zbd, ↓zX, ↓zj, ↓zq, ↓zbI, ↓zf, ↓zac, ↓zJ, ↓zaB, ↓zaK, ↓zd, ↓zD, ↓zn, ↓zr, ↓zal, ↓zcE, ↓zcM, ↓zak, ↓zas, ↓zaG, ↓zaM, ↓zaS, ↓zl, ↓zae, ↓zG, ↓zo, ↓zZ, zcK, zbc, zba, unA, zcS, bnd, zdq, zaa, zai, zdr, dm, dm1, zP, zaC, zdL, zdK, zT, Q0, Q1, Q2, Q3, Q4, Q5, zS, zh, zm, zw, zA, Q6, Q7, Q8, Q9, Q10, Q11, Q12, Q13, Q14, Nat.reduceAdd, Q15, Int.reduceToNat, Q16, Q17, Q18, Q19, Q20, reduceIte, Q21, Q22, zx, rep, zV, zei, toD, zaf, Q23, Q24, Q25, Q26, Q27, Q28, Nat.reduceLeDiff, Q29, Nat.reduceSub, Q30, Q31, Q32, sc, Q33, Q34, Q35, a]; rfl) : P := (e a).mpr h
theorem c_rune1 {σ : List zb} {s : List UInt8} (hs : s.length ≤ 1073741824) (hne : s ≠ []) {K : AV → List zb → Prop} (hK : K (.tup [.d (.int .i64 (zfV s).1), .d (.int .i64 (zfV s).2)]) σ) : zp Tryz.prog ziO [.d (.str s)] σ K := by
  refine zil e_r06_rune1 fun hl => ?_
  have hpos : 0 < s.length := List.length_pos_iff.2 hne
  obtain ⟨g1, g2⟩ := at8_some hpos
  have hb0 := znr s 0
  (refine gq23 (zbC g1 g2) ?_; try with_reducible exact True.intro)
  refine ⟨by omega, c_rsize ?_⟩
  have hz4 : zhf (at8 s 0) = 0 ∨ zhf (at8 s 0) = 1 ∨ zhf (at8 s 0) = 2 ∨ zhf (at8 s 0) = 3 ∨ zhf (at8 s 0) = 4 := by
    unfold zhf; split <;> (try split) <;> (try split) <;> (try split) <;> omega
  obtain ⟨z, hz⟩ : ∃ z, z = zhf (at8 s 0) := ⟨_, rfl⟩
  rw [← hz] at hz4 ⊢
  have bad : z = 0 ∨ z > s.length → K (.tup [.d (.int .i64 0), .d (.int .i64 0)]) σ := fun h => by
    have : zfV s = (0, 0) := by simp only [zfV, ← hz]; rw [if_pos h]
    rw [this] at hK; exact hK
  (refine gq19 ?_; try with_reducible exact True.intro)
  refine zI (fun h => ?_) (fun h => ?_)
  all_goals (try (refine gq18 (zbC h (zbC g1 g2)) ?_; try with_reducible exact True.intro))
  · refine zad hl ?_
    exact bad (.inl (by (try simp only [decide_eq_true_eq, decide_eq_false_iff_not, beq_iff_eq, beq_eq_false_iff_ne, bne_iff_ne, ne_eq, Bool.not_eq_true', Bool.not_eq_false', bne_eq_false_iff_eq] at *); omega))
  have hz0 : z ≠ 0 := by (try simp only [decide_eq_true_eq, decide_eq_false_iff_not, beq_iff_eq, beq_eq_false_iff_ne, bne_iff_ne, ne_eq, Bool.not_eq_true', Bool.not_eq_false', bne_eq_false_iff_eq] at *); omega
  refine zI (fun h => ?_) (fun h => ?_)
  all_goals (try (refine gq18 (zbC h (zbC g1 g2)) ?_; try with_reducible exact True.intro))
  · refine zad hl ?_
    exact bad (.inr (by (try simp only [decide_eq_true_eq, decide_eq_false_iff_not, beq_iff_eq, beq_eq_false_iff_ne, bne_iff_ne, ne_eq, Bool.not_eq_true', Bool.not_eq_false', bne_eq_false_iff_eq] at *); omega))
  have hzl : z ≤ s.length := by (try simp only [decide_eq_true_eq, decide_eq_false_iff_not, beq_iff_eq, beq_eq_false_iff_ne, bne_iff_ne, ne_eq, Bool.not_eq_true', Bool.not_eq_false', bne_eq_false_iff_eq] at *); omega
  have hnb : ¬ (z = 0 ∨ z > s.length) := by omega
  refine zI (fun h => ?_) (fun h => ?_)
  all_goals (try (refine gq18 (zbC h (zbC g1 g2)) ?_; try with_reducible exact True.intro))
  · have h1 : z = 1 := by (try simp only [decide_eq_true_eq, decide_eq_false_iff_not, beq_iff_eq, beq_eq_false_iff_ne, bne_iff_ne, ne_eq, Bool.not_eq_true', Bool.not_eq_false', bne_eq_false_iff_eq] at *); omega
    refine ⟨by omega, ?_⟩
    refine zad hl ?_
    have : zfV s = (at8 s 0, 1) := by simp only [zfV, ← hz]; rw [if_neg hnb, if_pos h1]
    rw [this] at hK
    simp only [zcf, dmT, dm, dm1, List.map_cons, List.map_nil]
    rw [zan (by omega) (by omega)]
    exact hK
  have hz2 : z = 2 ∨ z = 3 ∨ z = 4 := by (try simp only [decide_eq_true_eq, decide_eq_false_iff_not, beq_iff_eq, beq_eq_false_iff_ne, bne_iff_ne, ne_eq, Bool.not_eq_true', Bool.not_eq_false', bne_eq_false_iff_eq] at *); omega
  have h1 : ¬ z = 1 := by omega
  refine ⟨by omega, ?_⟩
  have hw : IntKind.i64.wrap (at8 s 0 : Int) = (at8 s 0 : Int) := zan (by omega) (by omega)
  have hsh : (0 : Int) ≤ IntKind.i64.wrap (7 - (z : Int)) := by rw [zan (by omega) (by omega)]; omega
  refine ⟨hsh, ?_⟩
  rw [hw, mask_eq z hz2 _ hb0]
  refine zB z (fun k vs s' => s' = σ ∧ k + 1 ≤ z ∧ vs = [.d (.int .i64 (zdU s z k)), .d (.int .i64 (k + 1 : Nat))] ∧ ∀ i, i < k + 1 → 1 ≤ i → zkO s i = true) ⟨rfl, by omega, rfl, fun i h1 h2 => by omega⟩ ?_
  rintro k vs s' hk ⟨rfl, hk1, rfl, hcont⟩
  have hpl := partF_lt s z (by omega) k
  have hpow : 64 ^ k ≤ 64 ^ 3 := Nat.pow_le_pow_right (by omega) (by omega)
  (refine gq19 ?_; try with_reducible exact True.intro)
  have fail : (¬ ∀ i, i < z → 1 ≤ i → zkO s i = true) → K (.tup [.d (.int .i64 0), .d (.int .i64 0)]) s' := fun h => by
    have : zfV s = (0, 0) := by simp only [zfV, ← hz]; rw [if_neg hnb, if_neg h1, if_neg h]
    rw [this] at hK; exact hK
  refine zI (fun h => ?_) (fun h => ?_)
  · have hkz : k + 1 < z := by (try simp only [decide_eq_true_eq, decide_eq_false_iff_not, beq_iff_eq, beq_eq_false_iff_ne, bne_iff_ne, ne_eq, Bool.not_eq_true', Bool.not_eq_false', bne_eq_false_iff_eq] at *); omega
    obtain ⟨f1, f2⟩ := at8_some (s := s) (i := k + 1) (by omega)
    have hb := znr s (k + 1)
    repeat' first
      | (refine gq24 (zbC f1 f2) ?_; try with_reducible exact True.intro)
      | (refine zI (fun h => ?_) (fun h => ?_) <;> (try rw [h]))
      | ((with_reducible refine And.intro ?_ ?_); focus (first | omega | rfl | decide))
    · refine zad hl ?_
      exact fail fun h' => by
        have := h' (k + 1) hkz (by omega)
        simp only [zkO] at this
        (try simp only [decide_eq_true_eq, decide_eq_false_iff_not, beq_iff_eq, beq_eq_false_iff_ne, bne_iff_ne, ne_eq, Bool.not_eq_true', Bool.not_eq_false', bne_eq_false_iff_eq] at *); omega
    · refine zad hl ?_
      exact fail fun h' => by
        have := h' (k + 1) hkz (by omega)
        simp only [zkO] at this
        (try simp only [decide_eq_true_eq, decide_eq_false_iff_not, beq_iff_eq, beq_eq_false_iff_ne, bne_iff_ne, ne_eq, Bool.not_eq_true', Bool.not_eq_false', bne_eq_false_iff_eq] at *); omega
    have hv : IntKind.i64.wrap (IntKind.i64.wrap (↑(zdU s z k) * 64) + (IntKind.i64.wrap ↑(at8 s (k + 1))).tmod 64) = ((zdU s z (k + 1) : Nat) : Int) := by
      have hp2 : zdU s z k < 32 * 64 ^ 3 := by omega
      have e1 : IntKind.i64.wrap ((zdU s z k : Int) * 64) = (zdU s z k : Int) * 64 := zan (by omega) (by omega)
      have e2 : IntKind.i64.wrap (at8 s (k + 1) : Int) = (at8 s (k + 1) : Int) := zan (by omega) (by omega)
      have e3 : ((at8 s (k + 1) : Int)).tmod 64 = ((at8 s (k + 1) % 64 : Nat) : Int) := by rw [Int.tmod_eq_emod_of_nonneg (by omega)]; rfl
      rw [e1, e2, e3, zan (by omega) (by omega)]
      simp only [zdU]
      omega
    have hw2 : IntKind.i64.wrap (((k + 1 : Nat) : Int) + 1) = ((k + 1 + 1 : Nat) : Int) := by rw [zan (by omega) (by omega)]; rfl
    rw [hv, hw2]
    refine zaP.next (by omega) ⟨rfl, by omega, rfl, fun i hi1 hi2 => ?_⟩
    by_cases hi : i < k + 1
    · exact hcont i hi hi2
    · obtain rfl : i = k + 1 := by omega
      simp only [zkO]
      (try simp only [decide_eq_true_eq, decide_eq_false_iff_not, beq_iff_eq, beq_eq_false_iff_ne, bne_iff_ne, ne_eq, Bool.not_eq_true', Bool.not_eq_false', bne_eq_false_iff_eq] at *); omega
  · have hkz : k + 1 = z := by (try simp only [decide_eq_true_eq, decide_eq_false_iff_not, beq_iff_eq, beq_eq_false_iff_ne, bne_iff_ne, ne_eq, Bool.not_eq_true', Bool.not_eq_false', bne_eq_false_iff_eq] at *); omega
    have hall : ∀ i, i < z → 1 ≤ i → zkO s i = true := by rw [← hkz]; exact hcont
    have hdec : zfV s = if zdU s z k < zdo z ∨ zdU s z k > 1114111 ∨ (55296 ≤ zdU s z k ∧ zdU s z k < 57344) then (0, 0) else (zdU s z k, z) := by
      have e : z - 1 = k := by omega
      simp only [zfV, ← hz]
      rw [if_neg hnb, if_neg h1, if_pos hall, e]
    have hget : ∃ l : Nat, l = zdo z ∧ ([[D.int .i64 0], [D.int .i64 0], [D.int .i64 128], [D.int .i64 2048], [D.int .i64 65536]] : List (List D))[z]? = some [D.int .i64 l] := by
      rcases hz2 with rfl | rfl | rfl <;> exact ⟨_, rfl, rfl⟩
    obtain ⟨l, hl1, hl2⟩ := hget
    rw [← hl1] at hdec
    repeat' first
      | (refine gq24 hl2 ?_; try with_reducible exact True.intro)
      | (refine zI (fun h => ?_) (fun h => ?_) <;> (try rw [h]))
      | ((with_reducible refine And.intro ?_ ?_); focus (first | omega | rfl | decide))
    all_goals refine zad hl ?_
    all_goals (try simp only [decide_eq_true_eq, decide_eq_false_iff_not, beq_iff_eq, beq_eq_false_iff_ne, bne_iff_ne, ne_eq, Bool.not_eq_true', Bool.not_eq_false', bne_eq_false_iff_eq] at *)
    all_goals simp only [zcf, dmT, dm, dm1, List.map_cons, List.map_nil]
    all_goals first
      | (rw [if_pos (by omega)] at hdec; rw [hdec] at hK; exact hK)
      | (rw [if_neg (by omega)] at hdec; rw [hdec] at hK; exact hK)

theorem badF_ref (v : Nat) : badF v = decide (v < 33 ∨ 127 ≤ v ∧ v < 160 ∨ v = 47 ∨ v = 65533) := by
  simp only [badF]; congr 1; apply propext; omega
theorem c_rRunes {σ : List zb} {s : List UInt8} (hs : s.length ≤ 1073741824) {K : AV → List zb → Prop} (hK : K (.d (.int .i64 (zeM s))) σ) : zp Tryz.prog ziP [.d (.str s)] σ K := by
  refine zil e_r06_Runes fun hl => ?_
  simp only [zny, iN, bT, bF, eN]
  refine zB s.length (fun pos vs s' => ∃ (cnt : Nat) (t : List UInt8), t.length + pos = s.length ∧ vs = [.d (.str t), .d (.int .i64 cnt)] ∧ s' = σ ∧ cnt ≤ pos ∧ cnt ≤ 16 ∧ zcN (s.length + 1) s = (zcN (s.length + 1) t).map (· + cnt)) ⟨0, s, rfl, rfl, rfl, by omega, by omega, by simp⟩ ?_
  rintro pos vs s' hp ⟨cnt, t, hlen, rfl, rfl, hc, hc16, hr⟩
  (refine gq19 ?_; try with_reducible exact True.intro)
  refine zI (fun h => ?_) (fun h => ?_)
  · have ht : t ≠ [] := by rintro rfl; simp at h
    have htl : 0 < t.length := List.length_pos_iff.2 ht
    have hw2 := zii t
    have hcount : zcN (s.length + 1) t = if (zfV t).2 = 0 ∨ badF (zfV t).1 = true then none else (zcN s.length (t.drop (zfV t).2)).map (· + 1) := by
      rw [zcN, if_neg ht]
    refine c_rune1 (by omega) ht ?_
    have stop : (zfV t).2 = 0 ∨ badF (zfV t).1 = true ∨ cnt = 16 → K (.d (.int .i64 0)) s' := fun hb => by
      have h0 : zeM s = 0 := by
        by_cases hq : (zfV t).2 = 0 ∨ badF (zfV t).1 = true
        · simp [zeM, hr, hcount, if_pos hq]
        · have hcn : cnt = 16 := by
            rcases hb with hb | hb | hb
            · exact absurd (.inl hb) hq
            · exact absurd (.inr hb) hq
            · exact hb
          simp only [zeM, hr, hcount, if_neg hq]
          cases zcN s.length (t.drop (zfV t).2) with
          | none => simp
          | some m => simp; omega
      rw [h0] at hK; exact hK
    (repeat' (first | (refine zlh ?_; try with_reducible exact True.intro) | (refine zI (fun h => ?_) (fun h => ?_) <;> (try rw [h])) | ((with_reducible refine And.intro ?_ ?_); focus (first | omega | rfl | decide))))
    all_goals first
      | (refine zad hl ?_
         refine stop ?_
         rw [badF_ref, decide_eq_true_eq]
         (try simp only [decide_eq_true_eq, decide_eq_false_iff_not, beq_iff_eq, beq_eq_false_iff_ne, bne_iff_ne, ne_eq, Bool.not_eq_true', Bool.not_eq_false', bne_eq_false_iff_eq] at *)
         omega)
      | skip
    all_goals
      have hb : badF (zfV t).1 = false := by
        rw [badF_ref, decide_eq_false_iff_not]
        (try simp only [decide_eq_true_eq, decide_eq_false_iff_not, beq_iff_eq, beq_eq_false_iff_ne, bne_iff_ne, ne_eq, Bool.not_eq_true', Bool.not_eq_false', bne_eq_false_iff_eq] at *)
        omega
      have h2 : (zfV t).2 ≠ 0 := by (try simp only [decide_eq_true_eq, decide_eq_false_iff_not, beq_iff_eq, beq_eq_false_iff_ne, bne_iff_ne, ne_eq, Bool.not_eq_true', Bool.not_eq_false', bne_eq_false_iff_eq] at *); omega
      have hcl : cnt < 16 := by (try simp only [decide_eq_true_eq, decide_eq_false_iff_not, beq_iff_eq, beq_eq_false_iff_ne, bne_iff_ne, ne_eq, Bool.not_eq_true', Bool.not_eq_false', bne_eq_false_iff_eq] at *); omega
      rw [zan (by omega) (by omega)]
      refine zaP.to (pos + (zfV t).2) (by omega) (by omega) ⟨cnt + 1, t.drop (zfV t).2, by simp; omega, ?_, rfl, by omega, by omega, ?_⟩
      · simp
      · rw [hr, hcount, if_neg (by simp [h2, hb]), zjc s.length (s.length + 1) _ (by simp; omega) (by simp; omega)]
        cases zcN (s.length + 1) (t.drop (zfV t).2) <;> simp
        omega
  · refine zad hl ?_
    have ht : t = [] := by
      have : ¬ 0 < t.length := by (try simp only [decide_eq_true_eq, decide_eq_false_iff_not, beq_iff_eq, beq_eq_false_iff_ne, bne_iff_ne, ne_eq, Bool.not_eq_true', Bool.not_eq_false', bne_eq_false_iff_eq] at *); omega
      exact List.length_eq_zero_iff.1 (by omega)
    have h0 : zeM s = cnt := by
      simp only [zeM, hr, ht]
      simp [zcN]
      omega
    rw [h0] at hK; exact hK
theorem c_rName {σ : List zb} {s : List UInt8} (hs : s.length ≤ 1073741824) {K : AV → List zb → Prop} (hK : K (.d (.bool (zhg s))) σ) : zp Tryz.prog zic [.d (.str s)] σ K := by
  refine zil e_r06_Name fun hl => ?_
  simp only [zoP, iN, bT, bF, eN]
  (refine gq19 ?_; try with_reducible exact True.intro)
  refine c_rRunes hs ?_
  (refine gq19 ?_; try with_reducible exact True.intro)
  refine zad hl ?_
  have : decide ((zeM s : Int) > 0) = zhg s := by simp [zhg]
  rw [this]; exact hK

theorem c_Check_1 {σ : List zb} {r : List UInt8} {K : AV → List zb → Prop} (hK : K (.d (.bool (decide (r.length > 64)))) σ) : zp Tryz.prog zfF [.d (.slice (bcs r))] σ K := by
  refine zil e_op_Check_1 fun hl => ?_
  simp only [zlv, iN, bT, bF, eN]
  (refine gq19 ?_; try with_reducible exact True.intro)
  refine zad hl ?_
  have : decide (((bcs r).length : Int) > 64) = decide (r.length > 64) := by simp [bcs]; omega
  rw [this]; exact hK
theorem gq25 {P Q : Prop} (h : Q) (e : P = Q := by simp -dsimp only [↓zex, ↓zav, ↓zbj, ↓zey, ↓zer, ↓zep, ↓zes, ↓zeq, ↓zbo, ↓zbk, ↓zbp, ↓zbl, ↓zet, ↓zbh, ↓zbq, ↓zbm, ↓zbr, ↓zbn, ↓zem, ↓zew, ↓zbg, ↓zbt, ↓zeh, ↓zeg, ↓zel, iN, bT, bF, eN, ↓zcm, ↓unC, ↓zU, ↓zE, ↓zF, ↓zK, ↓zab, ↓zaA, ↓zct, ↓zY, ↓zbd, ↓zX, ↓zj, ↓zq, ↓zbI, ↓zf, ↓zac, ↓zJ, ↓zaB, ↓zaK, ↓zd, ↓zD, ↓zn, ↓zr, ↓zal, ↓zcE, ↓zcM, ↓zak, ↓zas, ↓zaG, ↓zaM, ↓zaS, ↓zl, ↓zae, ↓zG, ↓zo, ↓zZ, zcK, zbc, zba, unA, zcS, bnd, zdq, zaa, zai, zdr, dm, dm1, zP, zaC, zdL, zdK, zT, Q0, Q1, Q2, Q3, Q4, Q5, zS, zh, zm, zw, zA, Q6, Q7, Q8, Q9, Q10, Q11, Q12, Q13, Q14, Nat.reduceAdd, Q15, Int.reduceToNat, Q16, Q17, Q18, Q19, Q20, reduceIte, Q21, Q22, dmT, zcf, zx]; rfl) : P := e.mpr h
theorem zhF {σ : List zb} {a : List (List UInt8)} (ha : a.length ≤ 1073741824) {K : AV → List zb → Prop} (hK : K (.d (.bool (a.any fun r => decide (r.length > 64)))) σ) :
    zp Tryz.prog zaw [.d (.slice (zcQ a)), .fn (.func zfF) [] []] σ K := by
  refine zgK zcl fun hl => ?_
  simp only [zaR, iN, bT, bF, eN]
  (refine gq19 ?_; try with_reducible exact True.intro)
  refine zgK zcu fun hl => ?_
  simp only [zbf, iN, bT, bF, eN]
  (refine gq19 ?_; try with_reducible exact True.intro)
  refine zB a.length (fun k vs s => vs = [.d (.int .i64 k)] ∧ s = σ ∧ ∀ r ∈ a.take k, ¬ r.length > 64) ⟨rfl, rfl, by simp⟩ ?_
  rintro k vs s hk ⟨rfl, rfl, htk⟩
  (refine gq19 ?_; try with_reducible exact True.intro)
  refine zI (fun h => ?_) (fun h => ?_)
  · have hka : k < a.length := by (try simp only [decide_eq_true_eq, decide_eq_false_iff_not, beq_iff_eq, beq_eq_false_iff_ne, bne_iff_ne, ne_eq, Bool.not_eq_true', Bool.not_eq_false', bne_eq_false_iff_eq] at *); omega
    have hx : a[k]? = some a[k] := by simp [hka]
    (refine gq18 (zcU hx) ?_; try with_reducible exact True.intro)
    refine And.intro (by omega) (c_Check_1 ?_)
    (refine gq19 ?_; try with_reducible exact True.intro)
    refine zI (fun h => ?_) (fun h => ?_)
    · refine zad hl ?_
      (refine gq25 ?_; try with_reducible exact True.intro)
      refine zad hl ?_
      have e1 : decide ((k : Int) ≥ 0) = true := by simp
      have e2 : (a.any fun r => decide (r.length > 64)) = true := by
        rw [List.any_eq_true]
        exact ⟨a[k], List.getElem_mem _, h⟩
      rw [e2] at hK
      simp only [zcf, dmT, dm, dm1]
      rw [e1]; exact hK
    · (refine gq19 ?_; try with_reducible exact True.intro)
      refine zaP.next hka ⟨?_, rfl, fun r hr => ?_⟩
      · rw [zan (by omega) (by omega)]; rfl
      · rw [List.take_add_one, hx] at hr
        rcases List.mem_append.1 hr with hr | hr
        · exact htk r hr
        · have : r = a[k] := by simpa using hr
          subst this
          simpa using h
  · refine zad hl ?_
    (refine gq25 ?_; try with_reducible exact True.intro)
    refine zad hl ?_
    have e2 : (a.any fun r => decide (r.length > 64)) = false := by
      rw [List.any_eq_false]
      intro r hr
      have hk' : k = a.length := by (try simp only [decide_eq_true_eq, decide_eq_false_iff_not, beq_iff_eq, beq_eq_false_iff_ne, bne_iff_ne, ne_eq, Bool.not_eq_true', Bool.not_eq_false', bne_eq_false_iff_eq] at *); omega
      rw [hk', List.take_length] at htk
      simpa using htk r hr
    rw [e2] at hK
    exact hK
theorem gq26 {P Q : Prop} (h : Q) (e : P = Q := by simp -dsimp only [↓zex, ↓zav, ↓zbj, ↓zey, ↓zer, ↓zep, ↓zes, ↓zeq, ↓zbo, ↓zbk, ↓zbp, ↓zbl, ↓zet, ↓zbh, ↓zbq, ↓zbm, ↓zbr, ↓zbn, ↓zem, ↓zew, ↓zbg, ↓zbt, ↓zeh, ↓zeg, ↓zel, iN, bT, bF, eN, ↓zcm, ↓unC, ↓zU, ↓zE, ↓zF, ↓zK, ↓zab, ↓zaA, ↓zct, ↓zY, ↓zbd, ↓zX, ↓zj, ↓zq, ↓zbI, ↓zf, ↓zac, ↓zJ, ↓zaB, ↓zaK, ↓zd, ↓zD, ↓zn, ↓zr, ↓zal, ↓zcE, ↓zcM, ↓zak, ↓zas, ↓zaG, ↓zaM, ↓zaS, ↓zl, ↓zae, ↓zG, ↓zo, ↓zZ, zcK, zbc, zba, unA, zcS, bnd, zdq, zaa, zai, zdr, dm, dm1, zP, zaC, zdL, zdK, zT, Q0, Q1, Q2, Q3, Q4, Q5, zS, zh, zm, zw, zA, Q6, Q7, Q8, Q9, Q10, Q11, Q12, Q13, Q14, Nat.reduceAdd, Q15, Int.reduceToNat, Q16, Q17, Q18, Q19, Q20, reduceIte, Q21, Q22, zx, rep, zV, zei, toD, zaf, Q23, Q24, Q25, Q26, Q27, Q28, Nat.reduceLeDiff, Q29, Nat.reduceSub, Q30, Q31, Q32, sc, Q33, Q34, Q35, Bool.and_false, Bool.and_self, Bool.false_and, Bool.not_false, Bool.not_true, Bool.true_and, Int.toNat_natCast, Int.toNat_zero, List.drop_zero, List.length_map, List.length_nil, List.nil_append, List.take_length, Nat.sub_zero, Nat.zero_add, Option.isSome_none, Option.isSome_some, Option.map_none, Option.map_some, zaq, beq_self_eq_true, bne_self_eq_false, zbs, zbw, opA]; rfl) : P := e.mpr h
theorem c_Check {σ : List zb} {o : TOp} (ht : o.topic.length ≤ 1073741824) (hg : o.group.length ≤ 1073741824) (hr : o.recs.length ≤ 1073741824) {K : AV → List zb → Prop} (hK : K (.d (.int .i64 (zbH zhg o))) σ) : zp Tryz.prog zid [opA o] σ K := by
  refine zil e_op_Check fun hl => ?_
  simp only [zoT, iN, bT, bF, eN, zl3, opA]
  (refine zlh ?_; try with_reducible exact True.intro)
  refine c_only (o := o) ?_
  have honly : (zpm o).recs.length ≤ 1073741824 := by unfold zpm noOp; split <;> (try split) <;> (try split) <;> (try split) <;> simp <;> omega
  (refine gq26 ?_; try with_reducible exact True.intro)
  repeat' first
    | (refine zlh ?_; try with_reducible exact True.intro)
    | refine c_Same (a := o) (b := zpm o) hr honly ?_
    | refine c_Name ht ?_
    | refine c_Name hg ?_
    | refine zhF hr ?_
    | (refine zI (fun h => ?_) (fun h => ?_) <;> (try rw [h]))
    | ((with_reducible refine And.intro ?_ ?_); focus (first | omega | rfl | decide))
  all_goals refine zad hl ?_
  all_goals (try simp only [decide_eq_true_eq, decide_eq_false_iff_not, beq_iff_eq, beq_eq_false_iff_ne, bne_iff_ne, ne_eq, Bool.not_eq_true', Bool.not_eq_false', bne_eq_false_iff_eq] at *)
  all_goals
    simp only [zcf, dmT, dm, dm1]
    have e : ∀ z : Int, zbH zhg o = z → K (.d (.int .i64 z)) σ := fun z hz => by rw [← hz]; exact hK
    clear hK
    apply e
    first
    | grind [zbH]
    | skip

def zhx (k : Int) : Bool := decide (1 ≤ k ∧ k ≤ 4)
def zjH (k : Int) : Bool := decide (k = 3)
def fOff (k : Int) : Bool := decide (k = 3 ∨ k = 4)
def zpz (k : Int) : Bool := decide (k = 2)
theorem c_fields {σ : List zb} {k : Int} {K : AV → List zb → Prop} (hK : K (.tup [.d (.bool (zhx k)), .d (.bool (zjH k)), .d (.bool (fOff k)), .d (.bool (zpz k))]) σ) : zp Tryz.prog zfE [.d (.int .i64 k)] σ K := by
  refine zil e_r06_fields fun hl => ?_
  simp only [zlt, iN, bT, bF, eN]
  (repeat' (first | (refine zlh ?_; try with_reducible exact True.intro) | (refine zI (fun h => ?_) (fun h => ?_) <;> (try rw [h])) | ((with_reducible refine And.intro ?_ ?_); focus (first | omega | rfl | decide))))
  all_goals refine zad hl ?_
  all_goals (try simp only [decide_eq_true_eq, decide_eq_false_iff_not, beq_iff_eq, beq_eq_false_iff_ne, bne_iff_ne, ne_eq, Bool.not_eq_true', Bool.not_eq_false', bne_eq_false_iff_eq] at *)
  all_goals
    simp only [zcf, dmT, dm, dm1, List.map_cons, List.map_nil]
    have e : ∀ a b c d : Bool, zhx k = a → zjH k = b → fOff k = c → zpz k = d → K (.tup [.d (.bool a), .d (.bool b), .d (.bool c), .d (.bool d)]) σ := fun a b c d h1 h2 h3 h4 => by rw [← h1, ← h2, ← h3, ← h4]; exact hK
    clear hK
    apply e <;> simp [zhx, zjH, fOff, zpz] <;> omega
theorem onlyF_iff (o : TOp) : o = zpm o ↔ (zhx o.kind = false → o.topic = []) ∧ (zjH o.kind = false → o.group = []) ∧ (fOff o.kind = false → o.offset = 0) ∧ (zpz o.kind = false → o.recs = []) := by
  obtain ⟨k, t, g, f, r⟩ := o
  simp only [zpm, noOp, zhx, zjH, fOff, zpz, decide_eq_false_iff_not]
  by_cases h1 : k = 1
  · subst h1; simp
  by_cases h2 : k = 2
  · subst h2; simp
  by_cases h3 : k = 3
  · subst h3; simp
  by_cases h4 : k = 4
  · subst h4; simp
  · have : ¬ (1 ≤ k ∧ k ≤ 4) := by omega
    simp [h1, h2, h3, h4, this]
set_option maxHeartbeats 2000000 in
theorem c_rCheck {σ : List zb} {o : TOp} (ht : o.topic.length ≤ 1073741824) (hg : o.group.length ≤ 1073741824) (hr : o.recs.length ≤ 1073741824) {K : AV → List zb → Prop} (hK : K (.d (.int .i64 (zbH zhg o))) σ) : zp Tryz.prog zgB [opA o] σ K := by
  refine zil e_r06_Check fun hl => ?_
  simp only [znz, iN, bT, bF, eN, opA]
  (refine zlh ?_; try with_reducible exact True.intro)
  refine c_fields ?_
  have fin : ∀ z : Int, zbH zhg o = z → K (.d (.int .i64 z)) σ := fun z hz => by rw [← hz]; exact hK
  have honly := onlyF_iff o
  have hkind : zhx o.kind = true → zed o = true := by simp [zhx, zed]; omega
  have hk1 : zhx o.kind = true ↔ (zed o = true ∧ o.kind ≠ 0) := by simp [zhx, zed]; omega
  have hk2 : zjH o.kind = true ↔ o.kind = 3 := by simp [zjH]
  have hk3 : zpz o.kind = true ↔ o.kind = 2 := by simp [zpz]
  have hk4 : zed o = true ↔ (0 ≤ o.kind ∧ o.kind ≤ 4) := by simp [zed]
  have hnil : o.recs = [] ↔ o.recs.length = 0 := List.length_eq_zero_iff.symm
  clear hK
  repeat' first
    | (refine zlh ?_; try with_reducible exact True.intro)
    | refine c_rName ht ?_
    | refine c_rName hg ?_
    | (refine zI (fun h => ?_) (fun h => ?_) <;> (try rw [h]))
    | ((with_reducible refine And.intro ?_ ?_); focus (first | omega | rfl | decide))
  all_goals first
    | (refine zad hl ?_
       (try simp only [decide_eq_true_eq, decide_eq_false_iff_not, beq_iff_eq, beq_eq_false_iff_ne, bne_iff_ne, ne_eq, Bool.not_eq_true', Bool.not_eq_false', bne_eq_false_iff_eq] at *)
       simp only [zcf, dmT, dm, dm1]
       apply fin
       grind [zbH])
    | skip
  all_goals
    refine zB o.recs.length (fun k vs s => vs = [.d (.int .i64 k)] ∧ s = σ ++ [.box [.d (.int .i64 o.kind), .d (.str o.topic), .d (.str o.group), .d (.int .i64 o.offset), .d (.slice (zcQ o.recs))]] ∧ ∀ r ∈ o.recs.take k, ¬ r.length > 64) ⟨rfl, rfl, by simp⟩ ?_
    rintro k vs s hk ⟨rfl, rfl, htk⟩
    (refine gq19 ?_; try with_reducible exact True.intro)
    refine zI (fun h => ?_) (fun h => ?_)
    · have hka : k < o.recs.length := by (try simp only [decide_eq_true_eq, decide_eq_false_iff_not, beq_iff_eq, beq_eq_false_iff_ne, bne_iff_ne, ne_eq, Bool.not_eq_true', Bool.not_eq_false', bne_eq_false_iff_eq] at *); omega
      have hx : o.recs[k]? = some o.recs[k] := by simp [hka]
      have hmem : o.recs[k] ∈ o.recs := List.getElem_mem _
      have hbl : (bcs o.recs[k]).length = o.recs[k].length := by simp [bcs]
      (refine gq18 (zcU hx) ?_; try with_reducible exact True.intro)
      refine And.intro (by omega) ?_
      refine zI (fun h => ?_) (fun h => ?_)
      · have hany : (o.recs.any fun r => decide (r.length > 64)) = true := by
          rw [List.any_eq_true]
          exact ⟨_, hmem, by (try simp only [decide_eq_true_eq, decide_eq_false_iff_not, beq_iff_eq, beq_eq_false_iff_ne, bne_iff_ne, ne_eq, Bool.not_eq_true', Bool.not_eq_false', bne_eq_false_iff_eq] at *); omega⟩
        refine zad hl ?_
        (try simp only [decide_eq_true_eq, decide_eq_false_iff_not, beq_iff_eq, beq_eq_false_iff_ne, bne_iff_ne, ne_eq, Bool.not_eq_true', Bool.not_eq_false', bne_eq_false_iff_eq] at *)
        simp only [zcf, dmT, dm, dm1]
        apply fin
        grind [zbH]
      · (refine gq19 ?_; try with_reducible exact True.intro)
        refine zaP.next hka ⟨?_, rfl, fun r hr => ?_⟩
        · rw [zan (by omega) (by omega)]; rfl
        · rw [List.take_add_one, hx] at hr
          rcases List.mem_append.1 hr with hr | hr
          · exact htk r hr
          · have : r = o.recs[k] := by simpa using hr
            subst this
            (try simp only [decide_eq_true_eq, decide_eq_false_iff_not, beq_iff_eq, beq_eq_false_iff_ne, bne_iff_ne, ne_eq, Bool.not_eq_true', Bool.not_eq_false', bne_eq_false_iff_eq] at *)
            omega
    · have hany : (o.recs.any fun r => decide (r.length > 64)) = false := by
        rw [List.any_eq_false]
        intro r hr
        have hk' : k = o.recs.length := by (try simp only [decide_eq_true_eq, decide_eq_false_iff_not, beq_iff_eq, beq_eq_false_iff_ne, bne_iff_ne, ne_eq, Bool.not_eq_true', Bool.not_eq_false', bne_eq_false_iff_eq] at *); omega
        rw [hk', List.take_length] at htk
        simpa using htk r hr
      clear htk
      (repeat' (first | (refine zlh ?_; try with_reducible exact True.intro) | (refine zI (fun h => ?_) (fun h => ?_) <;> (try rw [h])) | ((with_reducible refine And.intro ?_ ?_); focus (first | omega | rfl | decide))))
      all_goals
        refine zad hl ?_
        (try simp only [decide_eq_true_eq, decide_eq_false_iff_not, beq_iff_eq, beq_eq_false_iff_ne, bne_iff_ne, ne_eq, Bool.not_eq_true', Bool.not_eq_false', bne_eq_false_iff_eq] at *)
        simp only [zcf, dmT, dm, dm1]
        apply fin
        grind [zbH]

theorem u64_of {n : Int} (h : 0 ≤ n) (h2 : n < 9223372036854775808) : IntKind.u64.wrap n = (n.toNat : Int) := by
  obtain ⟨m, rfl⟩ := Int.eq_ofNat_of_zero_le h
  rw [Int.toNat_natCast]; exact zbX (by omega)
theorem bytesE (s : List UInt8) : s.map zaQ = bcs s := rfl

theorem gq27 {A P Q : Prop} (a : A) (h : Q) (e : A → P = Q := by intro a; simp -dsimp only [↓zex, ↓zav, ↓zbj, ↓zey, ↓zer, ↓zep, ↓zes, ↓zeq, ↓zbo, ↓zbk, ↓zbp, ↓zbl, ↓zet, ↓zbh, ↓zbq, ↓zbm, ↓zbr, ↓zbn, ↓zem, ↓zew, ↓zbg, ↓zbt, ↓zeh, ↓zeg, ↓zel, iN, bT, bF, eN, ↓zcm, ↓unC, ↓zU, ↓zE, ↓zF, ↓zK, ↓zab, ↓zaA, ↓zct, ↓zY, ↓zbd, ↓zX, ↓zj, ↓zq, ↓zbI, ↓zf, ↓zac, ↓zJ, ↓zaB, ↓zaK, ↓zd, ↓zD, ↓zn, ↓zr, ↓zal, ↓zcE, ↓zcM, ↓zak, ↓zas, ↓zaG, ↓zaM, ↓zaS, ↓zl, ↓zae, ↓zG, ↓zo, ↓zZ, zcK, zbc, zba, unA, zcS, bnd, zdq, zaa, zai, zdr, dm, dm1, zP, zaC, zdL, zdK, zT, Q0, Q1, Q2, Q3, Q4, Q5, zS, zh, zm, zw, zA, Q6, Q7, Q8, Q9, Q10, Q11, Q12, Q13, Q14, Nat.reduceAdd, Q15, Int.reduceToNat, Q16, Q17, Q18, Q19, Q20, reduceIte, Q21, Q22, zx, rep, zV, zei, toD, zaf, Q23, Q24, Q25, Q26, Q27, Q28, Nat.reduceLeDiff, Q29, Nat.reduceSub, Q30, Q31, Q32, sc, Q33, Q34, Q35, Bool.and_false, Bool.and_self, Bool.false_and, Bool.not_false, Bool.not_true, Bool.true_and, Int.toNat_natCast, Int.toNat_zero, List.drop_zero, List.length_map, List.length_nil, List.nil_append, List.take_length, Nat.sub_zero, Nat.zero_add, Option.isSome_none, Option.isSome_some, Option.map_none, Option.map_some, zaq, beq_self_eq_true, bne_self_eq_false, bytesE, zbs, zbw, opA, a]; rfl) : P := (e a).mpr h
theorem c_Put {σ : List zb} {b : List UInt8} {o : TOp} (hb : b.length ≤ 268435456) (ho : zgb o ≤ 268435456) {K : AV → List zb → Prop} (hK : K (.d (.slice (bcs (b ++ if zbH zhg o = 0 then opB o else [])))) σ) :
    zp Tryz.prog zpp [.d (.slice (bcs b)), opA o] σ K := by
  refine zgK e_op_Put fun hl => ?_
  have hsz := ho
  simp only [zgb] at hsz
  have hrl := zgv o.recs
  simp only [S_op_Put, iN, bT, bF, eN, opA]
  (refine zlh ?_; try with_reducible exact True.intro)
  refine zcJ zeb (by simp [bcs]; omega) ?_
  (refine zlh ?_; try with_reducible exact True.intro)
  refine c_Check (o := o) (by omega) (by omega) (by omega) ?_
  (refine zlh ?_; try with_reducible exact True.intro)
  refine zI (fun h => ?_) (fun h => ?_)
  · refine zad hl ?_
    (try simp only [decide_eq_true_eq, decide_eq_false_iff_not, beq_iff_eq, beq_eq_false_iff_ne, bne_iff_ne, ne_eq, Bool.not_eq_true', Bool.not_eq_false', bne_eq_false_iff_eq] at *)
    rw [if_neg h, List.append_nil] at hK
    exact hK
  have hc : zbH zhg o = 0 := by (try simp only [decide_eq_true_eq, decide_eq_false_iff_not, beq_iff_eq, beq_eq_false_iff_ne, bne_iff_ne, ne_eq, Bool.not_eq_true', Bool.not_eq_false', bne_eq_false_iff_eq] at *); omega
  obtain ⟨k0, k4, o0, o1, hon⟩ := zpJ hc
  rw [if_pos hc] at hK
  have hkn := zN (n := o.kind.toNat) (by omega)
  have hon' := zN (n := o.offset.toNat) (by omega)
  have hrn := zN (n := o.recs.length) (by omega)
  have htp := zfD (x := o.topic) (by omega)
  have hgp := zfD (x := o.group) (by omega)
  (refine gq24 (u64_of k0 (by omega)) ?_; try with_reducible exact True.intro)
  refine zef (by omega) (by omega) ?_
  have wo := u64_of o0 (by omega : o.offset < 9223372036854775808)
  have wl : IntKind.u64.wrap ((zcQ o.recs).length : Int) = (o.recs.length : Int) := by rw [zx]; exact zbX (by omega)
  have wl' : IntKind.u64.wrap (o.recs.length : Int) = (o.recs.length : Int) := zbX (by omega)
  repeat' first
    | (refine gq27 (zbC wo (zbC wl wl')) ?_; try with_reducible exact True.intro)
    | (refine zI (fun h => ?_) (fun h => ?_) <;> (try rw [h]))
    | ((with_reducible refine And.intro ?_ ?_); focus (first | omega | rfl | decide))
    | refine zkP (by omega) (by simp only [zmz, List.length_append] at *; omega) ?_
    | refine zef (by omega) (by simp only [zmz, List.length_append] at *; omega) ?_
  -- the ways that end
  all_goals first
    | (exfalso; (try simp only [decide_eq_true_eq, decide_eq_false_iff_not, beq_iff_eq, beq_eq_false_iff_ne, bne_iff_ne, ne_eq, Bool.not_eq_true', Bool.not_eq_false', bne_eq_false_iff_eq] at *); omega)
    | (refine zad hl ?_
       (try simp only [decide_eq_true_eq, decide_eq_false_iff_not, beq_iff_eq, beq_eq_false_iff_ne, bne_iff_ne, ne_eq, Bool.not_eq_true', Bool.not_eq_false', bne_eq_false_iff_eq] at *)
       simp only [zcf, dmT, dm, dm1]
       (first | rw [opB_0 (by omega)] at hK | rw [opB_1 (by omega)] at hK | rw [opB_3 (by omega)] at hK | rw [opB_4 (by omega)] at hK)
       exact hK)
    | skip
  -- the records
  have hk2 : o.kind = 2 := by (try simp only [decide_eq_true_eq, decide_eq_false_iff_not, beq_iff_eq, beq_eq_false_iff_ne, bne_iff_ne, ne_eq, Bool.not_eq_true', Bool.not_eq_false', bne_eq_false_iff_eq] at *); omega
  rw [opB_2 hk2] at hK
  refine zB o.recs.length (fun k vs s => ∃ t τ, vs = [.own t (bcs (b ++ (zcy o.kind.toNat ++ (zcy o.topic.length ++ (o.topic ++ (zcy o.recs.length ++ zkj (o.recs.take k))))))), .d (.int .i64 k)] ∧ s = σ ++ τ) ⟨σ.length + 4, _, by rw [List.take_zero, show zkj [] = [] from rfl, List.append_nil]; rfl, rfl⟩ ?_
  rintro k vs s hk ⟨t, τ, rfl, rfl⟩
  (refine zlh ?_; try with_reducible exact True.intro)
  refine zI (fun h => ?_) (fun h => ?_)
  · have hka : k < o.recs.length := by (try simp only [decide_eq_true_eq, decide_eq_false_iff_not, beq_iff_eq, beq_eq_false_iff_ne, bne_iff_ne, ne_eq, Bool.not_eq_true', Bool.not_eq_false', bne_eq_false_iff_eq] at *); omega
    have hx : o.recs[k]? = some o.recs[k] := by simp [hka]
    have hle := rec_le (List.getElem_mem hka)
    have htl := zfP o.recs (by omega) k
    (refine gq24 (zcU hx) ?_; try with_reducible exact True.intro)
    refine And.intro (by omega) (zkP (by omega) (by simp only [zmz, List.length_append] at *; omega) ?_)
    (refine zlh ?_; try with_reducible exact True.intro)
    refine zaP.next hka ⟨σ.length + τ.length, _, ?_, rfl⟩
    rw [zan (by omega) (by omega), zoc hx]
    simp only [zmz, List.append_assoc]
    rfl
  · have hke : k = o.recs.length := by (try simp only [decide_eq_true_eq, decide_eq_false_iff_not, beq_iff_eq, beq_eq_false_iff_ne, bne_iff_ne, ne_eq, Bool.not_eq_true', Bool.not_eq_false', bne_eq_false_iff_eq] at *); omega
    subst hke
    refine zad hl ?_
    rw [List.take_length]
    exact hK

theorem c_rPut {σ : List zb} {b : List UInt8} {o : TOp} (hb : b.length ≤ 268435456) (ho : zgb o ≤ 268435456) {K : AV → List zb → Prop} (hK : K (.d (.slice (bcs (b ++ if zbH zhg o = 0 then opB o else [])))) σ) :
    zp Tryz.prog zmE [.d (.slice (bcs b)), opA o] σ K := by
  refine zgK e_r06_Put fun hl => ?_
  have hsz := ho
  simp only [zgb] at hsz
  have hrl := zgv o.recs
  simp only [S_r06_Put, iN, bT, bF, eN, opA]
  (refine zlh ?_; try with_reducible exact True.intro)
  refine c_rCheck (o := o) (by omega) (by omega) (by omega) ?_
  (refine zlh ?_; try with_reducible exact True.intro)
  refine zI (fun h => ?_) (fun h => ?_)
  · refine zad hl ?_
    (try simp only [decide_eq_true_eq, decide_eq_false_iff_not, beq_iff_eq, beq_eq_false_iff_ne, bne_iff_ne, ne_eq, Bool.not_eq_true', Bool.not_eq_false', bne_eq_false_iff_eq] at *)
    rw [if_neg h, List.append_nil] at hK
    exact hK
  have hc : zbH zhg o = 0 := by (try simp only [decide_eq_true_eq, decide_eq_false_iff_not, beq_iff_eq, beq_eq_false_iff_ne, bne_iff_ne, ne_eq, Bool.not_eq_true', Bool.not_eq_false', bne_eq_false_iff_eq] at *); omega
  obtain ⟨k0, k4, o0, o1, hon⟩ := zpJ hc
  rw [if_pos hc] at hK
  have hkn := zN (n := o.kind.toNat) (by omega)
  have hon' := zN (n := o.offset.toNat) (by omega)
  have hrn := zN (n := o.recs.length) (by omega)
  have htp := zfD (x := o.topic) (by omega)
  have hgp := zfD (x := o.group) (by omega)
  (refine gq24 (u64_of k0 (by omega)) ?_; try with_reducible exact True.intro)
  refine c_fields ?_
  (refine gq24 (u64_of k0 (by omega)) ?_; try with_reducible exact True.intro)
  refine zdF (by omega) (by omega) ?_
  have wo := u64_of o0 (by omega : o.offset < 9223372036854775808)
  have wl : IntKind.u64.wrap ((zcQ o.recs).length : Int) = (o.recs.length : Int) := by rw [zx]; exact zbX (by omega)
  have wl' : IntKind.u64.wrap (o.recs.length : Int) = (o.recs.length : Int) := zbX (by omega)
  have f1 : zhx o.kind = true ↔ o.kind ≠ 0 := by simp [zhx]; omega
  have f2 : zjH o.kind = true ↔ o.kind = 3 := by simp [zjH]
  have f3 : fOff o.kind = true ↔ (o.kind = 3 ∨ o.kind = 4) := by simp [fOff]
  have f4 : zpz o.kind = true ↔ o.kind = 2 := by simp [zpz]
  repeat' first
    | (refine gq27 (zbC wo (zbC wl wl')) ?_; try with_reducible exact True.intro)
    | (refine zI (fun h => ?_) (fun h => ?_) <;> (try rw [h]))
    | ((with_reducible refine And.intro ?_ ?_); focus (first | omega | rfl | decide))
    | refine zjf (by omega) (by simp only [zmz, List.length_append] at *; omega) ?_
    | refine zdF (by omega) (by simp only [zmz, List.length_append] at *; omega) ?_
  -- the ways that end, those that can't be
  all_goals first
    | (exfalso; clear hK; grind)
    | (refine zad hl ?_
       (try simp only [decide_eq_true_eq, decide_eq_false_iff_not, beq_iff_eq, beq_eq_false_iff_ne, bne_iff_ne, ne_eq, Bool.not_eq_true', Bool.not_eq_false', bne_eq_false_iff_eq] at *)
       simp only [zcf, dmT, dm, dm1]
       (first | rw [opB_0 (by grind)] at hK | rw [opB_1 (by grind)] at hK | rw [opB_3 (by grind)] at hK | rw [opB_4 (by grind)] at hK)
       exact hK)
    | skip
  -- the records
  have hk2 : o.kind = 2 := by grind
  rw [opB_2 hk2] at hK
  refine zB o.recs.length (fun k vs s => ∃ t τ, vs = [.own t (bcs (b ++ (zcy o.kind.toNat ++ (zcy o.topic.length ++ (o.topic ++ (zcy o.recs.length ++ zkj (o.recs.take k))))))), .d (.int .i64 k)] ∧ s = σ ++ .box [.d (.int .i64 o.kind), .d (.str o.topic), .d (.str o.group), .d (.int .i64 o.offset), .d (.slice (zcQ o.recs))] :: τ)
    ⟨σ.length + 3, _, by rw [List.take_zero, show zkj [] = [] from rfl, List.append_nil]; rfl, rfl⟩ ?_
  rintro k vs s hk ⟨t, τ, rfl, rfl⟩
  (refine zlh ?_; try with_reducible exact True.intro)
  refine zI (fun h => ?_) (fun h => ?_)
  · have hka : k < o.recs.length := by (try simp only [decide_eq_true_eq, decide_eq_false_iff_not, beq_iff_eq, beq_eq_false_iff_ne, bne_iff_ne, ne_eq, Bool.not_eq_true', Bool.not_eq_false', bne_eq_false_iff_eq] at *); omega
    have hx : o.recs[k]? = some o.recs[k] := by simp [hka]
    have hle := rec_le (List.getElem_mem hka)
    have htl := zfP o.recs (by omega) k
    (refine gq24 (zcU hx) ?_; try with_reducible exact True.intro)
    refine And.intro (by omega) (zjf (by omega) (by simp only [zmz, List.length_append] at *; omega) ?_)
    (refine zlh ?_; try with_reducible exact True.intro)
    refine zaP.next hka ⟨σ.length + (τ.length + 1), _, ?_, rfl⟩
    rw [zan (by omega) (by omega), zoc hx]
    simp only [zmz, List.append_assoc]
    rfl
  · have hke : k = o.recs.length := by (try simp only [decide_eq_true_eq, decide_eq_false_iff_not, beq_iff_eq, beq_eq_false_iff_ne, bne_iff_ne, ne_eq, Bool.not_eq_true', Bool.not_eq_false', bne_eq_false_iff_eq] at *); omega
    subst hke
    refine zad hl ?_
    rw [List.take_length]
    exact hK
end Go.Proofs.YtjjchfbckfopkaaGreat
