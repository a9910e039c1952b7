/- Contracts: runes and names. -/
import Derived.Test.YtjjchfbckfopkaaGreatCodec1
import Derived.Test.YtjjchfbckfopkaaGreatSpUtf
set_option linter.all false
set_option maxRecDepth 100000
set_option linter.unusedSimpArgs false
namespace Go.Proofs.YtjjchfbckfopkaaGreat
open Go.AW

theorem c_Runes {σ : List zb} {s : List UInt8} (hs : s.length ≤ 1073741824) {K : AV → List zb → Prop} (hK : K (.d (.int .i64 (zeB s))) σ) : zn Tryz.prog zjA [.d (.str s)] σ K := by
  refine zfz e_op_Runes fun hl => ?_
  simp only [znL, iN, bT, bF, eN, zad]
  refine zR s.length (fun pos vs s' => ∃ cnt : Nat, vs = [.d (.int .i64 cnt)] ∧ s' = σ ++ [.iter s pos] ∧ pos ≤ s.length ∧ cnt ≤ pos ∧ zcI (s.length + 1) s = (zcI (s.length + 1) (s.drop pos)).map (· + cnt)) ⟨0, rfl, rfl, by omega, by omega, by simp⟩ ?_
  rintro pos vs s' hp ⟨cnt, rfl, rfl, hps, hc, hr⟩
  simp only [zj, ziN, zp, List.getElem?_cons_zero]
  split
  · rename_i hlt
    have hd : s.drop pos ≠ [] := by intro e; have := congrArg List.length e; simp at this; omega
    have hw := goDec_width _ hd
    have hw2 := zhI (s.drop pos)
    simp only [decode_eq s pos hlt]
    have hcount : zcI (s.length + 1) (s.drop pos) = if (zfB (s.drop pos)).2 = 0 ∨ badF (zfB (s.drop pos)).1 = true then none else (zcI s.length ((s.drop pos).drop (zfB (s.drop pos)).2)).map (· + 1) := by
      rw [zcI, if_neg hd]
    (repeat' (first | (refine zkB ?_; try with_reducible exact True.intro) | (refine zM (fun h => ?_) (fun h => ?_) <;> (try rw [h])) | ((with_reducible refine And.intro ?_ ?_); focus (first | omega | rfl | decide))))
    all_goals first
      | (refine zam hl ?_
         have hb : badF (ziT (s.drop pos)).1 = true := by
           simp only [badF]
           (try simp only [decide_eq_true_eq, decide_eq_false_iff_not, beq_iff_eq, beq_eq_false_iff_ne, bne_iff_ne, ne_eq, Bool.not_eq_true', Bool.not_eq_false', bne_eq_false_iff_eq] at *)
           omega
         rw [goDec_bad] at hb
         have : zcI (s.length + 1) (s.drop pos) = none := by rw [hcount, if_pos (by simpa using hb)]
         have h0 : zeB s = 0 := by simp [zeB, hr, this]
         rw [h0] at hK; exact hK)
      | skip
    all_goals
      have hb : badF (ziT (s.drop pos)).1 = false := by
        simp only [badF]
        (try simp only [decide_eq_true_eq, decide_eq_false_iff_not, beq_iff_eq, beq_eq_false_iff_ne, bne_iff_ne, ne_eq, Bool.not_eq_true', Bool.not_eq_false', bne_eq_false_iff_eq] at *)
        omega
      obtain ⟨g1, g2, g3⟩ := goDec_good hb
      rw [zao (by omega) (by omega)]
      refine zbq.to (pos + (ziT (s.drop pos)).2) (by omega) (by simp at hw; omega) ⟨cnt + 1, rfl, rfl, by simp at hw; omega, by omega, ?_⟩
      rw [hr, hcount, if_neg (by simp [g2, g3]), g1, List.drop_drop, ziv s.length (s.length + 1) _ (by simp at *; omega) (by simp; omega)]
      cases zcI (s.length + 1) (List.drop (pos + (zfB (s.drop pos)).2) s) <;> simp
      omega
  · rename_i hlt
    have e : s.drop pos = [] := List.drop_eq_nil_of_le (by omega)
    have hcnt : zcI (s.length + 1) s = some cnt := by rw [hr, e]; simp [zcI]
    (refine gq19 ?_; try with_reducible exact True.intro)
    refine zM (fun h => ?_) (fun h => ?_)
    all_goals (try (refine gq18 h ?_; try with_reducible exact True.intro))
    · refine zam hl ?_
      have h0 : zeB s = 0 := by simp [zeB, hcnt]; simp at h; omega
      rw [h0] at hK; exact hK
    · refine zam hl ?_
      have h0 : zeB s = cnt := by simp [zeB, hcnt]; simp at h; omega
      rw [h0] at hK; exact hK
theorem gq22 {P Q : Prop} (h : Q) (e : P = Q := by simp -dsimp only [↓zem, ↓zas, ↓zbe, ↓zen, ↓zeg, ↓zee, ↓zeh, ↓zef, ↓zbj, ↓zbf, ↓zbk, ↓zbg, ↓zei, ↓zbd, ↓zbl, ↓zbh, ↓zbm, ↓zbi, ↓zec, ↓zel, ↓zbc, ↓zbo, ↓zdY, ↓zdX, ↓zeb, iN, bT, bF, eN, ↓zcx, ↓unC, ↓zU, ↓zE, ↓zF, ↓zI, ↓zaa, ↓zaE, ↓zco, ↓zZ, ↓zbw, ↓zQ, ↓zl, ↓zm, ↓zbF, ↓zf, ↓zab, ↓zK, ↓zay, ↓zaD, ↓zc, ↓zy, ↓zi, ↓zr, ↓zai, ↓zcz, ↓zcG, ↓zal, ↓zap, ↓zax, ↓zaG, ↓zaN, ↓zj, ↓zad, ↓zG, ↓zq, ↓zX, zcE, zaZ, zaW, unA, zcH, bnd, zdj, zY, zac, zdk, dm, dm1, zJ, zar, zdD, zdC, zT, Q0, Q1, Q2, Q3, Q4, Q5, zS, zg, zp, zu, zC, Q6, Q7, Q8, Q9, Q10, Q11, Q12, Q13, Q14, Nat.reduceAdd, Q15, Int.reduceToNat, Q16, Q17, Q18, Q19, Q20, reduceIte, Q21, Q22, S_op_Name, zA]; rfl) : P := e.mpr h
theorem c_Name {σ : List zb} {s : List UInt8} (hs : s.length ≤ 1073741824) {K : AV → List zb → Prop} (hK : K (.d (.bool (zgK s))) σ) : zn Tryz.prog ziO [.d (.str s)] σ K := by
  refine zfz e_op_Name fun hl => ?_
  (refine gq22 ?_; try with_reducible exact True.intro)
  refine c_Runes hs ?_
  (refine gq19 ?_; try with_reducible exact True.intro)
  refine zam hl ?_
  have : decide ((zeB s : Int) > 0) = zgK s := by simp [zgK]
  rw [this]; exact hK

theorem c_rsize {σ : List zb} {c : Nat} {K : AV → List zb → Prop} (hK : K (.d (.int .i64 (zgI c))) σ) : zn Tryz.prog zjy [.d (.int .u8 c)] σ K := by
  refine zfz e_r06_size fun hl => ?_
  simp only [znI, iN, bT, bF, eN]
  (repeat' (first | (refine zkB ?_; try with_reducible exact True.intro) | (refine zM (fun h => ?_) (fun h => ?_) <;> (try rw [h])) | ((with_reducible refine And.intro ?_ ?_); focus (first | omega | rfl | decide))))
  all_goals refine zam hl ?_
  all_goals (try simp only [decide_eq_true_eq, decide_eq_false_iff_not, beq_iff_eq, beq_eq_false_iff_ne, bne_iff_ne, ne_eq, Bool.not_eq_true', Bool.not_eq_false', bne_eq_false_iff_eq] at *)
  all_goals
    simp only [zcm, dmT, dm, dm1]
    have e : ∀ z : Nat, zgI c = z → K (.d (.int .i64 z)) σ := fun z hz => by rw [← hz]; exact hK
    first
    | exact e 0 (by unfold zgI; rw [if_neg (by omega), if_neg (by omega), if_neg (by omega), if_neg (by omega)])
    | exact e 1 (by unfold zgI; rw [if_pos (by omega)])
    | exact e 2 (by unfold zgI; rw [if_neg (by omega), if_pos (by omega)])
    | exact e 3 (by unfold zgI; rw [if_neg (by omega), if_neg (by omega), if_pos (by omega)])
    | exact e 4 (by unfold zgI; rw [if_neg (by omega), if_neg (by omega), if_neg (by omega), if_pos (by omega)])

theorem mask_eq (z : Nat) (hz : z = 2 ∨ z = 3 ∨ z = 4) (b : Nat) (hb : b < 256) :
    IntKind.i64.wrap ↑(BitVec.ofInt IntKind.i64.bits (b : Int) &&& BitVec.ofInt IntKind.i64.bits (IntKind.i64.wrap (IntKind.i64.wrap (1 * 2 ^ (min (IntKind.i64.wrap (7 - (z : Int))).toNat IntKind.i64.bits)) - 1))).toNat = ((b % 2 ^ (7 - z) : Nat) : Int) := by
  have h0 : (BitVec.ofInt 64 (b : Int)).toNat = b := by simp; omega
  have key : ∀ m : Nat, (m = 3 ∨ m = 4 ∨ m = 5) → IntKind.i64.wrap ↑(BitVec.ofInt 64 (b : Int) &&& BitVec.ofInt 64 ((2 : Int) ^ m - 1)).toNat = ((b % 2 ^ m : Nat) : Int) := fun m hm => by
    have : (BitVec.ofInt 64 (b : Int) &&& BitVec.ofInt 64 ((2 : Int) ^ m - 1)).toNat = b % 2 ^ m := by
      rw [BitVec.toNat_and, h0]
      rcases hm with rfl | rfl | rfl
      · exact Nat.and_two_pow_sub_one_eq_mod b 3
      · exact Nat.and_two_pow_sub_one_eq_mod b 4
      · exact Nat.and_two_pow_sub_one_eq_mod b 5
    rw [this]
    have : b % 2 ^ m < 256 := Nat.lt_of_le_of_lt (Nat.mod_le _ _) hb
    exact zao (by omega) (by omega)
  rcases hz with rfl | rfl | rfl
  · exact key 5 (by omega)
  · exact key 4 (by omega)
  · exact key 3 (by omega)

theorem partF_lt (s : List UInt8) (z : Nat) (hz : 2 ≤ z) : ∀ i, zdK s z i < 32 * 64 ^ i
  | 0 => by
    simp only [zdK]
    have : 2 ^ (7 - z) ≤ 2 ^ 5 := Nat.pow_le_pow_right (by omega) (by omega)
    have := Nat.mod_lt (at8 s 0) (y := 2 ^ (7 - z)) (Nat.pos_of_ne_zero (by simp))
    omega
  | i + 1 => by
    simp only [zdK, Nat.pow_succ]
    have := partF_lt s z hz i
    omega

theorem at8_some {s : List UInt8} {i : Nat} (h : i < s.length) : s[i]? = some s[i] ∧ (s[i].toNat : Int) = (at8 s i : Int) := by
  have : s[i]? = some s[i] := List.getElem?_eq_getElem h
  exact ⟨this, by simp [at8, this]⟩

theorem gq23 {A P Q : Prop} (a : A) (h : Q) (e : A → P = Q := by intro a; simp -dsimp only [↓zem, ↓zas, ↓zbe, ↓zen, ↓zeg, ↓zee, ↓zeh, ↓zef, ↓zbj, ↓zbf, ↓zbk, ↓zbg, ↓zei, ↓zbd, ↓zbl, ↓zbh, ↓zbm, ↓zbi, ↓zec, ↓zel, ↓zbc, ↓zbo, ↓zdY, ↓zdX, ↓zeb, iN, bT, bF, eN, ↓zcx, ↓unC, ↓zU, ↓zE, ↓zF, ↓zI, ↓zaa, ↓zaE, ↓zco, ↓zZ, ↓zbw, ↓zQ, ↓zl, ↓zm, ↓zbF, ↓zf, ↓zab, ↓zK, ↓zay, ↓zaD, ↓zc, ↓zy, ↓zi, ↓zr, ↓zai, ↓zcz, ↓zcG, ↓zal, ↓zap, ↓zax, ↓zaG, ↓zaN, ↓zj, ↓zad, ↓zG, ↓zq, ↓zX, zcE, zaZ, zaW, unA, zcH, bnd, zdj, zY, zac, zdk, dm, dm1, zJ, zar, zdD, zdC, zT, Q0, Q1, Q2, Q3, Q4, Q5, zS, zg, zp, zu, zC, Q6, Q7, Q8, Q9, Q10, Q11, Q12, Q13, Q14, Nat.reduceAdd, Q15, Int.reduceToNat, Q16, Q17, Q18, Q19, Q20, reduceIte, Q21, Q22, zmz, zA, a]; rfl) : P := (e a).mpr h
theorem gq24 {A P Q : Prop} (a : A) (h : Q) (e : A → P = Q := by intro a; simp -dsimp only [↓zem, ↓zas, ↓zbe, ↓zen, ↓zeg, ↓zee, ↓zeh, ↓zef, ↓zbj, ↓zbf, ↓zbk, ↓zbg, ↓zei, ↓zbd, ↓zbl, ↓zbh, ↓zbm, ↓zbi, ↓zec, ↓zel, ↓zbc, ↓zbo, ↓zdY, ↓zdX, ↓zeb, iN, bT, bF, eN, ↓zcx, ↓unC, ↓zU, ↓zE, ↓zF, ↓zI, ↓zaa, ↓zaE, ↓zco, ↓zZ, ↓zbw, ↓zQ, ↓zl, ↓zm, ↓zbF, ↓zf, ↓zab, ↓zK, ↓zay, ↓zaD, ↓zc, ↓zy, ↓zi, ↓zr, ↓zai, ↓zcz, ↓zcG, ↓zal, ↓zap, ↓zax, ↓zaG, ↓zaN, ↓zj, ↓zad, ↓zG, ↓zq, ↓zX, zcE, zaZ, zaW, unA, zcH, bnd, zdj, zY, zac, zdk, dm, dm1, zJ, zar, zdD, zdC, zT, Q0, Q1, Q2, Q3, Q4, Q5, zS, zg, zp, zu, zC, Q6, Q7, Q8, Q9, Q10, Q11, Q12, Q13, Q14, Nat.reduceAdd, Q15, Int.reduceToNat, Q16, Q17, Q18, Q19, Q20, reduceIte, Q21, Q22, zA, rep, zV, zdZ, toD, zaj, Q23, Q24, Q25, Q26, Q27, Q28, Nat.reduceLeDiff, Q29, Nat.reduceSub, Q30, Q31, Q32, sc, Q33, Q34, Q35, a]; rfl) : P := (e a).mpr h
theorem c_rune1 {σ : List zb} {s : List UInt8} (hs : s.length ≤ 1073741824) (hne : s ≠ []) {K : AV → List zb → Prop} (hK : K (.tup [.d (.int .i64 (zfB s).1), .d (.int .i64 (zfB s).2)]) σ) : zn Tryz.prog zij [.d (.str s)] σ K := by
  refine zfz e_r06_rune1 fun hl => ?_
  have hpos : 0 < s.length := List.length_pos_iff.2 hne
  obtain ⟨g1, g2⟩ := at8_some hpos
  have hb0 := zmt s 0
  (refine gq23 (zce g1 g2) ?_; try with_reducible exact True.intro)
  refine ⟨by omega, c_rsize ?_⟩
  have hz4 : zgI (at8 s 0) = 0 ∨ zgI (at8 s 0) = 1 ∨ zgI (at8 s 0) = 2 ∨ zgI (at8 s 0) = 3 ∨ zgI (at8 s 0) = 4 := by
    unfold zgI; split <;> (try split) <;> (try split) <;> (try split) <;> omega
  obtain ⟨z, hz⟩ : ∃ z, z = zgI (at8 s 0) := ⟨_, rfl⟩
  rw [← hz] at hz4 ⊢
  have bad : z = 0 ∨ z > s.length → K (.tup [.d (.int .i64 0), .d (.int .i64 0)]) σ := fun h => by
    have : zfB s = (0, 0) := by simp only [zfB, ← hz]; rw [if_pos h]
    rw [this] at hK; exact hK
  (refine gq19 ?_; try with_reducible exact True.intro)
  refine zM (fun h => ?_) (fun h => ?_)
  all_goals (try (refine gq18 (zce h (zce g1 g2)) ?_; try with_reducible exact True.intro))
  · refine zam hl ?_
    exact bad (.inl (by (try simp only [decide_eq_true_eq, decide_eq_false_iff_not, beq_iff_eq, beq_eq_false_iff_ne, bne_iff_ne, ne_eq, Bool.not_eq_true', Bool.not_eq_false', bne_eq_false_iff_eq] at *); omega))
  have hz0 : z ≠ 0 := by (try simp only [decide_eq_true_eq, decide_eq_false_iff_not, beq_iff_eq, beq_eq_false_iff_ne, bne_iff_ne, ne_eq, Bool.not_eq_true', Bool.not_eq_false', bne_eq_false_iff_eq] at *); omega
  refine zM (fun h => ?_) (fun h => ?_)
  all_goals (try (refine gq18 (zce h (zce g1 g2)) ?_; try with_reducible exact True.intro))
  · refine zam hl ?_
    exact bad (.inr (by (try simp only [decide_eq_true_eq, decide_eq_false_iff_not, beq_iff_eq, beq_eq_false_iff_ne, bne_iff_ne, ne_eq, Bool.not_eq_true', Bool.not_eq_false', bne_eq_false_iff_eq] at *); omega))
  have hzl : z ≤ s.length := by (try simp only [decide_eq_true_eq, decide_eq_false_iff_not, beq_iff_eq, beq_eq_false_iff_ne, bne_iff_ne, ne_eq, Bool.not_eq_true', Bool.not_eq_false', bne_eq_false_iff_eq] at *); omega
  have hnb : ¬ (z = 0 ∨ z > s.length) := by omega
  refine zM (fun h => ?_) (fun h => ?_)
  all_goals (try (refine gq18 (zce h (zce g1 g2)) ?_; try with_reducible exact True.intro))
  · have h1 : z = 1 := by (try simp only [decide_eq_true_eq, decide_eq_false_iff_not, beq_iff_eq, beq_eq_false_iff_ne, bne_iff_ne, ne_eq, Bool.not_eq_true', Bool.not_eq_false', bne_eq_false_iff_eq] at *); omega
    refine ⟨by omega, ?_⟩
    refine zam hl ?_
    have : zfB s = (at8 s 0, 1) := by simp only [zfB, ← hz]; rw [if_neg hnb, if_pos h1]
    rw [this] at hK
    simp only [zcm, dmT, dm, dm1, List.map_cons, List.map_nil]
    rw [zao (by omega) (by omega)]
    exact hK
  have hz2 : z = 2 ∨ z = 3 ∨ z = 4 := by (try simp only [decide_eq_true_eq, decide_eq_false_iff_not, beq_iff_eq, beq_eq_false_iff_ne, bne_iff_ne, ne_eq, Bool.not_eq_true', Bool.not_eq_false', bne_eq_false_iff_eq] at *); omega
  have h1 : ¬ z = 1 := by omega
  refine ⟨by omega, ?_⟩
  have hw : IntKind.i64.wrap (at8 s 0 : Int) = (at8 s 0 : Int) := zao (by omega) (by omega)
  have hsh : (0 : Int) ≤ IntKind.i64.wrap (7 - (z : Int)) := by rw [zao (by omega) (by omega)]; omega
  refine ⟨hsh, ?_⟩
  rw [hw, mask_eq z hz2 _ hb0]
  refine zR z (fun k vs s' => s' = σ ∧ k + 1 ≤ z ∧ vs = [.d (.int .i64 (zdK s z k)), .d (.int .i64 (k + 1 : Nat))] ∧ ∀ i, i < k + 1 → 1 ≤ i → zkf s i = true) ⟨rfl, by omega, rfl, fun i h1 h2 => by omega⟩ ?_
  rintro k vs s' hk ⟨rfl, hk1, rfl, hcont⟩
  have hpl := partF_lt s z (by omega) k
  have hpow : 64 ^ k ≤ 64 ^ 3 := Nat.pow_le_pow_right (by omega) (by omega)
  (refine gq19 ?_; try with_reducible exact True.intro)
  have fail : (¬ ∀ i, i < z → 1 ≤ i → zkf s i = true) → K (.tup [.d (.int .i64 0), .d (.int .i64 0)]) s' := fun h => by
    have : zfB s = (0, 0) := by simp only [zfB, ← hz]; rw [if_neg hnb, if_neg h1, if_neg h]
    rw [this] at hK; exact hK
  refine zM (fun h => ?_) (fun h => ?_)
  · have hkz : k + 1 < z := by (try simp only [decide_eq_true_eq, decide_eq_false_iff_not, beq_iff_eq, beq_eq_false_iff_ne, bne_iff_ne, ne_eq, Bool.not_eq_true', Bool.not_eq_false', bne_eq_false_iff_eq] at *); omega
    obtain ⟨f1, f2⟩ := at8_some (s := s) (i := k + 1) (by omega)
    have hb := zmt s (k + 1)
    repeat' first
      | (refine gq24 (zce f1 f2) ?_; try with_reducible exact True.intro)
      | (refine zM (fun h => ?_) (fun h => ?_) <;> (try rw [h]))
      | ((with_reducible refine And.intro ?_ ?_); focus (first | omega | rfl | decide))
    · refine zam hl ?_
      exact fail fun h' => by
        have := h' (k + 1) hkz (by omega)
        simp only [zkf] at this
        (try simp only [decide_eq_true_eq, decide_eq_false_iff_not, beq_iff_eq, beq_eq_false_iff_ne, bne_iff_ne, ne_eq, Bool.not_eq_true', Bool.not_eq_false', bne_eq_false_iff_eq] at *); omega
    · refine zam hl ?_
      exact fail fun h' => by
        have := h' (k + 1) hkz (by omega)
        simp only [zkf] at this
        (try simp only [decide_eq_true_eq, decide_eq_false_iff_not, beq_iff_eq, beq_eq_false_iff_ne, bne_iff_ne, ne_eq, Bool.not_eq_true', Bool.not_eq_false', bne_eq_false_iff_eq] at *); omega
    have hv : IntKind.i64.wrap (IntKind.i64.wrap (↑(zdK s z k) * 64) + (IntKind.i64.wrap ↑(at8 s (k + 1))).tmod 64) = ((zdK s z (k + 1) : Nat) : Int) := by
      have hp2 : zdK s z k < 32 * 64 ^ 3 := by omega
      have e1 : IntKind.i64.wrap ((zdK s z k : Int) * 64) = (zdK s z k : Int) * 64 := zao (by omega) (by omega)
      have e2 : IntKind.i64.wrap (at8 s (k + 1) : Int) = (at8 s (k + 1) : Int) := zao (by omega) (by omega)
      have e3 : ((at8 s (k + 1) : Int)).tmod 64 = ((at8 s (k + 1) % 64 : Nat) : Int) := by rw [Int.tmod_eq_emod_of_nonneg (by omega)]; rfl
      rw [e1, e2, e3, zao (by omega) (by omega)]
      simp only [zdK]
      omega
    have hw2 : IntKind.i64.wrap (((k + 1 : Nat) : Int) + 1) = ((k + 1 + 1 : Nat) : Int) := by rw [zao (by omega) (by omega)]; rfl
    rw [hv, hw2]
    refine zbq.next (by omega) ⟨rfl, by omega, rfl, fun i hi1 hi2 => ?_⟩
    by_cases hi : i < k + 1
    · exact hcont i hi hi2
    · obtain rfl : i = k + 1 := by omega
      simp only [zkf]
      (try simp only [decide_eq_true_eq, decide_eq_false_iff_not, beq_iff_eq, beq_eq_false_iff_ne, bne_iff_ne, ne_eq, Bool.not_eq_true', Bool.not_eq_false', bne_eq_false_iff_eq] at *); omega
  · have hkz : k + 1 = z := by (try simp only [decide_eq_true_eq, decide_eq_false_iff_not, beq_iff_eq, beq_eq_false_iff_ne, bne_iff_ne, ne_eq, Bool.not_eq_true', Bool.not_eq_false', bne_eq_false_iff_eq] at *); omega
    have hall : ∀ i, i < z → 1 ≤ i → zkf s i = true := by rw [← hkz]; exact hcont
    have hdec : zfB s = if zdK s z k < zdi z ∨ zdK s z k > 1114111 ∨ (55296 ≤ zdK s z k ∧ zdK s z k < 57344) then (0, 0) else (zdK s z k, z) := by
      have e : z - 1 = k := by omega
      simp only [zfB, ← hz]
      rw [if_neg hnb, if_neg h1, if_pos hall, e]
    have hget : ∃ l : Nat, l = zdi z ∧ ([[D.int .i64 0], [D.int .i64 0], [D.int .i64 128], [D.int .i64 2048], [D.int .i64 65536]] : List (List D))[z]? = some [D.int .i64 l] := by
      rcases hz2 with rfl | rfl | rfl <;> exact ⟨_, rfl, rfl⟩
    obtain ⟨l, hl1, hl2⟩ := hget
    rw [← hl1] at hdec
    repeat' first
      | (refine gq24 hl2 ?_; try with_reducible exact True.intro)
      | (refine zM (fun h => ?_) (fun h => ?_) <;> (try rw [h]))
      | ((with_reducible refine And.intro ?_ ?_); focus (first | omega | rfl | decide))
    all_goals refine zam hl ?_
    all_goals (try simp only [decide_eq_true_eq, decide_eq_false_iff_not, beq_iff_eq, beq_eq_false_iff_ne, bne_iff_ne, ne_eq, Bool.not_eq_true', Bool.not_eq_false', bne_eq_false_iff_eq] at *)
    all_goals simp only [zcm, dmT, dm, dm1, List.map_cons, List.map_nil]
    all_goals first
      | (rw [if_pos (by omega)] at hdec; rw [hdec] at hK; exact hK)
      | (rw [if_neg (by omega)] at hdec; rw [hdec] at hK; exact hK)

theorem badF_ref (v : Nat) : badF v = decide (v < 33 ∨ 127 ≤ v ∧ v < 160 ∨ v = 47 ∨ v = 65533) := by
  simp only [badF]; congr 1; apply propext; omega
theorem c_rRunes {σ : List zb} {s : List UInt8} (hs : s.length ≤ 1073741824) {K : AV → List zb → Prop} (hK : K (.d (.int .i64 (zeB s))) σ) : zn Tryz.prog zik [.d (.str s)] σ K := by
  refine zfz e_r06_Runes fun hl => ?_
  simp only [zmA, iN, bT, bF, eN]
  refine zR s.length (fun pos vs s' => ∃ (cnt : Nat) (t : List UInt8), t.length + pos = s.length ∧ vs = [.d (.str t), .d (.int .i64 cnt)] ∧ s' = σ ∧ cnt ≤ pos ∧ cnt ≤ 16 ∧ zcI (s.length + 1) s = (zcI (s.length + 1) t).map (· + cnt)) ⟨0, s, rfl, rfl, rfl, by omega, by omega, by simp⟩ ?_
  rintro pos vs s' hp ⟨cnt, t, hlen, rfl, rfl, hc, hc16, hr⟩
  (refine gq19 ?_; try with_reducible exact True.intro)
  refine zM (fun h => ?_) (fun h => ?_)
  · have ht : t ≠ [] := by rintro rfl; simp at h
    have htl : 0 < t.length := List.length_pos_iff.2 ht
    have hw2 := zhI t
    have hcount : zcI (s.length + 1) t = if (zfB t).2 = 0 ∨ badF (zfB t).1 = true then none else (zcI s.length (t.drop (zfB t).2)).map (· + 1) := by
      rw [zcI, if_neg ht]
    refine c_rune1 (by omega) ht ?_
    have stop : (zfB t).2 = 0 ∨ badF (zfB t).1 = true ∨ cnt = 16 → K (.d (.int .i64 0)) s' := fun hb => by
      have h0 : zeB s = 0 := by
        by_cases hq : (zfB t).2 = 0 ∨ badF (zfB t).1 = true
        · simp [zeB, hr, hcount, if_pos hq]
        · have hcn : cnt = 16 := by
            rcases hb with hb | hb | hb
            · exact absurd (.inl hb) hq
            · exact absurd (.inr hb) hq
            · exact hb
          simp only [zeB, hr, hcount, if_neg hq]
          cases zcI s.length (t.drop (zfB t).2) with
          | none => simp
          | some m => simp; omega
      rw [h0] at hK; exact hK
    (repeat' (first | (refine zkB ?_; try with_reducible exact True.intro) | (refine zM (fun h => ?_) (fun h => ?_) <;> (try rw [h])) | ((with_reducible refine And.intro ?_ ?_); focus (first | omega | rfl | decide))))
    all_goals first
      | (refine zam hl ?_
         refine stop ?_
         rw [badF_ref, decide_eq_true_eq]
         (try simp only [decide_eq_true_eq, decide_eq_false_iff_not, beq_iff_eq, beq_eq_false_iff_ne, bne_iff_ne, ne_eq, Bool.not_eq_true', Bool.not_eq_false', bne_eq_false_iff_eq] at *)
         omega)
      | skip
    all_goals
      have hb : badF (zfB t).1 = false := by
        rw [badF_ref, decide_eq_false_iff_not]
        (try simp only [decide_eq_true_eq, decide_eq_false_iff_not, beq_iff_eq, beq_eq_false_iff_ne, bne_iff_ne, ne_eq, Bool.not_eq_true', Bool.not_eq_false', bne_eq_false_iff_eq] at *)
        omega
      have h2 : (zfB t).2 ≠ 0 := by (try simp only [decide_eq_true_eq, decide_eq_false_iff_not, beq_iff_eq, beq_eq_false_iff_ne, bne_iff_ne, ne_eq, Bool.not_eq_true', Bool.not_eq_false', bne_eq_false_iff_eq] at *); omega
      have hcl : cnt < 16 := by (try simp only [decide_eq_true_eq, decide_eq_false_iff_not, beq_iff_eq, beq_eq_false_iff_ne, bne_iff_ne, ne_eq, Bool.not_eq_true', Bool.not_eq_false', bne_eq_false_iff_eq] at *); omega
      rw [zao (by omega) (by omega)]
      refine zbq.to (pos + (zfB t).2) (by omega) (by omega) ⟨cnt + 1, t.drop (zfB t).2, by simp; omega, ?_, rfl, by omega, by omega, ?_⟩
      · simp
      · rw [hr, hcount, if_neg (by simp [h2, hb]), ziv s.length (s.length + 1) _ (by simp; omega) (by simp; omega)]
        cases zcI (s.length + 1) (t.drop (zfB t).2) <;> simp
        omega
  · refine zam hl ?_
    have ht : t = [] := by
      have : ¬ 0 < t.length := by (try simp only [decide_eq_true_eq, decide_eq_false_iff_not, beq_iff_eq, beq_eq_false_iff_ne, bne_iff_ne, ne_eq, Bool.not_eq_true', Bool.not_eq_false', bne_eq_false_iff_eq] at *); omega
      exact List.length_eq_zero_iff.1 (by omega)
    have h0 : zeB s = cnt := by
      simp only [zeB, hr, ht]
      simp [zcI]
      omega
    rw [h0] at hK; exact hK
theorem c_rName {σ : List zb} {s : List UInt8} (hs : s.length ≤ 1073741824) {K : AV → List zb → Prop} (hK : K (.d (.bool (zgK s))) σ) : zn Tryz.prog zhC [.d (.str s)] σ K := by
  refine zfz e_r06_Name fun hl => ?_
  simp only [znJ, iN, bT, bF, eN]
  (refine gq19 ?_; try with_reducible exact True.intro)
  refine c_rRunes hs ?_
  (refine gq19 ?_; try with_reducible exact True.intro)
  refine zam hl ?_
  have : decide ((zeB s : Int) > 0) = zgK s := by simp [zgK]
  rw [this]; exact hK

theorem c_Check_1 {σ : List zb} {r : List UInt8} {K : AV → List zb → Prop} (hK : K (.d (.bool (decide (r.length > 64)))) σ) : zn Tryz.prog zfn [.d (.slice (bcs r))] σ K := by
  refine zfz e_op_Check_1 fun hl => ?_
  simp only [zkR, iN, bT, bF, eN]
  (refine gq19 ?_; try with_reducible exact True.intro)
  refine zam hl ?_
  have : decide (((bcs r).length : Int) > 64) = decide (r.length > 64) := by simp [bcs]; omega
  rw [this]; exact hK
theorem gq25 {P Q : Prop} (h : Q) (e : P = Q := by simp -dsimp only [↓zem, ↓zas, ↓zbe, ↓zen, ↓zeg, ↓zee, ↓zeh, ↓zef, ↓zbj, ↓zbf, ↓zbk, ↓zbg, ↓zei, ↓zbd, ↓zbl, ↓zbh, ↓zbm, ↓zbi, ↓zec, ↓zel, ↓zbc, ↓zbo, ↓zdY, ↓zdX, ↓zeb, iN, bT, bF, eN, ↓zcx, ↓unC, ↓zU, ↓zE, ↓zF, ↓zI, ↓zaa, ↓zaE, ↓zco, ↓zZ, ↓zbw, ↓zQ, ↓zl, ↓zm, ↓zbF, ↓zf, ↓zab, ↓zK, ↓zay, ↓zaD, ↓zc, ↓zy, ↓zi, ↓zr, ↓zai, ↓zcz, ↓zcG, ↓zal, ↓zap, ↓zax, ↓zaG, ↓zaN, ↓zj, ↓zad, ↓zG, ↓zq, ↓zX, zcE, zaZ, zaW, unA, zcH, bnd, zdj, zY, zac, zdk, dm, dm1, zJ, zar, zdD, zdC, zT, Q0, Q1, Q2, Q3, Q4, Q5, zS, zg, zp, zu, zC, Q6, Q7, Q8, Q9, Q10, Q11, Q12, Q13, Q14, Nat.reduceAdd, Q15, Int.reduceToNat, Q16, Q17, Q18, Q19, Q20, reduceIte, Q21, Q22, dmT, zcm, zA]; rfl) : P := e.mpr h
theorem zhj {σ : List zb} {a : List (List UInt8)} (ha : a.length ≤ 1073741824) {K : AV → List zb → Prop} (hK : K (.d (.bool (a.any fun r => decide (r.length > 64)))) σ) :
    zn Tryz.prog zat [.d (.slice (zeu a)), .fn (.func zfn) [] []] σ K := by
  refine zia zcf fun hl => ?_
  simp only [zaM, iN, bT, bF, eN]
  (refine gq19 ?_; try with_reducible exact True.intro)
  refine zia zcp fun hl => ?_
  simp only [zbb, iN, bT, bF, eN]
  (refine gq19 ?_; try with_reducible exact True.intro)
  refine zR a.length (fun k vs s => vs = [.d (.int .i64 k)] ∧ s = σ ∧ ∀ r ∈ a.take k, ¬ r.length > 64) ⟨rfl, rfl, by simp⟩ ?_
  rintro k vs s hk ⟨rfl, rfl, htk⟩
  (refine gq19 ?_; try with_reducible exact True.intro)
  refine zM (fun h => ?_) (fun h => ?_)
  · have hka : k < a.length := by (try simp only [decide_eq_true_eq, decide_eq_false_iff_not, beq_iff_eq, beq_eq_false_iff_ne, bne_iff_ne, ne_eq, Bool.not_eq_true', Bool.not_eq_false', bne_eq_false_iff_eq] at *); omega
    have hx : a[k]? = some a[k] := by simp [hka]
    (refine gq18 (zea hx) ?_; try with_reducible exact True.intro)
    refine And.intro (by omega) (c_Check_1 ?_)
    (refine gq19 ?_; try with_reducible exact True.intro)
    refine zM (fun h => ?_) (fun h => ?_)
    · refine zam hl ?_
      (refine gq25 ?_; try with_reducible exact True.intro)
      refine zam hl ?_
      have e1 : decide ((k : Int) ≥ 0) = true := by simp
      have e2 : (a.any fun r => decide (r.length > 64)) = true := by
        rw [List.any_eq_true]
        exact ⟨a[k], List.getElem_mem _, h⟩
      rw [e2] at hK
      simp only [zcm, dmT, dm, dm1]
      rw [e1]; exact hK
    · (refine gq19 ?_; try with_reducible exact True.intro)
      refine zbq.next hka ⟨?_, rfl, fun r hr => ?_⟩
      · rw [zao (by omega) (by omega)]; rfl
      · rw [List.take_add_one, hx] at hr
        rcases List.mem_append.1 hr with hr | hr
        · exact htk r hr
        · have : r = a[k] := by simpa using hr
          subst this
          simpa using h
  · refine zam hl ?_
    (refine gq25 ?_; try with_reducible exact True.intro)
    refine zam hl ?_
    have e2 : (a.any fun r => decide (r.length > 64)) = false := by
      rw [List.any_eq_false]
      intro r hr
      have hk' : k = a.length := by (try simp only [decide_eq_true_eq, decide_eq_false_iff_not, beq_iff_eq, beq_eq_false_iff_ne, bne_iff_ne, ne_eq, Bool.not_eq_true', Bool.not_eq_false', bne_eq_false_iff_eq] at *); omega
      rw [hk', List.take_length] at htk
      simpa using htk r hr
    rw [e2] at hK
    exact hK
theorem gq26 {P Q : Prop} (h : Q) (e : P = Q := by simp -dsimp only [↓zem, ↓zas, ↓zbe, ↓zen, ↓zeg, ↓zee, ↓zeh, ↓zef, ↓zbj, ↓zbf, ↓zbk, ↓zbg, ↓zei, ↓zbd, ↓zbl, ↓zbh, ↓zbm, ↓zbi, ↓zec, ↓zel, ↓zbc, ↓zbo, ↓zdY, ↓zdX, ↓zeb, iN, bT, bF, eN, ↓zcx, ↓unC, ↓zU, ↓zE, ↓zF, ↓zI, ↓zaa, ↓zaE, ↓zco, ↓zZ, ↓zbw, ↓zQ, ↓zl, ↓zm, ↓zbF, ↓zf, ↓zab, ↓zK, ↓zay, ↓zaD, ↓zc, ↓zy, ↓zi, ↓zr, ↓zai, ↓zcz, ↓zcG, ↓zal, ↓zap, ↓zax, ↓zaG, ↓zaN, ↓zj, ↓zad, ↓zG, ↓zq, ↓zX, zcE, zaZ, zaW, unA, zcH, bnd, zdj, zY, zac, zdk, dm, dm1, zJ, zar, zdD, zdC, zT, Q0, Q1, Q2, Q3, Q4, Q5, zS, zg, zp, zu, zC, Q6, Q7, Q8, Q9, Q10, Q11, Q12, Q13, Q14, Nat.reduceAdd, Q15, Int.reduceToNat, Q16, Q17, Q18, Q19, Q20, reduceIte, Q21, Q22, zA, rep, zV, zdZ, toD, zaj, Q23, Q24, Q25, Q26, Q27, Q28, Nat.reduceLeDiff, Q29, Nat.reduceSub, Q30, Q31, Q32, sc, Q33, Q34, Q35, Bool.and_false, Bool.and_self, Bool.false_and, Bool.not_false, Bool.not_true, Bool.true_and, Int.toNat_natCast, Int.toNat_zero, List.drop_zero, List.length_map, List.length_nil, List.nil_append, List.take_length, Nat.sub_zero, Nat.zero_add, Option.isSome_none, Option.isSome_some, Option.map_none, Option.map_some, zaq, beq_self_eq_true, bne_self_eq_false, zbu, zbC, opA]; rfl) : P := e.mpr h
theorem c_Check {σ : List zb} {o : TOp} (ht : o.topic.length ≤ 1073741824) (hg : o.group.length ≤ 1073741824) (hr : o.recs.length ≤ 1073741824) {K : AV → List zb → Prop} (hK : K (.d (.int .i64 (zbE zgK o))) σ) : zn Tryz.prog zhD [opA o] σ K := by
  refine zfz e_op_Check fun hl => ?_
  simp only [znN, iN, bT, bF, eN, zl3, opA]
  (refine zkB ?_; try with_reducible exact True.intro)
  refine c_only (o := o) ?_
  have honly : (zof o).recs.length ≤ 1073741824 := by unfold zof noOp; split <;> (try split) <;> (try split) <;> (try split) <;> simp <;> omega
  (refine gq26 ?_; try with_reducible exact True.intro)
  repeat' first
    | (refine zkB ?_; try with_reducible exact True.intro)
    | refine c_Same (a := o) (b := zof o) hr honly ?_
    | refine c_Name ht ?_
    | refine c_Name hg ?_
    | refine zhj hr ?_
    | (refine zM (fun h => ?_) (fun h => ?_) <;> (try rw [h]))
    | ((with_reducible refine And.intro ?_ ?_); focus (first | omega | rfl | decide))
  all_goals refine zam hl ?_
  all_goals (try simp only [decide_eq_true_eq, decide_eq_false_iff_not, beq_iff_eq, beq_eq_false_iff_ne, bne_iff_ne, ne_eq, Bool.not_eq_true', Bool.not_eq_false', bne_eq_false_iff_eq] at *)
  all_goals
    simp only [zcm, dmT, dm, dm1]
    have e : ∀ z : Int, zbE zgK o = z → K (.d (.int .i64 z)) σ := fun z hz => by rw [← hz]; exact hK
    clear hK
    apply e
    first
    | grind [zbE]
    | skip

def zhb (k : Int) : Bool := decide (1 ≤ k ∧ k ≤ 4)
def ziW (k : Int) : Bool := decide (k = 3)
def fOff (k : Int) : Bool := decide (k = 3 ∨ k = 4)
def zos (k : Int) : Bool := decide (k = 2)
theorem c_fields {σ : List zb} {k : Int} {K : AV → List zb → Prop} (hK : K (.tup [.d (.bool (zhb k)), .d (.bool (ziW k)), .d (.bool (fOff k)), .d (.bool (zos k))]) σ) : zn Tryz.prog zfm [.d (.int .i64 k)] σ K := by
  refine zfz e_r06_fields fun hl => ?_
  simp only [zkP, iN, bT, bF, eN]
  (repeat' (first | (refine zkB ?_; try with_reducible exact True.intro) | (refine zM (fun h => ?_) (fun h => ?_) <;> (try rw [h])) | ((with_reducible refine And.intro ?_ ?_); focus (first | omega | rfl | decide))))
  all_goals refine zam hl ?_
  all_goals (try simp only [decide_eq_true_eq, decide_eq_false_iff_not, beq_iff_eq, beq_eq_false_iff_ne, bne_iff_ne, ne_eq, Bool.not_eq_true', Bool.not_eq_false', bne_eq_false_iff_eq] at *)
  all_goals
    simp only [zcm, dmT, dm, dm1, List.map_cons, List.map_nil]
    have e : ∀ a b c d : Bool, zhb k = a → ziW k = b → fOff k = c → zos k = d → K (.tup [.d (.bool a), .d (.bool b), .d (.bool c), .d (.bool d)]) σ := fun a b c d h1 h2 h3 h4 => by rw [← h1, ← h2, ← h3, ← h4]; exact hK
    clear hK
    apply e <;> simp [zhb, ziW, fOff, zos] <;> omega
theorem onlyF_iff (o : TOp) : o = zof o ↔ (zhb o.kind = false → o.topic = []) ∧ (ziW o.kind = false → o.group = []) ∧ (fOff o.kind = false → o.offset = 0) ∧ (zos o.kind = false → o.recs = []) := by
  obtain ⟨k, t, g, f, r⟩ := o
  simp only [zof, noOp, zhb, ziW, fOff, zos, decide_eq_false_iff_not]
  by_cases h1 : k = 1
  · subst h1; simp
  by_cases h2 : k = 2
  · subst h2; simp
  by_cases h3 : k = 3
  · subst h3; simp
  by_cases h4 : k = 4
  · subst h4; simp
  · have : ¬ (1 ≤ k ∧ k ≤ 4) := by omega
    simp [h1, h2, h3, h4, this]
set_option maxHeartbeats 2000000 in
theorem c_rCheck {σ : List zb} {o : TOp} (ht : o.topic.length ≤ 1073741824) (hg : o.group.length ≤ 1073741824) (hr : o.recs.length ≤ 1073741824) {K : AV → List zb → Prop} (hK : K (.d (.int .i64 (zbE zgK o))) σ) : zn Tryz.prog zgi [opA o] σ K := by
  refine zfz e_r06_Check fun hl => ?_
  simp only [zmB, iN, bT, bF, eN, opA]
  (refine zkB ?_; try with_reducible exact True.intro)
  refine c_fields ?_
  have fin : ∀ z : Int, zbE zgK o = z → K (.d (.int .i64 z)) σ := fun z hz => by rw [← hz]; exact hK
  have honly := onlyF_iff o
  have hkind : zhb o.kind = true → zdU o = true := by simp [zhb, zdU]; omega
  have hk1 : zhb o.kind = true ↔ (zdU o = true ∧ o.kind ≠ 0) := by simp [zhb, zdU]; omega
  have hk2 : ziW o.kind = true ↔ o.kind = 3 := by simp [ziW]
  have hk3 : zos o.kind = true ↔ o.kind = 2 := by simp [zos]
  have hk4 : zdU o = true ↔ (0 ≤ o.kind ∧ o.kind ≤ 4) := by simp [zdU]
  have hnil : o.recs = [] ↔ o.recs.length = 0 := List.length_eq_zero_iff.symm
  clear hK
  repeat' first
    | (refine zkB ?_; try with_reducible exact True.intro)
    | refine c_rName ht ?_
    | refine c_rName hg ?_
    | (refine zM (fun h => ?_) (fun h => ?_) <;> (try rw [h]))
    | ((with_reducible refine And.intro ?_ ?_); focus (first | omega | rfl | decide))
  all_goals first
    | (refine zam hl ?_
       (try simp only [decide_eq_true_eq, decide_eq_false_iff_not, beq_iff_eq, beq_eq_false_iff_ne, bne_iff_ne, ne_eq, Bool.not_eq_true', Bool.not_eq_false', bne_eq_false_iff_eq] at *)
       simp only [zcm, dmT, dm, dm1]
       apply fin
       grind [zbE])
    | skip
  all_goals
    refine zR o.recs.length (fun k vs s => vs = [.d (.int .i64 k)] ∧ s = σ ++ [.box [.d (.int .i64 o.kind), .d (.str o.topic), .d (.str o.group), .d (.int .i64 o.offset), .d (.slice (zeu o.recs))]] ∧ ∀ r ∈ o.recs.take k, ¬ r.length > 64) ⟨rfl, rfl, by simp⟩ ?_
    rintro k vs s hk ⟨rfl, rfl, htk⟩
    (refine gq19 ?_; try with_reducible exact True.intro)
    refine zM (fun h => ?_) (fun h => ?_)
    · have hka : k < o.recs.length := by (try simp only [decide_eq_true_eq, decide_eq_false_iff_not, beq_iff_eq, beq_eq_false_iff_ne, bne_iff_ne, ne_eq, Bool.not_eq_true', Bool.not_eq_false', bne_eq_false_iff_eq] at *); omega
      have hx : o.recs[k]? = some o.recs[k] := by simp [hka]
      have hmem : o.recs[k] ∈ o.recs := List.getElem_mem _
      have hbl : (bcs o.recs[k]).length = o.recs[k].length := by simp [bcs]
      (refine gq18 (zea hx) ?_; try with_reducible exact True.intro)
      refine And.intro (by omega) ?_
      refine zM (fun h => ?_) (fun h => ?_)
      · have hany : (o.recs.any fun r => decide (r.length > 64)) = true := by
          rw [List.any_eq_true]
          exact ⟨_, hmem, by (try simp only [decide_eq_true_eq, decide_eq_false_iff_not, beq_iff_eq, beq_eq_false_iff_ne, bne_iff_ne, ne_eq, Bool.not_eq_true', Bool.not_eq_false', bne_eq_false_iff_eq] at *); omega⟩
        refine zam hl ?_
        (try simp only [decide_eq_true_eq, decide_eq_false_iff_not, beq_iff_eq, beq_eq_false_iff_ne, bne_iff_ne, ne_eq, Bool.not_eq_true', Bool.not_eq_false', bne_eq_false_iff_eq] at *)
        simp only [zcm, dmT, dm, dm1]
        apply fin
        grind [zbE]
      · (refine gq19 ?_; try with_reducible exact True.intro)
        refine zbq.next hka ⟨?_, rfl, fun r hr => ?_⟩
        · rw [zao (by omega) (by omega)]; rfl
        · rw [List.take_add_one, hx] at hr
          rcases List.mem_append.1 hr with hr | hr
          · exact htk r hr
          · have : r = o.recs[k] := by simpa using hr
            subst this
            (try simp only [decide_eq_true_eq, decide_eq_false_iff_not, beq_iff_eq, beq_eq_false_iff_ne, bne_iff_ne, ne_eq, Bool.not_eq_true', Bool.not_eq_false', bne_eq_false_iff_eq] at *)
            omega
    · have hany : (o.recs.any fun r => decide (r.length > 64)) = false := by
        rw [List.any_eq_false]
        intro r hr
        have hk' : k = o.recs.length := by (try simp only [decide_eq_true_eq, decide_eq_false_iff_not, beq_iff_eq, beq_eq_false_iff_ne, bne_iff_ne, ne_eq, Bool.not_eq_true', Bool.not_eq_false', bne_eq_false_iff_eq] at *); omega
        rw [hk', List.take_length] at htk
        simpa using htk r hr
      clear htk
      (repeat' (first | (refine zkB ?_; try with_reducible exact True.intro) | (refine zM (fun h => ?_) (fun h => ?_) <;> (try rw [h])) | ((with_reducible refine And.intro ?_ ?_); focus (first | omega | rfl | decide))))
      all_goals
        refine zam hl ?_
        (try simp only [decide_eq_true_eq, decide_eq_false_iff_not, beq_iff_eq, beq_eq_false_iff_ne, bne_iff_ne, ne_eq, Bool.not_eq_true', Bool.not_eq_false', bne_eq_false_iff_eq] at *)
        simp only [zcm, dmT, dm, dm1]
        apply fin
        grind [zbE]

theorem u64_of {n : Int} (h : 0 ≤ n) (h2 : n < 9223372036854775808) : IntKind.u64.wrap n = (n.toNat : Int) := by
  obtain ⟨m, rfl⟩ := Int.eq_ofNat_of_zero_le h
  rw [Int.toNat_natCast]; exact zbU (by omega)
theorem bytesE (s : List UInt8) : s.map zaU = bcs s := rfl

theorem gq27 {A P Q : Prop} (a : A) (h : Q) (e : A → P = Q := by intro a; simp -dsimp only [↓zem, ↓zas, ↓zbe, ↓zen, ↓zeg, ↓zee, ↓zeh, ↓zef, ↓zbj, ↓zbf, ↓zbk, ↓zbg, ↓zei, ↓zbd, ↓zbl, ↓zbh, ↓zbm, ↓zbi, ↓zec, ↓zel, ↓zbc, ↓zbo, ↓zdY, ↓zdX, ↓zeb, iN, bT, bF, eN, ↓zcx, ↓unC, ↓zU, ↓zE, ↓zF, ↓zI, ↓zaa, ↓zaE, ↓zco, ↓zZ, ↓zbw, ↓zQ, ↓zl, ↓zm, ↓zbF, ↓zf, ↓zab, ↓zK, ↓zay, ↓zaD, ↓zc, ↓zy, ↓zi, ↓zr, ↓zai, ↓zcz, ↓zcG, ↓zal, ↓zap, ↓zax, ↓zaG, ↓zaN, ↓zj, ↓zad, ↓zG, ↓zq, ↓zX, zcE, zaZ, zaW, unA, zcH, bnd, zdj, zY, zac, zdk, dm, dm1, zJ, zar, zdD, zdC, zT, Q0, Q1, Q2, Q3, Q4, Q5, zS, zg, zp, zu, zC, Q6, Q7, Q8, Q9, Q10, Q11, Q12, Q13, Q14, Nat.reduceAdd, Q15, Int.reduceToNat, Q16, Q17, Q18, Q19, Q20, reduceIte, Q21, Q22, zA, rep, zV, zdZ, toD, zaj, Q23, Q24, Q25, Q26, Q27, Q28, Nat.reduceLeDiff, Q29, Nat.reduceSub, Q30, Q31, Q32, sc, Q33, Q34, Q35, Bool.and_false, Bool.and_self, Bool.false_and, Bool.not_false, Bool.not_true, Bool.true_and, Int.toNat_natCast, Int.toNat_zero, List.drop_zero, List.length_map, List.length_nil, List.nil_append, List.take_length, Nat.sub_zero, Nat.zero_add, Option.isSome_none, Option.isSome_some, Option.map_none, Option.map_some, zaq, beq_self_eq_true, bne_self_eq_false, bytesE, zbu, zbC, opA, a]; rfl) : P := (e a).mpr h
theorem c_Put {σ : List zb} {b : List UInt8} {o : TOp} (hb : b.length ≤ 268435456) (ho : zgJ o ≤ 268435456) {K : AV → List zb → Prop} (hK : K (.d (.slice (bcs (b ++ if zbE zgK o = 0 then opB o else [])))) σ) :
    zn Tryz.prog zoi [.d (.slice (bcs b)), opA o] σ K := by
  refine zia e_op_Put fun hl => ?_
  have hsz := ho
  simp only [zgJ] at hsz
  have hrl := zgc o.recs
  simp only [S_op_Put, iN, bT, bF, eN, opA]
  (refine zkB ?_; try with_reducible exact True.intro)
  refine zcD zdR (by simp [bcs]; omega) ?_
  (refine zkB ?_; try with_reducible exact True.intro)
  refine c_Check (o := o) (by omega) (by omega) (by omega) ?_
  (refine zkB ?_; try with_reducible exact True.intro)
  refine zM (fun h => ?_) (fun h => ?_)
  · refine zam hl ?_
    (try simp only [decide_eq_true_eq, decide_eq_false_iff_not, beq_iff_eq, beq_eq_false_iff_ne, bne_iff_ne, ne_eq, Bool.not_eq_true', Bool.not_eq_false', bne_eq_false_iff_eq] at *)
    rw [if_neg h, List.append_nil] at hK
    exact hK
  have hc : zbE zgK o = 0 := by (try simp only [decide_eq_true_eq, decide_eq_false_iff_not, beq_iff_eq, beq_eq_false_iff_ne, bne_iff_ne, ne_eq, Bool.not_eq_true', Bool.not_eq_false', bne_eq_false_iff_eq] at *); omega
  obtain ⟨k0, k4, o0, o1, hon⟩ := zoA hc
  rw [if_pos hc] at hK
  have hkn := zL (n := o.kind.toNat) (by omega)
  have hon' := zL (n := o.offset.toNat) (by omega)
  have hrn := zL (n := o.recs.length) (by omega)
  have htp := zfl (x := o.topic) (by omega)
  have hgp := zfl (x := o.group) (by omega)
  (refine gq24 (u64_of k0 (by omega)) ?_; try with_reducible exact True.intro)
  refine zdV (by omega) (by omega) ?_
  have wo := u64_of o0 (by omega : o.offset < 9223372036854775808)
  have wl : IntKind.u64.wrap ((zeu o.recs).length : Int) = (o.recs.length : Int) := by rw [zA]; exact zbU (by omega)
  have wl' : IntKind.u64.wrap (o.recs.length : Int) = (o.recs.length : Int) := zbU (by omega)
  repeat' first
    | (refine gq27 (zce wo (zce wl wl')) ?_; try with_reducible exact True.intro)
    | (refine zM (fun h => ?_) (fun h => ?_) <;> (try rw [h]))
    | ((with_reducible refine And.intro ?_ ?_); focus (first | omega | rfl | decide))
    | refine zkh (by omega) (by simp only [zlG, List.length_append] at *; omega) ?_
    | refine zdV (by omega) (by simp only [zlG, List.length_append] at *; omega) ?_
  -- the ways that end
  all_goals first
    | (exfalso; (try simp only [decide_eq_true_eq, decide_eq_false_iff_not, beq_iff_eq, beq_eq_false_iff_ne, bne_iff_ne, ne_eq, Bool.not_eq_true', Bool.not_eq_false', bne_eq_false_iff_eq] at *); omega)
    | (refine zam hl ?_
       (try simp only [decide_eq_true_eq, decide_eq_false_iff_not, beq_iff_eq, beq_eq_false_iff_ne, bne_iff_ne, ne_eq, Bool.not_eq_true', Bool.not_eq_false', bne_eq_false_iff_eq] at *)
       simp only [zcm, dmT, dm, dm1]
       (first | rw [opB_0 (by omega)] at hK | rw [opB_1 (by omega)] at hK | rw [opB_3 (by omega)] at hK | rw [opB_4 (by omega)] at hK)
       exact hK)
    | skip
  -- the records
  have hk2 : o.kind = 2 := by (try simp only [decide_eq_true_eq, decide_eq_false_iff_not, beq_iff_eq, beq_eq_false_iff_ne, bne_iff_ne, ne_eq, Bool.not_eq_true', Bool.not_eq_false', bne_eq_false_iff_eq] at *); omega
  rw [opB_2 hk2] at hK
  refine zR o.recs.length (fun k vs s => ∃ t τ, vs = [.own t (bcs (b ++ (zcr o.kind.toNat ++ (zcr o.topic.length ++ (o.topic ++ (zcr o.recs.length ++ zjv (o.recs.take k))))))), .d (.int .i64 k)] ∧ s = σ ++ τ) ⟨σ.length + 4, _, by rw [List.take_zero, show zjv [] = [] from rfl, List.append_nil]; rfl, rfl⟩ ?_
  rintro k vs s hk ⟨t, τ, rfl, rfl⟩
  (refine zkB ?_; try with_reducible exact True.intro)
  refine zM (fun h => ?_) (fun h => ?_)
  · have hka : k < o.recs.length := by (try simp only [decide_eq_true_eq, decide_eq_false_iff_not, beq_iff_eq, beq_eq_false_iff_ne, bne_iff_ne, ne_eq, Bool.not_eq_true', Bool.not_eq_false', bne_eq_false_iff_eq] at *); omega
    have hx : o.recs[k]? = some o.recs[k] := by simp [hka]
    have hle := rec_le (List.getElem_mem hka)
    have htl := zfv o.recs (by omega) k
    (refine gq24 (zea hx) ?_; try with_reducible exact True.intro)
    refine And.intro (by omega) (zkh (by omega) (by simp only [zlG, List.length_append] at *; omega) ?_)
    (refine zkB ?_; try with_reducible exact True.intro)
    refine zbq.next hka ⟨σ.length + τ.length, _, ?_, rfl⟩
    rw [zao (by omega) (by omega), znd hx]
    simp only [zlG, List.append_assoc]
    rfl
  · have hke : k = o.recs.length := by (try simp only [decide_eq_true_eq, decide_eq_false_iff_not, beq_iff_eq, beq_eq_false_iff_ne, bne_iff_ne, ne_eq, Bool.not_eq_true', Bool.not_eq_false', bne_eq_false_iff_eq] at *); omega
    subst hke
    refine zam hl ?_
    rw [List.take_length]
    exact hK

theorem c_rPut {σ : List zb} {b : List UInt8} {o : TOp} (hb : b.length ≤ 268435456) (ho : zgJ o ≤ 268435456) {K : AV → List zb → Prop} (hK : K (.d (.slice (bcs (b ++ if zbE zgK o = 0 then opB o else [])))) σ) :
    zn Tryz.prog zlM [.d (.slice (bcs b)), opA o] σ K := by
  refine zia e_r06_Put fun hl => ?_
  have hsz := ho
  simp only [zgJ] at hsz
  have hrl := zgc o.recs
  simp only [S_r06_Put, iN, bT, bF, eN, opA]
  (refine zkB ?_; try with_reducible exact True.intro)
  refine c_rCheck (o := o) (by omega) (by omega) (by omega) ?_
  (refine zkB ?_; try with_reducible exact True.intro)
  refine zM (fun h => ?_) (fun h => ?_)
  · refine zam hl ?_
    (try simp only [decide_eq_true_eq, decide_eq_false_iff_not, beq_iff_eq, beq_eq_false_iff_ne, bne_iff_ne, ne_eq, Bool.not_eq_true', Bool.not_eq_false', bne_eq_false_iff_eq] at *)
    rw [if_neg h, List.append_nil] at hK
    exact hK
  have hc : zbE zgK o = 0 := by (try simp only [decide_eq_true_eq, decide_eq_false_iff_not, beq_iff_eq, beq_eq_false_iff_ne, bne_iff_ne, ne_eq, Bool.not_eq_true', Bool.not_eq_false', bne_eq_false_iff_eq] at *); omega
  obtain ⟨k0, k4, o0, o1, hon⟩ := zoA hc
  rw [if_pos hc] at hK
  have hkn := zL (n := o.kind.toNat) (by omega)
  have hon' := zL (n := o.offset.toNat) (by omega)
  have hrn := zL (n := o.recs.length) (by omega)
  have htp := zfl (x := o.topic) (by omega)
  have hgp := zfl (x := o.group) (by omega)
  (refine gq24 (u64_of k0 (by omega)) ?_; try with_reducible exact True.intro)
  refine c_fields ?_
  (refine gq24 (u64_of k0 (by omega)) ?_; try with_reducible exact True.intro)
  refine zdy (by omega) (by omega) ?_
  have wo := u64_of o0 (by omega : o.offset < 9223372036854775808)
  have wl : IntKind.u64.wrap ((zeu o.recs).length : Int) = (o.recs.length : Int) := by rw [zA]; exact zbU (by omega)
  have wl' : IntKind.u64.wrap (o.recs.length : Int) = (o.recs.length : Int) := zbU (by omega)
  have f1 : zhb o.kind = true ↔ o.kind ≠ 0 := by simp [zhb]; omega
  have f2 : ziW o.kind = true ↔ o.kind = 3 := by simp [ziW]
  have f3 : fOff o.kind = true ↔ (o.kind = 3 ∨ o.kind = 4) := by simp [fOff]
  have f4 : zos o.kind = true ↔ o.kind = 2 := by simp [zos]
  repeat' first
    | (refine gq27 (zce wo (zce wl wl')) ?_; try with_reducible exact True.intro)
    | (refine zM (fun h => ?_) (fun h => ?_) <;> (try rw [h]))
    | ((with_reducible refine And.intro ?_ ?_); focus (first | omega | rfl | decide))
    | refine zix (by omega) (by simp only [zlG, List.length_append] at *; omega) ?_
    | refine zdy (by omega) (by simp only [zlG, List.length_append] at *; omega) ?_
  -- the ways that end, those that can't be
  all_goals first
    | (exfalso; clear hK; grind)
    | (refine zam hl ?_
       (try simp only [decide_eq_true_eq, decide_eq_false_iff_not, beq_iff_eq, beq_eq_false_iff_ne, bne_iff_ne, ne_eq, Bool.not_eq_true', Bool.not_eq_false', bne_eq_false_iff_eq] at *)
       simp only [zcm, dmT, dm, dm1]
       (first | rw [opB_0 (by grind)] at hK | rw [opB_1 (by grind)] at hK | rw [opB_3 (by grind)] at hK | rw [opB_4 (by grind)] at hK)
       exact hK)
    | skip
  -- the records
  have hk2 : o.kind = 2 := by grind
  rw [opB_2 hk2] at hK
  refine zR o.recs.length (fun k vs s => ∃ t τ, vs = [.own t (bcs (b ++ (zcr o.kind.toNat ++ (zcr o.topic.length ++ (o.topic ++ (zcr o.recs.length ++ zjv (o.recs.take k))))))), .d (.int .i64 k)] ∧ s = σ ++ .box [.d (.int .i64 o.kind), .d (.str o.topic), .d (.str o.group), .d (.int .i64 o.offset), .d (.slice (zeu o.recs))] :: τ)
    ⟨σ.length + 3, _, by rw [List.take_zero, show zjv [] = [] from rfl, List.append_nil]; rfl, rfl⟩ ?_
  rintro k vs s hk ⟨t, τ, rfl, rfl⟩
  (refine zkB ?_; try with_reducible exact True.intro)
  refine zM (fun h => ?_) (fun h => ?_)
  · have hka : k < o.recs.length := by (try simp only [decide_eq_true_eq, decide_eq_false_iff_not, beq_iff_eq, beq_eq_false_iff_ne, bne_iff_ne, ne_eq, Bool.not_eq_true', Bool.not_eq_false', bne_eq_false_iff_eq] at *); omega
    have hx : o.recs[k]? = some o.recs[k] := by simp [hka]
    have hle := rec_le (List.getElem_mem hka)
    have htl := zfv o.recs (by omega) k
    (refine gq24 (zea hx) ?_; try with_reducible exact True.intro)
    refine And.intro (by omega) (zix (by omega) (by simp only [zlG, List.length_append] at *; omega) ?_)
    (refine zkB ?_; try with_reducible exact True.intro)
    refine zbq.next hka ⟨σ.length + (τ.length + 1), _, ?_, rfl⟩
    rw [zao (by omega) (by omega), znd hx]
    simp only [zlG, List.append_assoc]
    rfl
  · have hke : k = o.recs.length := by (try simp only [decide_eq_true_eq, decide_eq_false_iff_not, beq_iff_eq, beq_eq_false_iff_ne, bne_iff_ne, ne_eq, Bool.not_eq_true', Bool.not_eq_false', bne_eq_false_iff_eq] at *); omega
    subst hke
    refine zam hl ?_
    rw [List.take_length]
    exact hK
end Go.Proofs.YtjjchfbckfopkaaGreat
