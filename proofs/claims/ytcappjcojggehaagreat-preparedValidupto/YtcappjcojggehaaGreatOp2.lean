/- Contracts: runes and names. -/
import Derived.Test.YtcappjcojggehaaGreatCodec1
import Derived.Test.YtcappjcojggehaaGreatSpUtf
set_option linter.all false
set_option maxRecDepth 100000
set_option linter.unusedSimpArgs false
namespace Go.Proofs.YtcappjcojggehaaGreat
open Go.AW

theorem c_Runes {σ : List AObj} {s : List UInt8} (hs : s.length ≤ 1073741824) {K : AV → List AObj → Prop} (hK : K (.d (.int .i64 (zdy s))) σ) : ACall Tryz.prog zjn [.d (.str s)] σ K := by
  refine zo isA_op_Runes rfl fun hl _ => s_op_Runes ?_
  simp only [znv, zW]
  refine zU s.length (fun pos vs s' => ∃ cnt : Nat, vs = [.d (.int .i64 cnt)] ∧ s' = σ ++ [.iter s pos] ∧ pos ≤ s.length ∧ cnt ≤ pos ∧ zbN (s.length + 1) s = (zbN (s.length + 1) (s.drop pos)).map (· + cnt)) ⟨0, rfl, rfl, by omega, by omega, by simp⟩ ?_
  rintro pos vs s' hp ⟨cnt, rfl, rfl, hps, hc, hr⟩
  simp only [zn, nextC, zw, List.getElem?_cons_zero]
  split
  · rename_i hlt
    have hd : s.drop pos ≠ [] := by intro e; have := congrArg List.length e; simp at this; omega
    have hw := goDec_width _ hd
    have hw2 := zgW (s.drop pos)
    simp only [decode_eq s pos hlt]
    have hcount : zbN (s.length + 1) (s.drop pos) = if (dec1 (s.drop pos)).2 = 0 ∨ badF (dec1 (s.drop pos)).1 = true then none else (zbN s.length ((s.drop pos).drop (dec1 (s.drop pos)).2)).map (· + 1) := by
      rw [zbN, if_neg hd]
    (repeat' (first | (refine gq20 ?_; try with_reducible exact True.intro) | (refine zT (fun h => ?_) (fun h => ?_) <;> (try rw [h])) | ((with_reducible refine And.intro ?_ ?_); focus (first | omega | rfl | decide))))
    all_goals first
      | ((first | refine zg (by simp [Low_d, dmT, dm, dm1, pack, zd, ze, zb]) hl ?_ | refine zf (by simp [Low_d, dmT, dm, dm1, pack, zd, ze, zb]) hl ?_)
         have hb : badF (goDec (s.drop pos)).1 = true := by
           simp only [badF]
           (try simp only [decide_eq_true_eq, decide_eq_false_iff_not, beq_iff_eq, beq_eq_false_iff_ne, bne_iff_ne, ne_eq, Bool.not_eq_true', Bool.not_eq_false', bne_eq_false_iff_eq] at *)
           omega
         rw [goDec_bad] at hb
         have : zbN (s.length + 1) (s.drop pos) = none := by rw [hcount, if_pos (by simpa using hb)]
         have h0 : zdy s = 0 := by simp [zdy, hr, this]
         rw [h0] at hK; exact hK)
      | skip
    all_goals
      have hb : badF (goDec (s.drop pos)).1 = false := by
        simp only [badF]
        (try simp only [decide_eq_true_eq, decide_eq_false_iff_not, beq_iff_eq, beq_eq_false_iff_ne, bne_iff_ne, ne_eq, Bool.not_eq_true', Bool.not_eq_false', bne_eq_false_iff_eq] at *)
        omega
      obtain ⟨g1, g2, g3⟩ := goDec_good hb
      rw [zad (by omega) (by omega)]
      refine Again.to (pos + (goDec (s.drop pos)).2) (by omega) (by simp at hw; omega) ⟨cnt + 1, rfl, rfl, by simp at hw; omega, by omega, ?_⟩
      rw [hr, hcount, if_neg (by simp [g2, g3]), g1, List.drop_drop, zhQ s.length (s.length + 1) _ (by simp at *; omega) (by simp; omega)]
      cases zbN (s.length + 1) (List.drop (pos + (dec1 (s.drop pos)).2) s) <;> simp
      omega
  · rename_i hlt
    have e : s.drop pos = [] := List.drop_eq_nil_of_le (by omega)
    have hcnt : zbN (s.length + 1) s = some cnt := by rw [hr, e]; simp [zbN]
    (refine gq24 ?_; try with_reducible exact True.intro)
    refine zT (fun h => ?_) (fun h => ?_)
    all_goals (try (refine gq23 h ?_; try with_reducible exact True.intro))
    · (first | refine zg (by simp [Low_d, dmT, dm, dm1, pack, zd, ze, zb]) hl ?_ | refine zf (by simp [Low_d, dmT, dm, dm1, pack, zd, ze, zb]) hl ?_)
      have h0 : zdy s = 0 := by simp [zdy, hcnt]; simp at h; omega
      rw [h0] at hK; exact hK
    · (first | refine zg (by simp [Low_d, dmT, dm, dm1, pack, zd, ze, zb]) hl ?_ | refine zf (by simp [Low_d, dmT, dm, dm1, pack, zd, ze, zb]) hl ?_)
      have h0 : zdy s = cnt := by simp [zdy, hcnt]; simp at h; omega
      rw [h0] at hK; exact hK
theorem gq27 {P Q : Prop} (h : Q) (e : P = Q := by simp -dsimp only [↓zae, ↓loopL, ↓binC, ↓unC, ↓zL, ↓zD, ↓zE, ↓zF, ↓zP, ↓lenC, ↓slcC, ↓convC, ↓boxC, ↓zH, ↓loadC, ↓zp, ↓nilC, ↓zh, ↓zV, ↓zr, ↓idxSC, ↓idxAC, ↓zi, ↓zG, ↓zl, ↓zt, ↓zZ, ↓maxC, ↓minC, ↓zab, ↓zac, ↓mgetC, ↓msetC, ↓mdelC, ↓zn, ↓zW, ↓zC, ↓zq, ↓zN, binA, intOp, strOp, unA, esOf, bnd, intV, zR, fillV, srcE, dm, dm1, consO, cellA, maxL, minL, keepO, Q0, Q1, Q2, Q3, Q4, Q5, zK, zm, zw, zx, zy, Q6, Q7, Q8, Q9, Q10, Q11, Q12, Q13, Q14, Nat.reduceAdd, Q15, Int.reduceToNat, Q16, Q17, Q18, Q19, Q20, reduceIte, Q21, Q22, S_op_Name, zu]; rfl) : P := e.mpr h
theorem c_Name {σ : List AObj} {s : List UInt8} (hs : s.length ≤ 1073741824) {K : AV → List AObj → Prop} (hK : K (.d (.bool (nameF s))) σ) : ACall Tryz.prog zir [.d (.str s)] σ K := by
  refine zo isA_op_Name rfl fun hl _ => s_op_Name ?_
  (refine gq27 ?_; try with_reducible exact True.intro)
  refine c_Runes hs ?_
  (refine gq24 ?_; try with_reducible exact True.intro)
  (first | refine zg (by simp [Low_d, dmT, dm, dm1, pack, zd, ze, zb]) hl ?_ | refine zf (by simp [Low_d, dmT, dm, dm1, pack, zd, ze, zb]) hl ?_)
  have : decide ((zdy s : Int) > 0) = nameF s := by simp [nameF]
  rw [this]; exact hK
end Go.Proofs.YtcappjcojggehaaGreat

/- Contracts: the reference's runes and names. -/
set_option maxRecDepth 100000
set_option linter.unusedSimpArgs false
namespace Go.Proofs.YtcappjcojggehaaGreat
open Go.AW

theorem c_rsize {σ : List AObj} {c : Nat} {K : AV → List AObj → Prop} (hK : K (.d (.int .i64 (sizeF c))) σ) : ACall Tryz.prog zjl [.d (.int .u8 c)] σ K := by
  refine zo isA_r06_size rfl fun hl _ => s_r06_size ?_
  simp only [zns]
  (repeat' (first | (refine gq20 ?_; try with_reducible exact True.intro) | (refine zT (fun h => ?_) (fun h => ?_) <;> (try rw [h])) | ((with_reducible refine And.intro ?_ ?_); focus (first | omega | rfl | decide))))
  all_goals (first | refine zg (by simp [Low_d, dmT, dm, dm1, pack, zd, ze, zb]) hl ?_ | refine zf (by simp [Low_d, dmT, dm, dm1, pack, zd, ze, zb]) hl ?_)
  all_goals (try simp only [decide_eq_true_eq, decide_eq_false_iff_not, beq_iff_eq, beq_eq_false_iff_ne, bne_iff_ne, ne_eq, Bool.not_eq_true', Bool.not_eq_false', bne_eq_false_iff_eq] at *)
  all_goals
    simp only [pack, dmT, dm, dm1]
    have e : ∀ z : Nat, sizeF c = z → K (.d (.int .i64 z)) σ := fun z hz => by rw [← hz]; exact hK
    first
    | exact e 0 (by unfold sizeF; rw [if_neg (by omega), if_neg (by omega), if_neg (by omega), if_neg (by omega)])
    | exact e 1 (by unfold sizeF; rw [if_pos (by omega)])
    | exact e 2 (by unfold sizeF; rw [if_neg (by omega), if_pos (by omega)])
    | exact e 3 (by unfold sizeF; rw [if_neg (by omega), if_neg (by omega), if_pos (by omega)])
    | exact e 4 (by unfold sizeF; rw [if_neg (by omega), if_neg (by omega), if_neg (by omega), if_pos (by omega)])

theorem mask_eq (z : Nat) (hz : z = 2 ∨ z = 3 ∨ z = 4) (b : Nat) (hb : b < 256) :
    IntKind.i64.wrap ↑(BitVec.ofInt IntKind.i64.bits (b : Int) &&& BitVec.ofInt IntKind.i64.bits (IntKind.i64.wrap (IntKind.i64.wrap (1 * 2 ^ (min (IntKind.i64.wrap (7 - (z : Int))).toNat IntKind.i64.bits)) - 1))).toNat = ((b % 2 ^ (7 - z) : Nat) : Int) := by
  have h0 : (BitVec.ofInt 64 (b : Int)).toNat = b := by simp; omega
  have key : ∀ m : Nat, (m = 3 ∨ m = 4 ∨ m = 5) → IntKind.i64.wrap ↑(BitVec.ofInt 64 (b : Int) &&& BitVec.ofInt 64 ((2 : Int) ^ m - 1)).toNat = ((b % 2 ^ m : Nat) : Int) := fun m hm => by
    have : (BitVec.ofInt 64 (b : Int) &&& BitVec.ofInt 64 ((2 : Int) ^ m - 1)).toNat = b % 2 ^ m := by
      rw [BitVec.toNat_and, h0]
      rcases hm with rfl | rfl | rfl
      · exact Nat.and_two_pow_sub_one_eq_mod b 3
      · exact Nat.and_two_pow_sub_one_eq_mod b 4
      · exact Nat.and_two_pow_sub_one_eq_mod b 5
    rw [this]
    have : b % 2 ^ m < 256 := Nat.lt_of_le_of_lt (Nat.mod_le _ _) hb
    exact zad (by omega) (by omega)
  rcases hz with rfl | rfl | rfl
  · exact key 5 (by omega)
  · exact key 4 (by omega)
  · exact key 3 (by omega)

theorem partF_lt (s : List UInt8) (z : Nat) (hz : 2 ≤ z) : ∀ i, partF s z i < 32 * 64 ^ i
  | 0 => by
    simp only [partF]
    have : 2 ^ (7 - z) ≤ 2 ^ 5 := Nat.pow_le_pow_right (by omega) (by omega)
    have := Nat.mod_lt (at8 s 0) (y := 2 ^ (7 - z)) (Nat.pos_of_ne_zero (by simp))
    omega
  | i + 1 => by
    simp only [partF, Nat.pow_succ]
    have := partF_lt s z hz i
    omega

theorem at8_some {s : List UInt8} {i : Nat} (h : i < s.length) : s[i]? = some s[i] ∧ (s[i].toNat : Int) = (at8 s i : Int) := by
  have : s[i]? = some s[i] := List.getElem?_eq_getElem h
  exact ⟨this, by simp [at8, this]⟩

theorem gq28 {A P Q : Prop} (a : A) (h : Q) (e : A → P = Q := by intro a; simp -dsimp only [↓zae, ↓loopL, ↓binC, ↓unC, ↓zL, ↓zD, ↓zE, ↓zF, ↓zP, ↓lenC, ↓slcC, ↓convC, ↓boxC, ↓zH, ↓loadC, ↓zp, ↓nilC, ↓zh, ↓zV, ↓zr, ↓idxSC, ↓idxAC, ↓zi, ↓zG, ↓zl, ↓zt, ↓zZ, ↓maxC, ↓minC, ↓zab, ↓zac, ↓mgetC, ↓msetC, ↓mdelC, ↓zn, ↓zW, ↓zC, ↓zq, ↓zN, binA, intOp, strOp, unA, esOf, bnd, intV, zR, fillV, srcE, dm, dm1, consO, cellA, maxL, minL, keepO, Q0, Q1, Q2, Q3, Q4, Q5, zK, zm, zw, zx, zy, Q6, Q7, Q8, Q9, Q10, Q11, Q12, Q13, Q14, Nat.reduceAdd, Q15, Int.reduceToNat, Q16, Q17, Q18, Q19, Q20, reduceIte, Q21, Q22, zmh, zu, a]; rfl) : P := (e a).mpr h
theorem gq29 {A P Q : Prop} (a : A) (h : Q) (e : A → P = Q := by intro a; simp -dsimp only [↓zae, ↓loopL, ↓binC, ↓unC, ↓zL, ↓zD, ↓zE, ↓zF, ↓zP, ↓lenC, ↓slcC, ↓convC, ↓boxC, ↓zH, ↓loadC, ↓zp, ↓nilC, ↓zh, ↓zV, ↓zr, ↓idxSC, ↓idxAC, ↓zi, ↓zG, ↓zl, ↓zt, ↓zZ, ↓maxC, ↓minC, ↓zab, ↓zac, ↓mgetC, ↓msetC, ↓mdelC, ↓zn, ↓zW, ↓zC, ↓zq, ↓zN, binA, intOp, strOp, unA, esOf, bnd, intV, zR, fillV, srcE, dm, dm1, consO, cellA, maxL, minL, keepO, Q0, Q1, Q2, Q3, Q4, Q5, zK, zm, zw, zx, zy, Q6, Q7, Q8, Q9, Q10, Q11, Q12, Q13, Q14, Nat.reduceAdd, Q15, Int.reduceToNat, Q16, Q17, Q18, Q19, Q20, reduceIte, Q21, Q22, zu, rep, zO, toDs, toD, zaa, Q23, Q24, Q25, Q26, Q27, Q28, Nat.reduceLeDiff, Q29, Nat.reduceSub, Q30, Q31, Q32, sc, Q33, Q34, Q35, a]; rfl) : P := (e a).mpr h
theorem c_rune1 {σ : List AObj} {s : List UInt8} (hs : s.length ≤ 1073741824) (hne : s ≠ []) {K : AV → List AObj → Prop} (hK : K (.tup [.d (.int .i64 (dec1 s).1), .d (.int .i64 (dec1 s).2)]) σ) : ACall Tryz.prog zhG [.d (.str s)] σ K := by
  refine zo zoe rfl fun hl _ => s_r06_rune1 ?_
  have hpos : 0 < s.length := List.length_pos_iff.2 hne
  obtain ⟨g1, g2⟩ := at8_some hpos
  have hb0 := zlY s 0
  (refine gq28 (gqc1 g1 g2) ?_; try with_reducible exact True.intro)
  refine ⟨by omega, c_rsize ?_⟩
  have hz4 : sizeF (at8 s 0) = 0 ∨ sizeF (at8 s 0) = 1 ∨ sizeF (at8 s 0) = 2 ∨ sizeF (at8 s 0) = 3 ∨ sizeF (at8 s 0) = 4 := by
    unfold sizeF; split <;> (try split) <;> (try split) <;> (try split) <;> omega
  obtain ⟨z, hz⟩ : ∃ z, z = sizeF (at8 s 0) := ⟨_, rfl⟩
  rw [← hz] at hz4 ⊢
  have bad : z = 0 ∨ z > s.length → K (.tup [.d (.int .i64 0), .d (.int .i64 0)]) σ := fun h => by
    have : dec1 s = (0, 0) := by simp only [dec1, ← hz]; rw [if_pos h]
    rw [this] at hK; exact hK
  (refine gq24 ?_; try with_reducible exact True.intro)
  refine zT (fun h => ?_) (fun h => ?_)
  all_goals (try (refine gq23 (gqc1 h (gqc1 g1 g2)) ?_; try with_reducible exact True.intro))
  · (first | refine zg (by simp [Low_d, dmT, dm, dm1, pack, zd, ze, zb]) hl ?_ | refine zf (by simp [Low_d, dmT, dm, dm1, pack, zd, ze, zb]) hl ?_)
    exact bad (.inl (by (try simp only [decide_eq_true_eq, decide_eq_false_iff_not, beq_iff_eq, beq_eq_false_iff_ne, bne_iff_ne, ne_eq, Bool.not_eq_true', Bool.not_eq_false', bne_eq_false_iff_eq] at *); omega))
  have hz0 : z ≠ 0 := by (try simp only [decide_eq_true_eq, decide_eq_false_iff_not, beq_iff_eq, beq_eq_false_iff_ne, bne_iff_ne, ne_eq, Bool.not_eq_true', Bool.not_eq_false', bne_eq_false_iff_eq] at *); omega
  refine zT (fun h => ?_) (fun h => ?_)
  all_goals (try (refine gq23 (gqc1 h (gqc1 g1 g2)) ?_; try with_reducible exact True.intro))
  · (first | refine zg (by simp [Low_d, dmT, dm, dm1, pack, zd, ze, zb]) hl ?_ | refine zf (by simp [Low_d, dmT, dm, dm1, pack, zd, ze, zb]) hl ?_)
    exact bad (.inr (by (try simp only [decide_eq_true_eq, decide_eq_false_iff_not, beq_iff_eq, beq_eq_false_iff_ne, bne_iff_ne, ne_eq, Bool.not_eq_true', Bool.not_eq_false', bne_eq_false_iff_eq] at *); omega))
  have hzl : z ≤ s.length := by (try simp only [decide_eq_true_eq, decide_eq_false_iff_not, beq_iff_eq, beq_eq_false_iff_ne, bne_iff_ne, ne_eq, Bool.not_eq_true', Bool.not_eq_false', bne_eq_false_iff_eq] at *); omega
  have hnb : ¬ (z = 0 ∨ z > s.length) := by omega
  refine zT (fun h => ?_) (fun h => ?_)
  all_goals (try (refine gq23 (gqc1 h (gqc1 g1 g2)) ?_; try with_reducible exact True.intro))
  · have h1 : z = 1 := by (try simp only [decide_eq_true_eq, decide_eq_false_iff_not, beq_iff_eq, beq_eq_false_iff_ne, bne_iff_ne, ne_eq, Bool.not_eq_true', Bool.not_eq_false', bne_eq_false_iff_eq] at *); omega
    refine ⟨by omega, ?_⟩
    (first | refine zg (by simp [Low_d, dmT, dm, dm1, pack, zd, ze, zb]) hl ?_ | refine zf (by simp [Low_d, dmT, dm, dm1, pack, zd, ze, zb]) hl ?_)
    have : dec1 s = (at8 s 0, 1) := by simp only [dec1, ← hz]; rw [if_neg hnb, if_pos h1]
    rw [this] at hK
    simp only [pack, dmT, dm, dm1, List.map_cons, List.map_nil]
    rw [zad (by omega) (by omega)]
    exact hK
  have hz2 : z = 2 ∨ z = 3 ∨ z = 4 := by (try simp only [decide_eq_true_eq, decide_eq_false_iff_not, beq_iff_eq, beq_eq_false_iff_ne, bne_iff_ne, ne_eq, Bool.not_eq_true', Bool.not_eq_false', bne_eq_false_iff_eq] at *); omega
  have h1 : ¬ z = 1 := by omega
  refine ⟨by omega, ?_⟩
  have hw : IntKind.i64.wrap (at8 s 0 : Int) = (at8 s 0 : Int) := zad (by omega) (by omega)
  have hsh : (0 : Int) ≤ IntKind.i64.wrap (7 - (z : Int)) := by rw [zad (by omega) (by omega)]; omega
  refine ⟨hsh, ?_⟩
  rw [hw, mask_eq z hz2 _ hb0]
  refine zU z (fun k vs s' => s' = σ ∧ k + 1 ≤ z ∧ vs = [.d (.int .i64 (partF s z k)), .d (.int .i64 (k + 1 : Nat))] ∧ ∀ i, i < k + 1 → 1 ≤ i → contF s i = true) ⟨rfl, by omega, rfl, fun i h1 h2 => by omega⟩ ?_
  rintro k vs s' hk ⟨rfl, hk1, rfl, hcont⟩
  have hpl := partF_lt s z (by omega) k
  have hpow : 64 ^ k ≤ 64 ^ 3 := Nat.pow_le_pow_right (by omega) (by omega)
  (refine gq24 ?_; try with_reducible exact True.intro)
  have fail : (¬ ∀ i, i < z → 1 ≤ i → contF s i = true) → K (.tup [.d (.int .i64 0), .d (.int .i64 0)]) s' := fun h => by
    have : dec1 s = (0, 0) := by simp only [dec1, ← hz]; rw [if_neg hnb, if_neg h1, if_neg h]
    rw [this] at hK; exact hK
  refine zT (fun h => ?_) (fun h => ?_)
  · have hkz : k + 1 < z := by (try simp only [decide_eq_true_eq, decide_eq_false_iff_not, beq_iff_eq, beq_eq_false_iff_ne, bne_iff_ne, ne_eq, Bool.not_eq_true', Bool.not_eq_false', bne_eq_false_iff_eq] at *); omega
    obtain ⟨f1, f2⟩ := at8_some (s := s) (i := k + 1) (by omega)
    have hb := zlY s (k + 1)
    repeat' first
      | (refine gq29 (gqc1 f1 f2) ?_; try with_reducible exact True.intro)
      | (refine zT (fun h => ?_) (fun h => ?_) <;> (try rw [h]))
      | ((with_reducible refine And.intro ?_ ?_); focus (first | omega | rfl | decide))
    · (first | refine zg (by simp [Low_d, dmT, dm, dm1, pack, zd, ze, zb]) hl ?_ | refine zf (by simp [Low_d, dmT, dm, dm1, pack, zd, ze, zb]) hl ?_)
      exact fail fun h' => by
        have := h' (k + 1) hkz (by omega)
        simp only [contF] at this
        (try simp only [decide_eq_true_eq, decide_eq_false_iff_not, beq_iff_eq, beq_eq_false_iff_ne, bne_iff_ne, ne_eq, Bool.not_eq_true', Bool.not_eq_false', bne_eq_false_iff_eq] at *); omega
    · (first | refine zg (by simp [Low_d, dmT, dm, dm1, pack, zd, ze, zb]) hl ?_ | refine zf (by simp [Low_d, dmT, dm, dm1, pack, zd, ze, zb]) hl ?_)
      exact fail fun h' => by
        have := h' (k + 1) hkz (by omega)
        simp only [contF] at this
        (try simp only [decide_eq_true_eq, decide_eq_false_iff_not, beq_iff_eq, beq_eq_false_iff_ne, bne_iff_ne, ne_eq, Bool.not_eq_true', Bool.not_eq_false', bne_eq_false_iff_eq] at *); omega
    have hv : IntKind.i64.wrap (IntKind.i64.wrap (↑(partF s z k) * 64) + (IntKind.i64.wrap ↑(at8 s (k + 1))).tmod 64) = ((partF s z (k + 1) : Nat) : Int) := by
      have hp2 : partF s z k < 32 * 64 ^ 3 := by omega
      have e1 : IntKind.i64.wrap ((partF s z k : Int) * 64) = (partF s z k : Int) * 64 := zad (by omega) (by omega)
      have e2 : IntKind.i64.wrap (at8 s (k + 1) : Int) = (at8 s (k + 1) : Int) := zad (by omega) (by omega)
      have e3 : ((at8 s (k + 1) : Int)).tmod 64 = ((at8 s (k + 1) % 64 : Nat) : Int) := by rw [Int.tmod_eq_emod_of_nonneg (by omega)]; rfl
      rw [e1, e2, e3, zad (by omega) (by omega)]
      simp only [partF]
      omega
    have hw2 : IntKind.i64.wrap (((k + 1 : Nat) : Int) + 1) = ((k + 1 + 1 : Nat) : Int) := by rw [zad (by omega) (by omega)]; rfl
    rw [hv, hw2]
    refine Again.next (by omega) ⟨rfl, by omega, rfl, fun i hi1 hi2 => ?_⟩
    by_cases hi : i < k + 1
    · exact hcont i hi hi2
    · obtain rfl : i = k + 1 := by omega
      simp only [contF]
      (try simp only [decide_eq_true_eq, decide_eq_false_iff_not, beq_iff_eq, beq_eq_false_iff_ne, bne_iff_ne, ne_eq, Bool.not_eq_true', Bool.not_eq_false', bne_eq_false_iff_eq] at *); omega
  · have hkz : k + 1 = z := by (try simp only [decide_eq_true_eq, decide_eq_false_iff_not, beq_iff_eq, beq_eq_false_iff_ne, bne_iff_ne, ne_eq, Bool.not_eq_true', Bool.not_eq_false', bne_eq_false_iff_eq] at *); omega
    have hall : ∀ i, i < z → 1 ≤ i → contF s i = true := by rw [← hkz]; exact hcont
    have hdec : dec1 s = if partF s z k < zcn z ∨ partF s z k > 1114111 ∨ (55296 ≤ partF s z k ∧ partF s z k < 57344) then (0, 0) else (partF s z k, z) := by
      have e : z - 1 = k := by omega
      simp only [dec1, ← hz]
      rw [if_neg hnb, if_neg h1, if_pos hall, e]
    have hget : ∃ l : Nat, l = zcn z ∧ ([[D.int .i64 0], [D.int .i64 0], [D.int .i64 128], [D.int .i64 2048], [D.int .i64 65536]] : List (List D))[z]? = some [D.int .i64 l] := by
      rcases hz2 with rfl | rfl | rfl <;> exact ⟨_, rfl, rfl⟩
    obtain ⟨l, hl1, hl2⟩ := hget
    rw [← hl1] at hdec
    repeat' first
      | (refine gq29 hl2 ?_; try with_reducible exact True.intro)
      | (refine zT (fun h => ?_) (fun h => ?_) <;> (try rw [h]))
      | ((with_reducible refine And.intro ?_ ?_); focus (first | omega | rfl | decide))
    all_goals (first | refine zg (by simp [Low_d, dmT, dm, dm1, pack, zd, ze, zb]) hl ?_ | refine zf (by simp [Low_d, dmT, dm, dm1, pack, zd, ze, zb]) hl ?_)
    all_goals (try simp only [decide_eq_true_eq, decide_eq_false_iff_not, beq_iff_eq, beq_eq_false_iff_ne, bne_iff_ne, ne_eq, Bool.not_eq_true', Bool.not_eq_false', bne_eq_false_iff_eq] at *)
    all_goals simp only [pack, dmT, dm, dm1, List.map_cons, List.map_nil]
    all_goals first
      | (rw [if_pos (by omega)] at hdec; rw [hdec] at hK; exact hK)
      | (rw [if_neg (by omega)] at hdec; rw [hdec] at hK; exact hK)

theorem badF_ref (v : Nat) : badF v = decide (v < 33 ∨ 127 ≤ v ∧ v < 160 ∨ v = 47 ∨ v = 65533) := by
  simp only [badF]; congr 1; apply propext; omega
theorem c_rRunes {σ : List AObj} {s : List UInt8} (hs : s.length ≤ 1073741824) {K : AV → List AObj → Prop} (hK : K (.d (.int .i64 (zdy s))) σ) : ACall Tryz.prog zhH [.d (.str s)] σ K := by
  refine zo zof rfl fun hl _ => s_r06_Runes ?_
  simp only [zmi]
  refine zU s.length (fun pos vs s' => ∃ (cnt : Nat) (t : List UInt8), t.length + pos = s.length ∧ vs = [.d (.str t), .d (.int .i64 cnt)] ∧ s' = σ ∧ cnt ≤ pos ∧ cnt ≤ 16 ∧ zbN (s.length + 1) s = (zbN (s.length + 1) t).map (· + cnt)) ⟨0, s, rfl, rfl, rfl, by omega, by omega, by simp⟩ ?_
  rintro pos vs s' hp ⟨cnt, t, hlen, rfl, rfl, hc, hc16, hr⟩
  (refine gq24 ?_; try with_reducible exact True.intro)
  refine zT (fun h => ?_) (fun h => ?_)
  · have ht : t ≠ [] := by rintro rfl; simp at h
    have htl : 0 < t.length := List.length_pos_iff.2 ht
    have hw2 := zgW t
    have hcount : zbN (s.length + 1) t = if (dec1 t).2 = 0 ∨ badF (dec1 t).1 = true then none else (zbN s.length (t.drop (dec1 t).2)).map (· + 1) := by
      rw [zbN, if_neg ht]
    refine c_rune1 (by omega) ht ?_
    have stop : (dec1 t).2 = 0 ∨ badF (dec1 t).1 = true ∨ cnt = 16 → K (.d (.int .i64 0)) s' := fun hb => by
      have h0 : zdy s = 0 := by
        by_cases hq : (dec1 t).2 = 0 ∨ badF (dec1 t).1 = true
        · simp [zdy, hr, hcount, if_pos hq]
        · have hcn : cnt = 16 := by
            rcases hb with hb | hb | hb
            · exact absurd (.inl hb) hq
            · exact absurd (.inr hb) hq
            · exact hb
          simp only [zdy, hr, hcount, if_neg hq]
          cases zbN s.length (t.drop (dec1 t).2) with
          | none => simp
          | some m => simp; omega
      rw [h0] at hK; exact hK
    (repeat' (first | (refine gq20 ?_; try with_reducible exact True.intro) | (refine zT (fun h => ?_) (fun h => ?_) <;> (try rw [h])) | ((with_reducible refine And.intro ?_ ?_); focus (first | omega | rfl | decide))))
    all_goals first
      | ((first | refine zg (by simp [Low_d, dmT, dm, dm1, pack, zd, ze, zb]) hl ?_ | refine zf (by simp [Low_d, dmT, dm, dm1, pack, zd, ze, zb]) hl ?_)
         refine stop ?_
         rw [badF_ref, decide_eq_true_eq]
         (try simp only [decide_eq_true_eq, decide_eq_false_iff_not, beq_iff_eq, beq_eq_false_iff_ne, bne_iff_ne, ne_eq, Bool.not_eq_true', Bool.not_eq_false', bne_eq_false_iff_eq] at *)
         omega)
      | skip
    all_goals
      have hb : badF (dec1 t).1 = false := by
        rw [badF_ref, decide_eq_false_iff_not]
        (try simp only [decide_eq_true_eq, decide_eq_false_iff_not, beq_iff_eq, beq_eq_false_iff_ne, bne_iff_ne, ne_eq, Bool.not_eq_true', Bool.not_eq_false', bne_eq_false_iff_eq] at *)
        omega
      have h2 : (dec1 t).2 ≠ 0 := by (try simp only [decide_eq_true_eq, decide_eq_false_iff_not, beq_iff_eq, beq_eq_false_iff_ne, bne_iff_ne, ne_eq, Bool.not_eq_true', Bool.not_eq_false', bne_eq_false_iff_eq] at *); omega
      have hcl : cnt < 16 := by (try simp only [decide_eq_true_eq, decide_eq_false_iff_not, beq_iff_eq, beq_eq_false_iff_ne, bne_iff_ne, ne_eq, Bool.not_eq_true', Bool.not_eq_false', bne_eq_false_iff_eq] at *); omega
      rw [zad (by omega) (by omega)]
      refine Again.to (pos + (dec1 t).2) (by omega) (by omega) ⟨cnt + 1, t.drop (dec1 t).2, by simp; omega, ?_, rfl, by omega, by omega, ?_⟩
      · simp
      · rw [hr, hcount, if_neg (by simp [h2, hb]), zhQ s.length (s.length + 1) _ (by simp; omega) (by simp; omega)]
        cases zbN (s.length + 1) (t.drop (dec1 t).2) <;> simp
        omega
  · (first | refine zg (by simp [Low_d, dmT, dm, dm1, pack, zd, ze, zb]) hl ?_ | refine zf (by simp [Low_d, dmT, dm, dm1, pack, zd, ze, zb]) hl ?_)
    have ht : t = [] := by
      have : ¬ 0 < t.length := by (try simp only [decide_eq_true_eq, decide_eq_false_iff_not, beq_iff_eq, beq_eq_false_iff_ne, bne_iff_ne, ne_eq, Bool.not_eq_true', Bool.not_eq_false', bne_eq_false_iff_eq] at *); omega
      exact List.length_eq_zero_iff.1 (by omega)
    have h0 : zdy s = cnt := by
      simp only [zdy, hr, ht]
      simp [zbN]
      omega
    rw [h0] at hK; exact hK
theorem c_rName {σ : List AObj} {s : List UInt8} (hs : s.length ≤ 1073741824) {K : AV → List AObj → Prop} (hK : K (.d (.bool (nameF s))) σ) : ACall Tryz.prog zgS [.d (.str s)] σ K := by
  refine zo isA_r06_Name rfl fun hl _ => s_r06_Name ?_
  simp only [znt]
  (refine gq24 ?_; try with_reducible exact True.intro)
  refine c_rRunes hs ?_
  (refine gq24 ?_; try with_reducible exact True.intro)
  (first | refine zg (by simp [Low_d, dmT, dm, dm1, pack, zd, ze, zb]) hl ?_ | refine zf (by simp [Low_d, dmT, dm, dm1, pack, zd, ze, zb]) hl ?_)
  have : decide ((zdy s : Int) > 0) = nameF s := by simp [nameF]
  rw [this]; exact hK
end Go.Proofs.YtcappjcojggehaaGreat

/- Contracts: which operations may be. -/
set_option maxRecDepth 100000
set_option linter.unusedSimpArgs false
namespace Go.Proofs.YtcappjcojggehaaGreat
open Go.AW

theorem c_Check_1 {σ : List AObj} {r : List UInt8} {K : AV → List AObj → Prop} (hK : K (.d (.bool (decide (r.length > 64)))) σ) : ACall Tryz.prog zem [.d (.slice (bcs r))] σ K := by
  refine zo zmF rfl fun hl _ => s_op_Check_1 ?_
  simp only [zkz]
  (refine gq24 ?_; try with_reducible exact True.intro)
  (first | refine zg (by simp [Low_d, dmT, dm, dm1, pack, zd, ze, zb]) hl ?_ | refine zf (by simp [Low_d, dmT, dm, dm1, pack, zd, ze, zb]) hl ?_)
  have : decide (((bcs r).length : Int) > 64) = decide (r.length > 64) := by simp [bcs]; omega
  rw [this]; exact hK
theorem gq30 {P Q : Prop} (h : Q) (e : P = Q := by simp -dsimp only [↓zae, ↓loopL, ↓binC, ↓unC, ↓zL, ↓zD, ↓zE, ↓zF, ↓zP, ↓lenC, ↓slcC, ↓convC, ↓boxC, ↓zH, ↓loadC, ↓zp, ↓nilC, ↓zh, ↓zV, ↓zr, ↓idxSC, ↓idxAC, ↓zi, ↓zG, ↓zl, ↓zt, ↓zZ, ↓maxC, ↓minC, ↓zab, ↓zac, ↓mgetC, ↓msetC, ↓mdelC, ↓zn, ↓zW, ↓zC, ↓zq, ↓zN, binA, intOp, strOp, unA, esOf, bnd, intV, zR, fillV, srcE, dm, dm1, consO, cellA, maxL, minL, keepO, Q0, Q1, Q2, Q3, Q4, Q5, zK, zm, zw, zx, zy, Q6, Q7, Q8, Q9, Q10, Q11, Q12, Q13, Q14, Nat.reduceAdd, Q15, Int.reduceToNat, Q16, Q17, Q18, Q19, Q20, reduceIte, Q21, Q22, dmT, pack, zu]; rfl) : P := e.mpr h
theorem zgs {σ : List AObj} {a : List (List UInt8)} (ha : a.length ≤ 1073741824) {K : AV → List AObj → Prop} (hK : K (.d (.bool (a.any fun r => decide (r.length > 64)))) σ) :
    ACall Tryz.prog zak [.d (.slice (recsE a)), .fn (.func zem) [] []] σ K := by
  refine zo zbh rfl fun hl _ => zbl ?_
  simp only [zaz]
  (refine gq24 ?_; try with_reducible exact True.intro)
  refine zo zby rfl fun hl _ => zbE ?_
  simp only [zaI]
  (refine gq24 ?_; try with_reducible exact True.intro)
  refine zU a.length (fun k vs s => vs = [.d (.int .i64 k)] ∧ s = σ ∧ ∀ r ∈ a.take k, ¬ r.length > 64) ⟨rfl, rfl, by simp⟩ ?_
  rintro k vs s hk ⟨rfl, rfl, htk⟩
  (refine gq24 ?_; try with_reducible exact True.intro)
  refine zT (fun h => ?_) (fun h => ?_)
  · have hka : k < a.length := by (try simp only [decide_eq_true_eq, decide_eq_false_iff_not, beq_iff_eq, beq_eq_false_iff_ne, bne_iff_ne, ne_eq, Bool.not_eq_true', Bool.not_eq_false', bne_eq_false_iff_eq] at *); omega
    have hx : a[k]? = some a[k] := by simp [hka]
    (refine gq23 (zdc hx) ?_; try with_reducible exact True.intro)
    refine And.intro (by omega) (c_Check_1 ?_)
    (refine gq24 ?_; try with_reducible exact True.intro)
    refine zT (fun h => ?_) (fun h => ?_)
    · (first | refine zg (by simp [Low_d, dmT, dm, dm1, pack, zd, ze, zb]) hl ?_ | refine zf (by simp [Low_d, dmT, dm, dm1, pack, zd, ze, zb]) hl ?_)
      (refine gq30 ?_; try with_reducible exact True.intro)
      (first | refine zg (by simp [Low_d, dmT, dm, dm1, pack, zd, ze, zb]) hl ?_ | refine zf (by simp [Low_d, dmT, dm, dm1, pack, zd, ze, zb]) hl ?_)
      have e1 : decide ((k : Int) ≥ 0) = true := by simp
      have e2 : (a.any fun r => decide (r.length > 64)) = true := by
        rw [List.any_eq_true]
        exact ⟨a[k], List.getElem_mem _, h⟩
      rw [e2] at hK
      simp only [pack, dmT, dm, dm1]
      rw [e1]; exact hK
    · (refine gq24 ?_; try with_reducible exact True.intro)
      refine Again.next hka ⟨?_, rfl, fun r hr => ?_⟩
      · rw [zad (by omega) (by omega)]; rfl
      · rw [List.take_add_one, hx] at hr
        rcases List.mem_append.1 hr with hr | hr
        · exact htk r hr
        · have : r = a[k] := by simpa using hr
          subst this
          simpa using h
  · (first | refine zg (by simp [Low_d, dmT, dm, dm1, pack, zd, ze, zb]) hl ?_ | refine zf (by simp [Low_d, dmT, dm, dm1, pack, zd, ze, zb]) hl ?_)
    (refine gq30 ?_; try with_reducible exact True.intro)
    (first | refine zg (by simp [Low_d, dmT, dm, dm1, pack, zd, ze, zb]) hl ?_ | refine zf (by simp [Low_d, dmT, dm, dm1, pack, zd, ze, zb]) hl ?_)
    have e2 : (a.any fun r => decide (r.length > 64)) = false := by
      rw [List.any_eq_false]
      intro r hr
      have hk' : k = a.length := by (try simp only [decide_eq_true_eq, decide_eq_false_iff_not, beq_iff_eq, beq_eq_false_iff_ne, bne_iff_ne, ne_eq, Bool.not_eq_true', Bool.not_eq_false', bne_eq_false_iff_eq] at *); omega
      rw [hk', List.take_length] at htk
      simpa using htk r hr
    rw [e2] at hK
    exact hK
theorem gq31 {P Q : Prop} (h : Q) (e : P = Q := by simp -dsimp only [↓zae, ↓loopL, ↓binC, ↓unC, ↓zL, ↓zD, ↓zE, ↓zF, ↓zP, ↓lenC, ↓slcC, ↓convC, ↓boxC, ↓zH, ↓loadC, ↓zp, ↓nilC, ↓zh, ↓zV, ↓zr, ↓idxSC, ↓idxAC, ↓zi, ↓zG, ↓zl, ↓zt, ↓zZ, ↓maxC, ↓minC, ↓zab, ↓zac, ↓mgetC, ↓msetC, ↓mdelC, ↓zn, ↓zW, ↓zC, ↓zq, ↓zN, binA, intOp, strOp, unA, esOf, bnd, intV, zR, fillV, srcE, dm, dm1, consO, cellA, maxL, minL, keepO, Q0, Q1, Q2, Q3, Q4, Q5, zK, zm, zw, zx, zy, Q6, Q7, Q8, Q9, Q10, Q11, Q12, Q13, Q14, Nat.reduceAdd, Q15, Int.reduceToNat, Q16, Q17, Q18, Q19, Q20, reduceIte, Q21, Q22, zu, rep, zO, toDs, toD, zaa, Q23, Q24, Q25, Q26, Q27, Q28, Nat.reduceLeDiff, Q29, Nat.reduceSub, Q30, Q31, Q32, sc, Q33, Q34, Q35, opA]; rfl) : P := e.mpr h
/-- op.Check -/
theorem c_Check {σ : List AObj} {o : TOp} (ht : o.topic.length ≤ 1073741824) (hg : o.group.length ≤ 1073741824) (hr : o.recs.length ≤ 1073741824) {K : AV → List AObj → Prop} (hK : K (.d (.int .i64 (zaT nameF o))) σ) : ACall Tryz.prog zgT [opA o] σ K := by
  refine zo isA_op_Check rfl fun hl _ => s_op_Check ?_
  simp only [znx, opA]
  (refine gq20 ?_; try with_reducible exact True.intro)
  refine c_only (o := o) ?_
  have honly : (onlyF o).recs.length ≤ 1073741824 := by unfold onlyF noOp; split <;> (try split) <;> (try split) <;> (try split) <;> simp <;> omega
  (refine gq31 ?_; try with_reducible exact True.intro)
  repeat' first
    | (refine gq20 ?_; try with_reducible exact True.intro)
    | refine c_Same (a := o) (b := onlyF o) hr honly ?_
    | refine c_Name ht ?_
    | refine c_Name hg ?_
    | refine zgs hr ?_
    | (refine zT (fun h => ?_) (fun h => ?_) <;> (try rw [h]))
    | ((with_reducible refine And.intro ?_ ?_); focus (first | omega | rfl | decide))
  all_goals (first | refine zg (by simp [Low_d, dmT, dm, dm1, pack, zd, ze, zb]) hl ?_ | refine zf (by simp [Low_d, dmT, dm, dm1, pack, zd, ze, zb]) hl ?_)
  all_goals (try simp only [decide_eq_true_eq, decide_eq_false_iff_not, beq_iff_eq, beq_eq_false_iff_ne, bne_iff_ne, ne_eq, Bool.not_eq_true', Bool.not_eq_false', bne_eq_false_iff_eq] at *)
  all_goals
    simp only [pack, dmT, dm, dm1]
    have e : ∀ z : Int, zaT nameF o = z → K (.d (.int .i64 z)) σ := fun z hz => by rw [← hz]; exact hK
    clear hK
    apply e
    first
    | grind [zaT]
    | skip
end Go.Proofs.YtcappjcojggehaaGreat

/- Contracts: which operations may be, by the reference. -/
set_option maxRecDepth 100000
set_option linter.unusedSimpArgs false
namespace Go.Proofs.YtcappjcojggehaaGreat
open Go.AW

def zgp (k : Int) : Bool := decide (1 ≤ k ∧ k ≤ 4)
def ziJ (k : Int) : Bool := decide (k = 3)
def fOff (k : Int) : Bool := decide (k = 3 ∨ k = 4)
def fRecs (k : Int) : Bool := decide (k = 2)
theorem c_fields {σ : List AObj} {k : Int} {K : AV → List AObj → Prop} (hK : K (.tup [.d (.bool (zgp k)), .d (.bool (ziJ k)), .d (.bool (fOff k)), .d (.bool (fRecs k))]) σ) : ACall Tryz.prog zel [.d (.int .i64 k)] σ K := by
  refine zo zmD rfl fun hl _ => s_r06_fields ?_
  simp only [zkx]
  (repeat' (first | (refine gq20 ?_; try with_reducible exact True.intro) | (refine zT (fun h => ?_) (fun h => ?_) <;> (try rw [h])) | ((with_reducible refine And.intro ?_ ?_); focus (first | omega | rfl | decide))))
  all_goals (first | refine zg (by simp [Low_d, dmT, dm, dm1, pack, zd, ze, zb]) hl ?_ | refine zf (by simp [Low_d, dmT, dm, dm1, pack, zd, ze, zb]) hl ?_)
  all_goals (try simp only [decide_eq_true_eq, decide_eq_false_iff_not, beq_iff_eq, beq_eq_false_iff_ne, bne_iff_ne, ne_eq, Bool.not_eq_true', Bool.not_eq_false', bne_eq_false_iff_eq] at *)
  all_goals
    simp only [pack, dmT, dm, dm1, List.map_cons, List.map_nil]
    have e : ∀ a b c d : Bool, zgp k = a → ziJ k = b → fOff k = c → fRecs k = d → K (.tup [.d (.bool a), .d (.bool b), .d (.bool c), .d (.bool d)]) σ := fun a b c d h1 h2 h3 h4 => by rw [← h1, ← h2, ← h3, ← h4]; exact hK
    clear hK
    apply e <;> simp [zgp, ziJ, fOff, fRecs] <;> omega
/-- what is wrong with an operation's records, numbers -/
theorem onlyF_iff (o : TOp) : o = onlyF o ↔ (zgp o.kind = false → o.topic = []) ∧ (ziJ o.kind = false → o.group = []) ∧ (fOff o.kind = false → o.offset = 0) ∧ (fRecs o.kind = false → o.recs = []) := by
  obtain ⟨k, t, g, f, r⟩ := o
  simp only [onlyF, noOp, zgp, ziJ, fOff, fRecs, decide_eq_false_iff_not]
  by_cases h1 : k = 1
  · subst h1; simp
  by_cases h2 : k = 2
  · subst h2; simp
  by_cases h3 : k = 3
  · subst h3; simp
  by_cases h4 : k = 4
  · subst h4; simp
  · have : ¬ (1 ≤ k ∧ k ≤ 4) := by omega
    simp [h1, h2, h3, h4, this]
set_option maxHeartbeats 2000000 in
theorem c_rCheck {σ : List AObj} {o : TOp} (ht : o.topic.length ≤ 1073741824) (hg : o.group.length ≤ 1073741824) (hr : o.recs.length ≤ 1073741824) {K : AV → List AObj → Prop} (hK : K (.d (.int .i64 (zaT nameF o))) σ) : ACall Tryz.prog zfj [opA o] σ K := by
  refine zo zog rfl fun hl _ => s_r06_Check ?_
  simp only [zmj, opA]
  (refine gq20 ?_; try with_reducible exact True.intro)
  refine c_fields ?_
  have fin : ∀ z : Int, zaT nameF o = z → K (.d (.int .i64 z)) σ := fun z hz => by rw [← hz]; exact hK
  have honly := onlyF_iff o
  have hkind : zgp o.kind = true → zcZ o = true := by simp [zgp, zcZ]; omega
  have hk1 : zgp o.kind = true ↔ (zcZ o = true ∧ o.kind ≠ 0) := by simp [zgp, zcZ]; omega
  have hk2 : ziJ o.kind = true ↔ o.kind = 3 := by simp [ziJ]
  have hk3 : fRecs o.kind = true ↔ o.kind = 2 := by simp [fRecs]
  have hk4 : zcZ o = true ↔ (0 ≤ o.kind ∧ o.kind ≤ 4) := by simp [zcZ]
  have hnil : o.recs = [] ↔ o.recs.length = 0 := List.length_eq_zero_iff.symm
  clear hK
  repeat' first
    | (refine gq20 ?_; try with_reducible exact True.intro)
    | refine c_rName ht ?_
    | refine c_rName hg ?_
    | (refine zT (fun h => ?_) (fun h => ?_) <;> (try rw [h]))
    | ((with_reducible refine And.intro ?_ ?_); focus (first | omega | rfl | decide))
  all_goals first
    | ((first | refine zg (by simp [Low_d, dmT, dm, dm1, pack, zd, ze, zb]) hl ?_ | refine zf (by simp [Low_d, dmT, dm, dm1, pack, zd, ze, zb]) hl ?_)
       (try simp only [decide_eq_true_eq, decide_eq_false_iff_not, beq_iff_eq, beq_eq_false_iff_ne, bne_iff_ne, ne_eq, Bool.not_eq_true', Bool.not_eq_false', bne_eq_false_iff_eq] at *)
       simp only [pack, dmT, dm, dm1]
       apply fin
       grind [zaT])
    | skip
  all_goals
    refine zU o.recs.length (fun k vs s => vs = [.d (.int .i64 k)] ∧ s = σ ++ [.box [.d (.int .i64 o.kind), .d (.str o.topic), .d (.str o.group), .d (.int .i64 o.offset), .d (.slice (recsE o.recs))]] ∧ ∀ r ∈ o.recs.take k, ¬ r.length > 64) ⟨rfl, rfl, by simp⟩ ?_
    rintro k vs s hk ⟨rfl, rfl, htk⟩
    (refine gq24 ?_; try with_reducible exact True.intro)
    refine zT (fun h => ?_) (fun h => ?_)
    · have hka : k < o.recs.length := by (try simp only [decide_eq_true_eq, decide_eq_false_iff_not, beq_iff_eq, beq_eq_false_iff_ne, bne_iff_ne, ne_eq, Bool.not_eq_true', Bool.not_eq_false', bne_eq_false_iff_eq] at *); omega
      have hx : o.recs[k]? = some o.recs[k] := by simp [hka]
      have hmem : o.recs[k] ∈ o.recs := List.getElem_mem _
      have hbl : (bcs o.recs[k]).length = o.recs[k].length := by simp [bcs]
      (refine gq23 (zdc hx) ?_; try with_reducible exact True.intro)
      refine And.intro (by omega) ?_
      refine zT (fun h => ?_) (fun h => ?_)
      · have hany : (o.recs.any fun r => decide (r.length > 64)) = true := by
          rw [List.any_eq_true]
          exact ⟨_, hmem, by (try simp only [decide_eq_true_eq, decide_eq_false_iff_not, beq_iff_eq, beq_eq_false_iff_ne, bne_iff_ne, ne_eq, Bool.not_eq_true', Bool.not_eq_false', bne_eq_false_iff_eq] at *); omega⟩
        (first | refine zg (by simp [Low_d, dmT, dm, dm1, pack, zd, ze, zb]) hl ?_ | refine zf (by simp [Low_d, dmT, dm, dm1, pack, zd, ze, zb]) hl ?_)
        (try simp only [decide_eq_true_eq, decide_eq_false_iff_not, beq_iff_eq, beq_eq_false_iff_ne, bne_iff_ne, ne_eq, Bool.not_eq_true', Bool.not_eq_false', bne_eq_false_iff_eq] at *)
        simp only [pack, dmT, dm, dm1]
        apply fin
        grind [zaT]
      · (refine gq24 ?_; try with_reducible exact True.intro)
        refine Again.next hka ⟨?_, rfl, fun r hr => ?_⟩
        · rw [zad (by omega) (by omega)]; rfl
        · rw [List.take_add_one, hx] at hr
          rcases List.mem_append.1 hr with hr | hr
          · exact htk r hr
          · have : r = o.recs[k] := by simpa using hr
            subst this
            (try simp only [decide_eq_true_eq, decide_eq_false_iff_not, beq_iff_eq, beq_eq_false_iff_ne, bne_iff_ne, ne_eq, Bool.not_eq_true', Bool.not_eq_false', bne_eq_false_iff_eq] at *)
            omega
    · have hany : (o.recs.any fun r => decide (r.length > 64)) = false := by
        rw [List.any_eq_false]
        intro r hr
        have hk' : k = o.recs.length := by (try simp only [decide_eq_true_eq, decide_eq_false_iff_not, beq_iff_eq, beq_eq_false_iff_ne, bne_iff_ne, ne_eq, Bool.not_eq_true', Bool.not_eq_false', bne_eq_false_iff_eq] at *); omega
        rw [hk', List.take_length] at htk
        simpa using htk r hr
      clear htk
      (repeat' (first | (refine gq20 ?_; try with_reducible exact True.intro) | (refine zT (fun h => ?_) (fun h => ?_) <;> (try rw [h])) | ((with_reducible refine And.intro ?_ ?_); focus (first | omega | rfl | decide))))
      all_goals
        (first | refine zg (by simp [Low_d, dmT, dm, dm1, pack, zd, ze, zb]) hl ?_ | refine zf (by simp [Low_d, dmT, dm, dm1, pack, zd, ze, zb]) hl ?_)
        (try simp only [decide_eq_true_eq, decide_eq_false_iff_not, beq_iff_eq, beq_eq_false_iff_ne, bne_iff_ne, ne_eq, Bool.not_eq_true', Bool.not_eq_false', bne_eq_false_iff_eq] at *)
        simp only [pack, dmT, dm, dm1]
        apply fin
        grind [zaT]
end Go.Proofs.YtcappjcojggehaaGreat

/- Contracts: an operation's bytes. -/
set_option maxRecDepth 100000
set_option linter.unusedSimpArgs false
namespace Go.Proofs.YtcappjcojggehaaGreat
open Go.AW

theorem u64_of {n : Int} (h : 0 ≤ n) (h2 : n < 9223372036854775808) : IntKind.u64.wrap n = (n.toNat : Int) := by
  obtain ⟨m, rfl⟩ := Int.eq_ofNat_of_zero_le h
  rw [Int.toNat_natCast]; exact zbf (by omega)
theorem bytesE (s : List UInt8) : s.map zay = bcs s := rfl

theorem gq32 {A P Q : Prop} (a : A) (h : Q) (e : A → P = Q := by intro a; simp -dsimp only [↓zae, ↓loopL, ↓binC, ↓unC, ↓zL, ↓zD, ↓zE, ↓zF, ↓zP, ↓lenC, ↓slcC, ↓convC, ↓boxC, ↓zH, ↓loadC, ↓zp, ↓nilC, ↓zh, ↓zV, ↓zr, ↓idxSC, ↓idxAC, ↓zi, ↓zG, ↓zl, ↓zt, ↓zZ, ↓maxC, ↓minC, ↓zab, ↓zac, ↓mgetC, ↓msetC, ↓mdelC, ↓zn, ↓zW, ↓zC, ↓zq, ↓zN, binA, intOp, strOp, unA, esOf, bnd, intV, zR, fillV, srcE, dm, dm1, consO, cellA, maxL, minL, keepO, Q0, Q1, Q2, Q3, Q4, Q5, zK, zm, zw, zx, zy, Q6, Q7, Q8, Q9, Q10, Q11, Q12, Q13, Q14, Nat.reduceAdd, Q15, Int.reduceToNat, Q16, Q17, Q18, Q19, Q20, reduceIte, Q21, Q22, zu, rep, zO, toDs, toD, zaa, Q23, Q24, Q25, Q26, Q27, Q28, Nat.reduceLeDiff, Q29, Nat.reduceSub, Q30, Q31, Q32, sc, Q33, Q34, Q35, bytesE, a]; rfl) : P := (e a).mpr h
theorem c_Put {σ : List AObj} {b : List UInt8} {o : TOp} (hb : b.length ≤ 268435456) (ho : opSz o ≤ 268435456) {K : AV → List AObj → Prop} (hK : K (.d (.slice (bcs (b ++ if zaT nameF o = 0 then opB o else [])))) σ) :
    ACall Tryz.prog znV [.d (.slice (bcs b)), opA o] σ K := by
  refine zo isA_op_Put rfl fun hl _ => s_op_Put ?_
  have hsz := ho
  simp only [opSz] at hsz
  have hrl := zfd o.recs
  simp only [S_op_Put, opA]
  (refine gq20 ?_; try with_reducible exact True.intro)
  refine zbM zcS (by simp [bcs]; omega) ?_
  (refine gq20 ?_; try with_reducible exact True.intro)
  refine c_Check (o := o) (by omega) (by omega) (by omega) ?_
  (refine gq20 ?_; try with_reducible exact True.intro)
  refine zT (fun h => ?_) (fun h => ?_)
  · (first | refine zg (by simp [Low_d, dmT, dm, dm1, pack, zd, ze, zb]) hl ?_ | refine zf (by simp [Low_d, dmT, dm, dm1, pack, zd, ze, zb]) hl ?_)
    (try simp only [decide_eq_true_eq, decide_eq_false_iff_not, beq_iff_eq, beq_eq_false_iff_ne, bne_iff_ne, ne_eq, Bool.not_eq_true', Bool.not_eq_false', bne_eq_false_iff_eq] at *)
    rw [if_neg h, List.append_nil] at hK
    exact hK
  have hc : zaT nameF o = 0 := by (try simp only [decide_eq_true_eq, decide_eq_false_iff_not, beq_iff_eq, beq_eq_false_iff_ne, bne_iff_ne, ne_eq, Bool.not_eq_true', Bool.not_eq_false', bne_eq_false_iff_eq] at *); omega
  obtain ⟨k0, k4, o0, o1, hon⟩ := zol hc
  rw [if_pos hc] at hK
  have hkn := zS (n := o.kind.toNat) (by omega)
  have hon' := zS (n := o.offset.toNat) (by omega)
  have hrn := zS (n := o.recs.length) (by omega)
  have htp := zej (x := o.topic) (by omega)
  have hgp := zej (x := o.group) (by omega)
  (refine gq29 (u64_of k0 (by omega)) ?_; try with_reducible exact True.intro)
  refine zdb (by omega) (by omega) ?_
  have wo := u64_of o0 (by omega : o.offset < 9223372036854775808)
  have wl : IntKind.u64.wrap ((recsE o.recs).length : Int) = (o.recs.length : Int) := by rw [zu]; exact zbf (by omega)
  have wl' : IntKind.u64.wrap (o.recs.length : Int) = (o.recs.length : Int) := zbf (by omega)
  repeat' first
    | (refine gq32 (gqc1 wo (gqc1 wl wl')) ?_; try with_reducible exact True.intro)
    | (refine zT (fun h => ?_) (fun h => ?_) <;> (try rw [h]))
    | ((with_reducible refine And.intro ?_ ?_); focus (first | omega | rfl | decide))
    | refine zjP (by omega) (by simp only [putB, List.length_append] at *; omega) ?_
    | refine zdb (by omega) (by simp only [putB, List.length_append] at *; omega) ?_
  -- the ways that end
  all_goals first
    | (exfalso; (try simp only [decide_eq_true_eq, decide_eq_false_iff_not, beq_iff_eq, beq_eq_false_iff_ne, bne_iff_ne, ne_eq, Bool.not_eq_true', Bool.not_eq_false', bne_eq_false_iff_eq] at *); omega)
    | ((first | refine zg (by simp [Low_d, dmT, dm, dm1, pack, zd, ze, zb]) hl ?_ | refine zf (by simp [Low_d, dmT, dm, dm1, pack, zd, ze, zb]) hl ?_)
       (try simp only [decide_eq_true_eq, decide_eq_false_iff_not, beq_iff_eq, beq_eq_false_iff_ne, bne_iff_ne, ne_eq, Bool.not_eq_true', Bool.not_eq_false', bne_eq_false_iff_eq] at *)
       simp only [pack, dmT, dm, dm1]
       (first | rw [opB_0 (by omega)] at hK | rw [opB_1 (by omega)] at hK | rw [opB_3 (by omega)] at hK | rw [opB_4 (by omega)] at hK)
       exact hK)
    | skip
  -- the records
  have hk2 : o.kind = 2 := by (try simp only [decide_eq_true_eq, decide_eq_false_iff_not, beq_iff_eq, beq_eq_false_iff_ne, bne_iff_ne, ne_eq, Bool.not_eq_true', Bool.not_eq_false', bne_eq_false_iff_eq] at *); omega
  rw [opB_2 hk2] at hK
  refine zU o.recs.length (fun k vs s => ∃ t τ, vs = [.own t (bcs (b ++ (numB o.kind.toNat ++ (numB o.topic.length ++ (o.topic ++ (numB o.recs.length ++ recsB (o.recs.take k))))))), .d (.int .i64 k)] ∧ s = σ ++ τ) ⟨σ.length + 4, _, by rw [List.take_zero, show recsB [] = [] from rfl, List.append_nil]; rfl, rfl⟩ ?_
  rintro k vs s hk ⟨t, τ, rfl, rfl⟩
  (refine gq20 ?_; try with_reducible exact True.intro)
  refine zT (fun h => ?_) (fun h => ?_)
  · have hka : k < o.recs.length := by (try simp only [decide_eq_true_eq, decide_eq_false_iff_not, beq_iff_eq, beq_eq_false_iff_ne, bne_iff_ne, ne_eq, Bool.not_eq_true', Bool.not_eq_false', bne_eq_false_iff_eq] at *); omega
    have hx : o.recs[k]? = some o.recs[k] := by simp [hka]
    have hle := rec_le (List.getElem_mem hka)
    have htl := zeu o.recs (by omega) k
    (refine gq29 (zdc hx) ?_; try with_reducible exact True.intro)
    refine And.intro (by omega) (zjP (by omega) (by simp only [putB, List.length_append] at *; omega) ?_)
    (refine gq20 ?_; try with_reducible exact True.intro)
    refine Again.next hka ⟨σ.length + τ.length, _, ?_, rfl⟩
    rw [zad (by omega) (by omega), zmP hx]
    simp only [putB, List.append_assoc]
    rfl
  · have hke : k = o.recs.length := by (try simp only [decide_eq_true_eq, decide_eq_false_iff_not, beq_iff_eq, beq_eq_false_iff_ne, bne_iff_ne, ne_eq, Bool.not_eq_true', Bool.not_eq_false', bne_eq_false_iff_eq] at *); omega
    subst hke
    (first | refine zg (by simp [Low_d, dmT, dm, dm1, pack, zd, ze, zb]) hl ?_ | refine zf (by simp [Low_d, dmT, dm, dm1, pack, zd, ze, zb]) hl ?_)
    rw [List.take_length]
    exact hK

theorem c_rPut {σ : List AObj} {b : List UInt8} {o : TOp} (hb : b.length ≤ 268435456) (ho : opSz o ≤ 268435456) {K : AV → List AObj → Prop} (hK : K (.d (.slice (bcs (b ++ if zaT nameF o = 0 then opB o else [])))) σ) :
    ACall Tryz.prog zlw [.d (.slice (bcs b)), opA o] σ K := by
  refine zo isA_r06_Put rfl fun hl _ => s_r06_Put ?_
  have hsz := ho
  simp only [opSz] at hsz
  have hrl := zfd o.recs
  simp only [S_r06_Put, opA]
  (refine gq20 ?_; try with_reducible exact True.intro)
  refine c_rCheck (o := o) (by omega) (by omega) (by omega) ?_
  (refine gq20 ?_; try with_reducible exact True.intro)
  refine zT (fun h => ?_) (fun h => ?_)
  · (first | refine zg (by simp [Low_d, dmT, dm, dm1, pack, zd, ze, zb]) hl ?_ | refine zf (by simp [Low_d, dmT, dm, dm1, pack, zd, ze, zb]) hl ?_)
    (try simp only [decide_eq_true_eq, decide_eq_false_iff_not, beq_iff_eq, beq_eq_false_iff_ne, bne_iff_ne, ne_eq, Bool.not_eq_true', Bool.not_eq_false', bne_eq_false_iff_eq] at *)
    rw [if_neg h, List.append_nil] at hK
    exact hK
  have hc : zaT nameF o = 0 := by (try simp only [decide_eq_true_eq, decide_eq_false_iff_not, beq_iff_eq, beq_eq_false_iff_ne, bne_iff_ne, ne_eq, Bool.not_eq_true', Bool.not_eq_false', bne_eq_false_iff_eq] at *); omega
  obtain ⟨k0, k4, o0, o1, hon⟩ := zol hc
  rw [if_pos hc] at hK
  have hkn := zS (n := o.kind.toNat) (by omega)
  have hon' := zS (n := o.offset.toNat) (by omega)
  have hrn := zS (n := o.recs.length) (by omega)
  have htp := zej (x := o.topic) (by omega)
  have hgp := zej (x := o.group) (by omega)
  (refine gq29 (u64_of k0 (by omega)) ?_; try with_reducible exact True.intro)
  refine c_fields ?_
  (refine gq29 (u64_of k0 (by omega)) ?_; try with_reducible exact True.intro)
  refine zcz (by omega) (by omega) ?_
  have wo := u64_of o0 (by omega : o.offset < 9223372036854775808)
  have wl : IntKind.u64.wrap ((recsE o.recs).length : Int) = (o.recs.length : Int) := by rw [zu]; exact zbf (by omega)
  have wl' : IntKind.u64.wrap (o.recs.length : Int) = (o.recs.length : Int) := zbf (by omega)
  have f1 : zgp o.kind = true ↔ o.kind ≠ 0 := by simp [zgp]; omega
  have f2 : ziJ o.kind = true ↔ o.kind = 3 := by simp [ziJ]
  have f3 : fOff o.kind = true ↔ (o.kind = 3 ∨ o.kind = 4) := by simp [fOff]
  have f4 : fRecs o.kind = true ↔ o.kind = 2 := by simp [fRecs]
  repeat' first
    | (refine gq32 (gqc1 wo (gqc1 wl wl')) ?_; try with_reducible exact True.intro)
    | (refine zT (fun h => ?_) (fun h => ?_) <;> (try rw [h]))
    | ((with_reducible refine And.intro ?_ ?_); focus (first | omega | rfl | decide))
    | refine zhR (by omega) (by simp only [putB, List.length_append] at *; omega) ?_
    | refine zcz (by omega) (by simp only [putB, List.length_append] at *; omega) ?_
  -- the ways that end, those that can't be
  all_goals first
    | (exfalso; clear hK; grind)
    | ((first | refine zg (by simp [Low_d, dmT, dm, dm1, pack, zd, ze, zb]) hl ?_ | refine zf (by simp [Low_d, dmT, dm, dm1, pack, zd, ze, zb]) hl ?_)
       (try simp only [decide_eq_true_eq, decide_eq_false_iff_not, beq_iff_eq, beq_eq_false_iff_ne, bne_iff_ne, ne_eq, Bool.not_eq_true', Bool.not_eq_false', bne_eq_false_iff_eq] at *)
       simp only [pack, dmT, dm, dm1]
       (first | rw [opB_0 (by grind)] at hK | rw [opB_1 (by grind)] at hK | rw [opB_3 (by grind)] at hK | rw [opB_4 (by grind)] at hK)
       exact hK)
    | skip
  -- the records
  have hk2 : o.kind = 2 := by grind
  rw [opB_2 hk2] at hK
  refine zU o.recs.length (fun k vs s => ∃ t τ, vs = [.own t (bcs (b ++ (numB o.kind.toNat ++ (numB o.topic.length ++ (o.topic ++ (numB o.recs.length ++ recsB (o.recs.take k))))))), .d (.int .i64 k)] ∧ s = σ ++ .box [.d (.int .i64 o.kind), .d (.str o.topic), .d (.str o.group), .d (.int .i64 o.offset), .d (.slice (recsE o.recs))] :: τ)
    ⟨σ.length + 3, _, by rw [List.take_zero, show recsB [] = [] from rfl, List.append_nil]; rfl, rfl⟩ ?_
  rintro k vs s hk ⟨t, τ, rfl, rfl⟩
  (refine gq20 ?_; try with_reducible exact True.intro)
  refine zT (fun h => ?_) (fun h => ?_)
  · have hka : k < o.recs.length := by (try simp only [decide_eq_true_eq, decide_eq_false_iff_not, beq_iff_eq, beq_eq_false_iff_ne, bne_iff_ne, ne_eq, Bool.not_eq_true', Bool.not_eq_false', bne_eq_false_iff_eq] at *); omega
    have hx : o.recs[k]? = some o.recs[k] := by simp [hka]
    have hle := rec_le (List.getElem_mem hka)
    have htl := zeu o.recs (by omega) k
    (refine gq29 (zdc hx) ?_; try with_reducible exact True.intro)
    refine And.intro (by omega) (zhR (by omega) (by simp only [putB, List.length_append] at *; omega) ?_)
    (refine gq20 ?_; try with_reducible exact True.intro)
    refine Again.next hka ⟨σ.length + (τ.length + 1), _, ?_, rfl⟩
    rw [zad (by omega) (by omega), zmP hx]
    simp only [putB, List.append_assoc]
    rfl
  · have hke : k = o.recs.length := by (try simp only [decide_eq_true_eq, decide_eq_false_iff_not, beq_iff_eq, beq_eq_false_iff_ne, bne_iff_ne, ne_eq, Bool.not_eq_true', Bool.not_eq_false', bne_eq_false_iff_eq] at *); omega
    subst hke
    (first | refine zg (by simp [Low_d, dmT, dm, dm1, pack, zd, ze, zb]) hl ?_ | refine zf (by simp [Low_d, dmT, dm, dm1, pack, zd, ze, zb]) hl ?_)
    rw [List.take_length]
    exact hK
end Go.Proofs.YtcappjcojggehaaGreat
