/- Contracts of operations: which are the same. -/
import Derived.Test.YtfjommppajkpoaaGreatCodec1
import Derived.Test.YtfjommppajkpoaaGreatCl1
import Derived.Test.YtfjommppajkpoaaGreatSpUtf
set_option linter.all false
set_option maxRecDepth 100000
namespace Go.Proofs.YtfjommppajkpoaaGreat
open Go.AW
theorem gq16 {P Q : Prop} (h : Q) (e : P = Q := by simp -dsimp only [↓zgr, ↓zaF, ↓zbL, ↓zgt, ↓zgn, ↓zgl, ↓zgo, ↓zgm, ↓zbR, ↓zbN, ↓zbS, ↓zbO, ↓zgp, ↓zbJ, ↓zbT, ↓zbP, ↓zbU, ↓zbQ, ↓zgj, ↓zgq, ↓zbI, ↓zbX, ↓zgc, ↓zgb, ↓zgi,iN,bT,bF,eN, ↓zdN, ↓unC, ↓zac, ↓zQ, ↓zR, ↓zV, ↓zak, ↓zau, ↓zco, ↓zag, ↓zaJ, ↓zW, ↓zp, ↓zo, ↓zbF, ↓zl, ↓zan, ↓zF, ↓zaM, ↓zaW, ↓ze, ↓zC, ↓zu, ↓zy, ↓zav, ↓zdr, ↓zdU, ↓zat, ↓zaB, ↓zaU, ↓zbk, ↓zbv, ↓zD, ↓zaq, ↓zS, ↓zE, ↓zam,zeb,zbD,zbB,unA,zei,bnd,zeF,zai,zP,zeE,dm,dm1,zB,zal,zfg,zff,zx,Q0,Q1,Q2,Q3,Q4,Q5,zZ,zh,zm,zT,zN,Q6,Q7,Q8,Q9,Q10,Q11,Q12,Q13,Q14,Nat.reduceAdd,Q15,Int.reduceToNat,Q16,Q17,Q18,Q19,Q20,reduceIte,Q21,Q22,zH,rep,zX,zfc,toD,zah,Q23,Q24,Q25,Q26,Q27,Q28,Nat.reduceLeDiff,Q29,Nat.reduceSub,Q30,Q31,Q32,sc,Q33,Q34,Q35]; rfl) : P := e.mpr h
theorem gq17 {P Q : Prop} (h : Q) (e : P = Q := by simp -dsimp only [↓zgr, ↓zaF, ↓zbL, ↓zgt, ↓zgn, ↓zgl, ↓zgo, ↓zgm, ↓zbR, ↓zbN, ↓zbS, ↓zbO, ↓zgp, ↓zbJ, ↓zbT, ↓zbP, ↓zbU, ↓zbQ, ↓zgj, ↓zgq, ↓zbI, ↓zbX, ↓zgc, ↓zgb, ↓zgi,iN,bT,bF,eN, ↓zdN, ↓unC, ↓zac, ↓zQ, ↓zR, ↓zV, ↓zak, ↓zau, ↓zco, ↓zag, ↓zaJ, ↓zW, ↓zp, ↓zo, ↓zbF, ↓zl, ↓zan, ↓zF, ↓zaM, ↓zaW, ↓ze, ↓zC, ↓zu, ↓zy, ↓zav, ↓zdr, ↓zdU, ↓zat, ↓zaB, ↓zaU, ↓zbk, ↓zbv, ↓zD, ↓zaq, ↓zS, ↓zE, ↓zam,zeb,zbD,zbB,unA,zei,bnd,zeF,zai,zP,zeE,dm,dm1,zB,zal,zfg,zff,zx,Q0,Q1,Q2,Q3,Q4,Q5,zZ,zh,zm,zT,zN,Q6,Q7,Q8,Q9,Q10,Q11,Q12,Q13,Q14,Nat.reduceAdd,Q15,Int.reduceToNat,Q16,Q17,Q18,Q19,Q20,reduceIte,Q21,Q22,zH]; rfl) : P := e.mpr h
theorem gq18 {A P Q : Prop} (a : A) (h : Q) (e : A → P = Q := by intro a; simp -dsimp only [↓zgr, ↓zaF, ↓zbL, ↓zgt, ↓zgn, ↓zgl, ↓zgo, ↓zgm, ↓zbR, ↓zbN, ↓zbS, ↓zbO, ↓zgp, ↓zbJ, ↓zbT, ↓zbP, ↓zbU, ↓zbQ, ↓zgj, ↓zgq, ↓zbI, ↓zbX, ↓zgc, ↓zgb, ↓zgi,iN,bT,bF,eN, ↓zdN, ↓unC, ↓zac, ↓zQ, ↓zR, ↓zV, ↓zak, ↓zau, ↓zco, ↓zag, ↓zaJ, ↓zW, ↓zp, ↓zo, ↓zbF, ↓zl, ↓zan, ↓zF, ↓zaM, ↓zaW, ↓ze, ↓zC, ↓zu, ↓zy, ↓zav, ↓zdr, ↓zdU, ↓zat, ↓zaB, ↓zaU, ↓zbk, ↓zbv, ↓zD, ↓zaq, ↓zS, ↓zE, ↓zam,zeb,zbD,zbB,unA,zei,bnd,zeF,zai,zP,zeE,dm,dm1,zB,zal,zfg,zff,zx,Q0,Q1,Q2,Q3,Q4,Q5,zZ,zh,zm,zT,zN,Q6,Q7,Q8,Q9,Q10,Q11,Q12,Q13,Q14,Nat.reduceAdd,Q15,Int.reduceToNat,Q16,Q17,Q18,Q19,Q20,reduceIte,Q21,Q22,zH,a]; rfl) : P := (e a).mpr h
theorem c_Runes {σ : List zg} {s : List UInt8} (hs : s.length ≤ 1073741824) {K : KT} (hK : K (.d (.int .i64 (zfJ s))) σ) : zq Tryz.prog zoM [.d (.str s)] σ K := by
 refine zec e_op_Runes fun hl => ?_
 simp only [zuk,iN,bT,bF,eN,zaq]
 refine zw s.length (fun pos vs s' => ∃ cnt : Nat,vs = [.d (.int .i64 cnt)] ∧ s' = σ ++ [.iter s pos] ∧ pos ≤ s.length ∧ cnt ≤ pos ∧ zcP (s.length + 1) s = (zcP (s.length + 1) (s.drop pos)).map (· + cnt)) ⟨0,rfl,rfl,by omega,by omega,by simp⟩ ?_
 rintro pos vs s' hp ⟨cnt,rfl,rfl,hps,hc,hr⟩
 simp only [zD,zns,zm,List.getElem?_cons_zero]
 split
 ·rename_i hlt
  have hd : s.drop pos ≠ [] := by intro e; have := congrArg List.length e; simp at this; omega
  have hw := goDec_width _ hd
  have hw2 := ziM (s.drop pos)
  simp only [decode_eq s pos hlt]
  have hcount : zcP (s.length + 1) (s.drop pos) = if (zil (s.drop pos)).2 = 0 ∨ badF (zil (s.drop pos)).1 = true then none else (zcP s.length ((s.drop pos).drop (zil (s.drop pos)).2)).map (· + 1) := by
   rw [zcP,if_neg hd]
  (repeat' (first | (refine gq16 ?_; try with_reducible exact True.intro) | (refine zaG (fun h => ?_) (fun h => ?_) <;> (try rw [h])) | ((with_reducible refine And.intro ?_ ?_); focus (first | omega | rfl | decide))))
  all_goals first
   | (
    refine zK hl ?_
    have hb : badF (znB (s.drop pos)).1 = true := by
     simp only [badF]
     (try simp only [decide_eq_true_eq,decide_eq_false_iff_not,beq_iff_eq,beq_eq_false_iff_ne,bne_iff_ne,ne_eq,Bool.not_eq_true',Bool.not_eq_false',bne_eq_false_iff_eq] at *)
     omega
    rw [goDec_bad] at hb
    have : zcP (s.length + 1) (s.drop pos) = none := by rw [hcount,if_pos (by simpa using hb)]
    have h0 : zfJ s = 0 := by simp [zfJ,hr,this]
    rw [h0] at hK; exact hK)
   | skip
  all_goals
   have hb : badF (znB (s.drop pos)).1 = false := by
    simp only [badF]
    (try simp only [decide_eq_true_eq,decide_eq_false_iff_not,beq_iff_eq,beq_eq_false_iff_ne,bne_iff_ne,ne_eq,Bool.not_eq_true',Bool.not_eq_false',bne_eq_false_iff_eq] at *)
    omega
   obtain ⟨g1,g2,g3⟩ := goDec_good hb
   rw [zJ (by omega) (by omega)]
   refine zap.to (pos + (znB (s.drop pos)).2) (by omega) (by simp at hw; omega) ⟨cnt + 1,rfl,rfl,by simp at hw; omega,by omega, ?_⟩
   rw [hr,hcount,if_neg (by simp [g2,g3]),g1,List.drop_drop,zmT s.length (s.length + 1) _ (by simp at *; omega) (by simp; omega)]
   cases zcP (s.length + 1) (List.drop (pos + (zil (s.drop pos)).2) s) <;> simp
   omega
 ·rename_i hlt
  have e : s.drop pos = [] := List.drop_eq_nil_of_le (by omega)
  have hcnt : zcP (s.length + 1) s = some cnt := by rw [hr,e]; simp [zcP]
  (refine gq17 ?_; try with_reducible exact True.intro)
  refine zaG (fun h => ?_) (fun h => ?_)
  all_goals (try (refine gq18 h ?_; try with_reducible exact True.intro))
  ·refine zK hl ?_
   have h0 : zfJ s = 0 := by simp [zfJ,hcnt]; simp at h; omega
   rw [h0] at hK; exact hK
  ·refine zK hl ?_
   have h0 : zfJ s = cnt := by simp [zfJ,hcnt]; simp at h; omega
   rw [h0] at hK; exact hK
theorem gq19 {P Q : Prop} (h : Q) (e : P = Q := by simp -dsimp only [↓zgr, ↓zaF, ↓zbL, ↓zgt, ↓zgn, ↓zgl, ↓zgo, ↓zgm, ↓zbR, ↓zbN, ↓zbS, ↓zbO, ↓zgp, ↓zbJ, ↓zbT, ↓zbP, ↓zbU, ↓zbQ, ↓zgj, ↓zgq, ↓zbI, ↓zbX, ↓zgc, ↓zgb, ↓zgi,iN,bT,bF,eN, ↓zdN, ↓unC, ↓zac, ↓zQ, ↓zR, ↓zV, ↓zak, ↓zau, ↓zco, ↓zag, ↓zaJ, ↓zW, ↓zp, ↓zo, ↓zbF, ↓zl, ↓zan, ↓zF, ↓zaM, ↓zaW, ↓ze, ↓zC, ↓zu, ↓zy, ↓zav, ↓zdr, ↓zdU, ↓zat, ↓zaB, ↓zaU, ↓zbk, ↓zbv, ↓zD, ↓zaq, ↓zS, ↓zE, ↓zam,zeb,zbD,zbB,unA,zei,bnd,zeF,zai,zP,zeE,dm,dm1,zB,zal,zfg,zff,zx,Q0,Q1,Q2,Q3,Q4,Q5,zZ,zh,zm,zT,zN,Q6,Q7,Q8,Q9,Q10,Q11,Q12,Q13,Q14,Nat.reduceAdd,Q15,Int.reduceToNat,Q16,Q17,Q18,Q19,Q20,reduceIte,Q21,Q22,S_op_Name,zH]; rfl) : P := e.mpr h
theorem c_Name {σ : List zg} {s : List UInt8} (hs : s.length ≤ 1073741824) {K : KT} (hK : K (.d (.bool (zeL s))) σ) : zq Tryz.prog zra [.d (.str s)] σ K := by
 refine zec e_op_Name fun hl => ?_
 (refine gq19 ?_; try with_reducible exact True.intro)
 refine c_Runes hs ?_
 (refine gq17 ?_; try with_reducible exact True.intro)
 refine zK hl ?_
 have : decide ((zfJ s : Int) > 0) = zeL s := by simp [zeL]
 rw [this]; exact hK
theorem c_rsize {σ : List zg} {c : Nat} {K : KT} (hK : K (.d (.int .i64 (zkb c))) σ) : zq Tryz.prog zoI [.d (.int .u8 c)] σ K := by
 refine zec e_r06_size fun hl => ?_
 simp only [zud,iN,bT,bF,eN]
 (repeat' (first | (refine gq16 ?_; try with_reducible exact True.intro) | (refine zaG (fun h => ?_) (fun h => ?_) <;> (try rw [h])) | ((with_reducible refine And.intro ?_ ?_); focus (first | omega | rfl | decide))))
 all_goals refine zK hl ?_
 all_goals (try simp only [decide_eq_true_eq,decide_eq_false_iff_not,beq_iff_eq,beq_eq_false_iff_ne,bne_iff_ne,ne_eq,Bool.not_eq_true',Bool.not_eq_false',bne_eq_false_iff_eq] at *)
 all_goals
  simp only [zbY,dmT,dm,dm1]
  have e : ∀ z : Nat,zkb c = z → K (.d (.int .i64 z)) σ := fun z hz => by rw [← hz]; exact hK
  first
  | exact e 0 (by unfold zkb; rw [if_neg (by omega),if_neg (by omega),if_neg (by omega),if_neg (by omega)])
  | exact e 1 (by unfold zkb; rw [if_pos (by omega)])
  | exact e 2 (by unfold zkb; rw [if_neg (by omega),if_pos (by omega)])
  | exact e 3 (by unfold zkb; rw [if_neg (by omega),if_neg (by omega),if_pos (by omega)])
  | exact e 4 (by unfold zkb; rw [if_neg (by omega),if_neg (by omega),if_neg (by omega),if_pos (by omega)])
theorem mask_eq (z : Nat) (hz : z = 2 ∨ z = 3 ∨ z = 4) (b : Nat) (hb : b < 256) :
  IntKind.i64.wrap ↑(BitVec.ofInt IntKind.i64.bits (b : Int) &&& BitVec.ofInt IntKind.i64.bits (IntKind.i64.wrap (IntKind.i64.wrap (1 * 2 ^ (min (IntKind.i64.wrap (7 - (z : Int))).toNat IntKind.i64.bits)) - 1))).toNat = ((b % 2 ^ (7 - z) : Nat) : Int) := by
 have h0 : (BitVec.ofInt 64 (b : Int)).toNat = b := by simp; omega
 have key : ∀ m : Nat,(m = 3 ∨ m = 4 ∨ m = 5) → IntKind.i64.wrap ↑(BitVec.ofInt 64 (b : Int) &&& BitVec.ofInt 64 ((2 : Int) ^ m - 1)).toNat = ((b % 2 ^ m : Nat) : Int) := fun m hm => by
  have : (BitVec.ofInt 64 (b : Int) &&& BitVec.ofInt 64 ((2 : Int) ^ m - 1)).toNat = b % 2 ^ m := by
   rw [BitVec.toNat_and,h0]
   rcases hm with rfl | rfl | rfl
   ·exact Nat.and_two_pow_sub_one_eq_mod b 3
   ·exact Nat.and_two_pow_sub_one_eq_mod b 4
   ·exact Nat.and_two_pow_sub_one_eq_mod b 5
  rw [this]
  have : b % 2 ^ m < 256 := Nat.lt_of_le_of_lt (Nat.mod_le _ _) hb
  exact zJ (by omega) (by omega)
 rcases hz with rfl | rfl | rfl
 ·exact key 5 (by omega)
 ·exact key 4 (by omega)
 ·exact key 3 (by omega)
theorem partF_lt (s : List UInt8) (z : Nat) (hz : 2 ≤ z) : ∀ i,zfo s z i < 32 * 64 ^ i
 | 0 => by
  simp only [zfo]
  have : 2 ^ (7 - z) ≤ 2 ^ 5 := Nat.pow_le_pow_right (by omega) (by omega)
  have := Nat.mod_lt (at8 s 0) (y := 2 ^ (7 - z)) (Nat.pos_of_ne_zero (by simp))
  omega
 | i + 1 => by
  simp only [zfo,Nat.pow_succ]
  have := partF_lt s z hz i
  omega
theorem at8_some {s : List UInt8} {i : Nat} (h : i < s.length) : s[i]? = some s[i] ∧ (s[i].toNat : Int) = (at8 s i : Int) := by
 have : s[i]? = some s[i] := List.getElem?_eq_getElem h
 exact ⟨this,by simp [at8,this]⟩
theorem zbi {A B : Prop} (a : A) (b : B) : A ∧ B := ⟨a,b⟩
theorem gq20 {A P Q : Prop} (a : A) (h : Q) (e : A → P = Q := by intro a; simp -dsimp only [↓zgr, ↓zaF, ↓zbL, ↓zgt, ↓zgn, ↓zgl, ↓zgo, ↓zgm, ↓zbR, ↓zbN, ↓zbS, ↓zbO, ↓zgp, ↓zbJ, ↓zbT, ↓zbP, ↓zbU, ↓zbQ, ↓zgj, ↓zgq, ↓zbI, ↓zbX, ↓zgc, ↓zgb, ↓zgi,iN,bT,bF,eN, ↓zdN, ↓unC, ↓zac, ↓zQ, ↓zR, ↓zV, ↓zak, ↓zau, ↓zco, ↓zag, ↓zaJ, ↓zW, ↓zp, ↓zo, ↓zbF, ↓zl, ↓zan, ↓zF, ↓zaM, ↓zaW, ↓ze, ↓zC, ↓zu, ↓zy, ↓zav, ↓zdr, ↓zdU, ↓zat, ↓zaB, ↓zaU, ↓zbk, ↓zbv, ↓zD, ↓zaq, ↓zS, ↓zE, ↓zam,zeb,zbD,zbB,unA,zei,bnd,zeF,zai,zP,zeE,dm,dm1,zB,zal,zfg,zff,zx,Q0,Q1,Q2,Q3,Q4,Q5,zZ,zh,zm,zT,zN,Q6,Q7,Q8,Q9,Q10,Q11,Q12,Q13,Q14,Nat.reduceAdd,Q15,Int.reduceToNat,Q16,Q17,Q18,Q19,Q20,reduceIte,Q21,Q22,zsl,zH,a]; rfl) : P := (e a).mpr h
theorem gq21 {A P Q : Prop} (a : A) (h : Q) (e : A → P = Q := by intro a; simp -dsimp only [↓zgr, ↓zaF, ↓zbL, ↓zgt, ↓zgn, ↓zgl, ↓zgo, ↓zgm, ↓zbR, ↓zbN, ↓zbS, ↓zbO, ↓zgp, ↓zbJ, ↓zbT, ↓zbP, ↓zbU, ↓zbQ, ↓zgj, ↓zgq, ↓zbI, ↓zbX, ↓zgc, ↓zgb, ↓zgi,iN,bT,bF,eN, ↓zdN, ↓unC, ↓zac, ↓zQ, ↓zR, ↓zV, ↓zak, ↓zau, ↓zco, ↓zag, ↓zaJ, ↓zW, ↓zp, ↓zo, ↓zbF, ↓zl, ↓zan, ↓zF, ↓zaM, ↓zaW, ↓ze, ↓zC, ↓zu, ↓zy, ↓zav, ↓zdr, ↓zdU, ↓zat, ↓zaB, ↓zaU, ↓zbk, ↓zbv, ↓zD, ↓zaq, ↓zS, ↓zE, ↓zam,zeb,zbD,zbB,unA,zei,bnd,zeF,zai,zP,zeE,dm,dm1,zB,zal,zfg,zff,zx,Q0,Q1,Q2,Q3,Q4,Q5,zZ,zh,zm,zT,zN,Q6,Q7,Q8,Q9,Q10,Q11,Q12,Q13,Q14,Nat.reduceAdd,Q15,Int.reduceToNat,Q16,Q17,Q18,Q19,Q20,reduceIte,Q21,Q22,zH,rep,zX,zfc,toD,zah,Q23,Q24,Q25,Q26,Q27,Q28,Nat.reduceLeDiff,Q29,Nat.reduceSub,Q30,Q31,Q32,sc,Q33,Q34,Q35,a]; rfl) : P := (e a).mpr h
theorem c_rune1 {σ : List zg} {s : List UInt8} (hs : s.length ≤ 1073741824) (hne : s ≠ []) {K : KT} (hK : K (.tup [.d (.int .i64 (zil s).1), .d (.int .i64 (zil s).2)]) σ) : zq Tryz.prog zmA [.d (.str s)] σ K := by
 refine zec e_r06_rune1 fun hl => ?_
 have hpos : 0 < s.length := List.length_pos_iff.2 hne
 obtain ⟨g1,g2⟩ := at8_some hpos
 have hb0 := zrV s 0
 (refine gq20 (zbi g1 g2) ?_; try with_reducible exact True.intro)
 refine ⟨by omega,c_rsize ?_⟩
 have hz4 : zkb (at8 s 0) = 0 ∨ zkb (at8 s 0) = 1 ∨ zkb (at8 s 0) = 2 ∨ zkb (at8 s 0) = 3 ∨ zkb (at8 s 0) = 4 := by
  unfold zkb; split <;> (try split) <;> (try split) <;> (try split) <;> omega
 obtain ⟨z,hz⟩ : ∃ z,z = zkb (at8 s 0) := ⟨_,rfl⟩
 rw [← hz] at hz4 ⊢
 have bad : z = 0 ∨ z > s.length → K (.tup [.d (.int .i64 0), .d (.int .i64 0)]) σ := fun h => by
  have : zil s = (0, 0) := by simp only [zil, ← hz]; rw [if_pos h]
  rw [this] at hK; exact hK
 (refine gq17 ?_; try with_reducible exact True.intro)
 refine zaG (fun h => ?_) (fun h => ?_)
 all_goals (try (refine gq18 (zbi h (zbi g1 g2)) ?_; try with_reducible exact True.intro))
 ·refine zK hl ?_
  exact bad (.inl (by (try simp only [decide_eq_true_eq,decide_eq_false_iff_not,beq_iff_eq,beq_eq_false_iff_ne,bne_iff_ne,ne_eq,Bool.not_eq_true',Bool.not_eq_false',bne_eq_false_iff_eq] at *); omega))
 have hz0 : z ≠ 0 := by (try simp only [decide_eq_true_eq,decide_eq_false_iff_not,beq_iff_eq,beq_eq_false_iff_ne,bne_iff_ne,ne_eq,Bool.not_eq_true',Bool.not_eq_false',bne_eq_false_iff_eq] at *); omega
 refine zaG (fun h => ?_) (fun h => ?_)
 all_goals (try (refine gq18 (zbi h (zbi g1 g2)) ?_; try with_reducible exact True.intro))
 ·refine zK hl ?_
  exact bad (.inr (by (try simp only [decide_eq_true_eq,decide_eq_false_iff_not,beq_iff_eq,beq_eq_false_iff_ne,bne_iff_ne,ne_eq,Bool.not_eq_true',Bool.not_eq_false',bne_eq_false_iff_eq] at *); omega))
 have hzl : z ≤ s.length := by (try simp only [decide_eq_true_eq,decide_eq_false_iff_not,beq_iff_eq,beq_eq_false_iff_ne,bne_iff_ne,ne_eq,Bool.not_eq_true',Bool.not_eq_false',bne_eq_false_iff_eq] at *); omega
 have hnb : ¬ (z = 0 ∨ z > s.length) := by omega
 refine zaG (fun h => ?_) (fun h => ?_)
 all_goals (try (refine gq18 (zbi h (zbi g1 g2)) ?_; try with_reducible exact True.intro))
 ·have h1 : z = 1 := by (try simp only [decide_eq_true_eq,decide_eq_false_iff_not,beq_iff_eq,beq_eq_false_iff_ne,bne_iff_ne,ne_eq,Bool.not_eq_true',Bool.not_eq_false',bne_eq_false_iff_eq] at *); omega
  refine ⟨by omega, ?_⟩
  refine zK hl ?_
  have : zil s = (at8 s 0, 1) := by simp only [zil, ← hz]; rw [if_neg hnb,if_pos h1]
  rw [this] at hK
  simp only [zbY,dmT,dm,dm1,List.map_cons,List.map_nil]
  rw [zJ (by omega) (by omega)]
  exact hK
 have hz2 : z = 2 ∨ z = 3 ∨ z = 4 := by (try simp only [decide_eq_true_eq,decide_eq_false_iff_not,beq_iff_eq,beq_eq_false_iff_ne,bne_iff_ne,ne_eq,Bool.not_eq_true',Bool.not_eq_false',bne_eq_false_iff_eq] at *); omega
 have h1 : ¬ z = 1 := by omega
 refine ⟨by omega, ?_⟩
 have hw : IntKind.i64.wrap (at8 s 0 : Int) = (at8 s 0 : Int) := zJ (by omega) (by omega)
 have hsh : (0 : Int) ≤ IntKind.i64.wrap (7 - (z : Int)) := by rw [zJ (by omega) (by omega)]; omega
 refine ⟨hsh, ?_⟩
 rw [hw,mask_eq z hz2 _ hb0]
 refine zw z (fun k vs s' => s' = σ ∧ k + 1 ≤ z ∧ vs = [.d (.int .i64 (zfo s z k)), .d (.int .i64 (k + 1 : Nat))] ∧ ∀ i,i < k + 1 → 1 ≤ i → zph s i = true) ⟨rfl,by omega,rfl,fun i h1 h2 => by omega⟩ ?_
 rintro k vs s' hk ⟨rfl,hk1,rfl,hcont⟩
 have hpl := partF_lt s z (by omega) k
 have hpow : 64 ^ k ≤ 64 ^ 3 := Nat.pow_le_pow_right (by omega) (by omega)
 (refine gq17 ?_; try with_reducible exact True.intro)
 have fail : (¬ ∀ i,i < z → 1 ≤ i → zph s i = true) → K (.tup [.d (.int .i64 0), .d (.int .i64 0)]) s' := fun h => by
  have : zil s = (0, 0) := by simp only [zil, ← hz]; rw [if_neg hnb,if_neg h1,if_neg h]
  rw [this] at hK; exact hK
 refine zaG (fun h => ?_) (fun h => ?_)
 ·have hkz : k + 1 < z := by (try simp only [decide_eq_true_eq,decide_eq_false_iff_not,beq_iff_eq,beq_eq_false_iff_ne,bne_iff_ne,ne_eq,Bool.not_eq_true',Bool.not_eq_false',bne_eq_false_iff_eq] at *); omega
  obtain ⟨f1,f2⟩ := at8_some (s := s) (i := k + 1) (by omega)
  have hb := zrV s (k + 1)
  repeat' first
   | (refine gq21 (zbi f1 f2) ?_; try with_reducible exact True.intro)
   | (refine zaG (fun h => ?_) (fun h => ?_) <;> (try rw [h]))
   | ((with_reducible refine And.intro ?_ ?_); focus (first | omega | rfl | decide))
  ·refine zK hl ?_
   exact fail fun h' => by
    have := h' (k + 1) hkz (by omega)
    simp only [zph] at this
    (try simp only [decide_eq_true_eq,decide_eq_false_iff_not,beq_iff_eq,beq_eq_false_iff_ne,bne_iff_ne,ne_eq,Bool.not_eq_true',Bool.not_eq_false',bne_eq_false_iff_eq] at *); omega
  ·refine zK hl ?_
   exact fail fun h' => by
    have := h' (k + 1) hkz (by omega)
    simp only [zph] at this
    (try simp only [decide_eq_true_eq,decide_eq_false_iff_not,beq_iff_eq,beq_eq_false_iff_ne,bne_iff_ne,ne_eq,Bool.not_eq_true',Bool.not_eq_false',bne_eq_false_iff_eq] at *); omega
  have hv : IntKind.i64.wrap (IntKind.i64.wrap (↑(zfo s z k) * 64) + (IntKind.i64.wrap ↑(at8 s (k + 1))).tmod 64) = ((zfo s z (k + 1) : Nat) : Int) := by
   have hp2 : zfo s z k < 32 * 64 ^ 3 := by omega
   have e1 : IntKind.i64.wrap ((zfo s z k : Int) * 64) = (zfo s z k : Int) * 64 := zJ (by omega) (by omega)
   have e2 : IntKind.i64.wrap (at8 s (k + 1) : Int) = (at8 s (k + 1) : Int) := zJ (by omega) (by omega)
   have e3 : ((at8 s (k + 1) : Int)).tmod 64 = ((at8 s (k + 1) % 64 : Nat) : Int) := by rw [Int.tmod_eq_emod_of_nonneg (by omega)]; rfl
   rw [e1,e2,e3,zJ (by omega) (by omega)]
   simp only [zfo]
   omega
  have hw2 : IntKind.i64.wrap (((k + 1 : Nat) : Int) + 1) = ((k + 1 + 1 : Nat) : Int) := by rw [zJ (by omega) (by omega)]; rfl
  rw [hv,hw2]
  refine zap.next (by omega) ⟨rfl,by omega,rfl,fun i hi1 hi2 => ?_⟩
  by_cases hi : i < k + 1
  ·exact hcont i hi hi2
  ·obtain rfl : i = k + 1 := by omega
   simp only [zph]
   (try simp only [decide_eq_true_eq,decide_eq_false_iff_not,beq_iff_eq,beq_eq_false_iff_ne,bne_iff_ne,ne_eq,Bool.not_eq_true',Bool.not_eq_false',bne_eq_false_iff_eq] at *); omega
 ·have hkz : k + 1 = z := by (try simp only [decide_eq_true_eq,decide_eq_false_iff_not,beq_iff_eq,beq_eq_false_iff_ne,bne_iff_ne,ne_eq,Bool.not_eq_true',Bool.not_eq_false',bne_eq_false_iff_eq] at *); omega
  have hall : ∀ i,i < z → 1 ≤ i → zph s i = true := by rw [← hkz]; exact hcont
  have hdec : zil s = if zfo s z k < zeB z ∨ zfo s z k > 1114111 ∨ (55296 ≤ zfo s z k ∧ zfo s z k < 57344) then (0, 0) else (zfo s z k,z) := by
   have e : z - 1 = k := by omega
   simp only [zil, ← hz]
   rw [if_neg hnb,if_neg h1,if_pos hall,e]
  have hget : ∃ l : Nat,l = zeB z ∧ ([[D.int .i64 0], [D.int .i64 0], [D.int .i64 128], [D.int .i64 2048], [D.int .i64 65536]] : List (List D))[z]? = some [D.int .i64 l] := by
   rcases hz2 with rfl | rfl | rfl <;> exact ⟨_,rfl,rfl⟩
  obtain ⟨l,hl1,hl2⟩ := hget
  rw [← hl1] at hdec
  repeat' first
   | (refine gq21 hl2 ?_; try with_reducible exact True.intro)
   | (refine zaG (fun h => ?_) (fun h => ?_) <;> (try rw [h]))
   | ((with_reducible refine And.intro ?_ ?_); focus (first | omega | rfl | decide))
  all_goals refine zK hl ?_
  all_goals (try simp only [decide_eq_true_eq,decide_eq_false_iff_not,beq_iff_eq,beq_eq_false_iff_ne,bne_iff_ne,ne_eq,Bool.not_eq_true',Bool.not_eq_false',bne_eq_false_iff_eq] at *)
  all_goals simp only [zbY,dmT,dm,dm1,List.map_cons,List.map_nil]
  all_goals first
   | (rw [if_pos (by omega)] at hdec; rw [hdec] at hK; exact hK)
   | (rw [if_neg (by omega)] at hdec; rw [hdec] at hK; exact hK)
theorem badF_ref (v : Nat) : badF v = decide (v < 33 ∨ 127 ≤ v ∧ v < 160 ∨ v = 47 ∨ v = 65533) := by
 simp only [badF]; congr 1; apply propext; omega
theorem c_rRunes {σ : List zg} {s : List UInt8} (hs : s.length ≤ 1073741824) {K : KT} (hK : K (.d (.int .i64 (zfJ s))) σ) : zq Tryz.prog zmB [.d (.str s)] σ K := by
 refine zec e_r06_Runes fun hl => ?_
 simp only [zsm,iN,bT,bF,eN]
 refine zw s.length (fun pos vs s' => ∃ (cnt : Nat) (t : List UInt8),t.length + pos = s.length ∧ vs = [.d (.str t), .d (.int .i64 cnt)] ∧ s' = σ ∧ cnt ≤ pos ∧ cnt ≤ 16 ∧ zcP (s.length + 1) s = (zcP (s.length + 1) t).map (· + cnt)) ⟨0,s,rfl,rfl,rfl,by omega,by omega,by simp⟩ ?_
 rintro pos vs s' hp ⟨cnt,t,hlen,rfl,rfl,hc,hc16,hr⟩
 (refine gq17 ?_; try with_reducible exact True.intro)
 refine zaG (fun h => ?_) (fun h => ?_)
 ·have ht : t ≠ [] := by rintro rfl; simp at h
  have htl : 0 < t.length := List.length_pos_iff.2 ht
  have hw2 := ziM t
  have hcount : zcP (s.length + 1) t = if (zil t).2 = 0 ∨ badF (zil t).1 = true then none else (zcP s.length (t.drop (zil t).2)).map (· + 1) := by
   rw [zcP,if_neg ht]
  refine c_rune1 (by omega) ht ?_
  have stop : (zil t).2 = 0 ∨ badF (zil t).1 = true ∨ cnt = 16 → K (.d (.int .i64 0)) s' := fun hb => by
   have h0 : zfJ s = 0 := by
    by_cases hq : (zil t).2 = 0 ∨ badF (zil t).1 = true
    ·simp [zfJ,hr,hcount,if_pos hq]
    ·have hcn : cnt = 16 := by
      rcases hb with hb | hb | hb
      ·exact absurd (.inl hb) hq
      ·exact absurd (.inr hb) hq
      ·exact hb
     simp only [zfJ,hr,hcount,if_neg hq]
     cases zcP s.length (t.drop (zil t).2) with
     | none => simp
     | some m => simp; omega
   rw [h0] at hK; exact hK
  (repeat' (first | (refine gq16 ?_; try with_reducible exact True.intro) | (refine zaG (fun h => ?_) (fun h => ?_) <;> (try rw [h])) | ((with_reducible refine And.intro ?_ ?_); focus (first | omega | rfl | decide))))
  all_goals first
   | (
    refine zK hl ?_
    refine stop ?_
    rw [badF_ref,decide_eq_true_eq]
    (try simp only [decide_eq_true_eq,decide_eq_false_iff_not,beq_iff_eq,beq_eq_false_iff_ne,bne_iff_ne,ne_eq,Bool.not_eq_true',Bool.not_eq_false',bne_eq_false_iff_eq] at *)
    omega)
   | skip
  all_goals
   have hb : badF (zil t).1 = false := by
    rw [badF_ref,decide_eq_false_iff_not]
    (try simp only [decide_eq_true_eq,decide_eq_false_iff_not,beq_iff_eq,beq_eq_false_iff_ne,bne_iff_ne,ne_eq,Bool.not_eq_true',Bool.not_eq_false',bne_eq_false_iff_eq] at *)
    omega
   have h2 : (zil t).2 ≠ 0 := by (try simp only [decide_eq_true_eq,decide_eq_false_iff_not,beq_iff_eq,beq_eq_false_iff_ne,bne_iff_ne,ne_eq,Bool.not_eq_true',Bool.not_eq_false',bne_eq_false_iff_eq] at *); omega
   have hcl : cnt < 16 := by (try simp only [decide_eq_true_eq,decide_eq_false_iff_not,beq_iff_eq,beq_eq_false_iff_ne,bne_iff_ne,ne_eq,Bool.not_eq_true',Bool.not_eq_false',bne_eq_false_iff_eq] at *); omega
   rw [zJ (by omega) (by omega)]
   refine zap.to (pos + (zil t).2) (by omega) (by omega) ⟨cnt + 1,t.drop (zil t).2,by simp; omega, ?_,rfl,by omega,by omega, ?_⟩
   ·simp
   ·rw [hr,hcount,if_neg (by simp [h2,hb]),zmT s.length (s.length + 1) _ (by simp; omega) (by simp; omega)]
    cases zcP (s.length + 1) (t.drop (zil t).2) <;> simp
    omega
 ·refine zK hl ?_
  have ht : t = [] := by
   have : ¬ 0 < t.length := by (try simp only [decide_eq_true_eq,decide_eq_false_iff_not,beq_iff_eq,beq_eq_false_iff_ne,bne_iff_ne,ne_eq,Bool.not_eq_true',Bool.not_eq_false',bne_eq_false_iff_eq] at *); omega
   exact List.length_eq_zero_iff.1 (by omega)
  have h0 : zfJ s = cnt := by
   simp only [zfJ,hr,ht]
   simp [zcP]
   omega
  rw [h0] at hK; exact hK
theorem c_rName {σ : List zg} {s : List UInt8} (hs : s.length ≤ 1073741824) {K : KT} (hK : K (.d (.bool (zeL s))) σ) : zq Tryz.prog ziy [.d (.str s)] σ K := by
 refine zec e_r06_Name fun hl => ?_
 simp only [zue,iN,bT,bF,eN]
 (refine gq17 ?_; try with_reducible exact True.intro)
 refine c_rRunes hs ?_
 (refine gq17 ?_; try with_reducible exact True.intro)
 refine zK hl ?_
 have : decide ((zfJ s : Int) > 0) = zeL s := by simp [zeL]
 rw [this]; exact hK
def zkQ (k : Int) : Bool := decide (1 ≤ k ∧ k ≤ 4)
def znF (k : Int) : Bool := decide (k = 3)
def fOff (k : Int) : Bool := decide (k = 3 ∨ k = 4)
def zuP (k : Int) : Bool := decide (k = 2)
theorem c_fields {σ : List zg} {k : Int} {K : KT} (hK : K (.tup [.d (.bool (zkQ k)), .d (.bool (znF k)), .d (.bool (fOff k)), .d (.bool (zuP k))]) σ) : zq Tryz.prog zhP [.d (.int .i64 k)] σ K := by
 refine zec e_r06_fields fun hl => ?_
 simp only [zpN,iN,bT,bF,eN]
 (repeat' (first | (refine gq16 ?_; try with_reducible exact True.intro) | (refine zaG (fun h => ?_) (fun h => ?_) <;> (try rw [h])) | ((with_reducible refine And.intro ?_ ?_); focus (first | omega | rfl | decide))))
 all_goals refine zK hl ?_
 all_goals (try simp only [decide_eq_true_eq,decide_eq_false_iff_not,beq_iff_eq,beq_eq_false_iff_ne,bne_iff_ne,ne_eq,Bool.not_eq_true',Bool.not_eq_false',bne_eq_false_iff_eq] at *)
 all_goals
  simp only [zbY,dmT,dm,dm1,List.map_cons,List.map_nil]
  have e : ∀ a b c d : Bool,zkQ k = a → znF k = b → fOff k = c → zuP k = d → K (.tup [.d (.bool a), .d (.bool b), .d (.bool c), .d (.bool d)]) σ := fun a b c d h1 h2 h3 h4 => by rw [← h1, ← h2, ← h3, ← h4]; exact hK
  clear hK
  apply e <;> simp [zkQ,znF,fOff,zuP] <;> omega
theorem onlyF_iff (o : TOp) : o = onlyF o ↔ (zkQ o.kind = false → o.topic = []) ∧ (znF o.kind = false → o.group = []) ∧ (fOff o.kind = false → o.offset = 0) ∧ (zuP o.kind = false → o.recs = []) := by
 obtain ⟨k,t,g,f,r⟩ := o
 simp only [onlyF,noOp,zkQ,znF,fOff,zuP,decide_eq_false_iff_not]
 by_cases h1 : k = 1
 ·subst h1; simp
 by_cases h2 : k = 2
 ·subst h2; simp
 by_cases h3 : k = 3
 ·subst h3; simp
 by_cases h4 : k = 4
 ·subst h4; simp
 ·have : ¬ (1 ≤ k ∧ k ≤ 4) := by omega
  simp [h1,h2,h3,h4,this]
set_option maxHeartbeats 2000000 in
theorem zvn {σ : List zg} {o : TOp} (ht : o.topic.length ≤ 1073741824) (hg : o.group.length ≤ 1073741824) (hr : o.recs.length ≤ 1073741824) {K : KT} (hK : K (.d (.int .i64 (zbj zeL o))) σ) : zq Tryz.prog zhl [opA o] σ K := by
 refine zec e_r06_Check fun hl => ?_
 simp only [zsn,iN,bT,bF,eN,opA]
 (refine gq16 ?_; try with_reducible exact True.intro)
 refine c_fields ?_
 have fin : ∀ z : Int,zbj zeL o = z → K (.d (.int .i64 z)) σ := fun z hz => by rw [← hz]; exact hK
 have honly := onlyF_iff o
 have hkind : zkQ o.kind = true → zhN o = true := by simp [zkQ,zhN]; omega
 have hk1 : zkQ o.kind = true ↔ (zhN o = true ∧ o.kind ≠ 0) := by simp [zkQ,zhN]; omega
 have hk2 : znF o.kind = true ↔ o.kind = 3 := by simp [znF]
 have hk3 : zuP o.kind = true ↔ o.kind = 2 := by simp [zuP]
 have hk4 : zhN o = true ↔ (0 ≤ o.kind ∧ o.kind ≤ 4) := by simp [zhN]
 have hnil : o.recs = [] ↔ o.recs.length = 0 := List.length_eq_zero_iff.symm
 clear hK
 repeat' first
  | (refine gq16 ?_; try with_reducible exact True.intro)
  | refine c_rName ht ?_
  | refine c_rName hg ?_
  | (refine zaG (fun h => ?_) (fun h => ?_) <;> (try rw [h]))
  | ((with_reducible refine And.intro ?_ ?_); focus (first | omega | rfl | decide))
 all_goals first
  | (
   refine zK hl ?_
   (try simp only [decide_eq_true_eq,decide_eq_false_iff_not,beq_iff_eq,beq_eq_false_iff_ne,bne_iff_ne,ne_eq,Bool.not_eq_true',Bool.not_eq_false',bne_eq_false_iff_eq] at *)
   simp only [zbY,dmT,dm,dm1]
   apply fin
   grind [zbj])
  | skip
 all_goals
  refine zw o.recs.length (fun k vs s => vs = [.d (.int .i64 k)] ∧ s = σ ++ [.box [.d (.int .i64 o.kind), .d (.str o.topic), .d (.str o.group), .d (.int .i64 o.offset), .d (.slice (zcj o.recs))]] ∧ ∀ r ∈ o.recs.take k, ¬ r.length > 64) ⟨rfl,rfl,by simp⟩ ?_
  rintro k vs s hk ⟨rfl,rfl,htk⟩
  (refine gq17 ?_; try with_reducible exact True.intro)
  refine zaG (fun h => ?_) (fun h => ?_)
  ·have hka : k < o.recs.length := by (try simp only [decide_eq_true_eq,decide_eq_false_iff_not,beq_iff_eq,beq_eq_false_iff_ne,bne_iff_ne,ne_eq,Bool.not_eq_true',Bool.not_eq_false',bne_eq_false_iff_eq] at *); omega
   have hx : o.recs[k]? = some o.recs[k] := by simp [hka]
   have hmem : o.recs[k] ∈ o.recs := List.getElem_mem _
   have hbl : (bcs o.recs[k]).length = o.recs[k].length := by simp [bcs]
   (refine gq18 (znm hx) ?_; try with_reducible exact True.intro)
   refine And.intro (by omega) ?_
   refine zaG (fun h => ?_) (fun h => ?_)
   ·have hany : (o.recs.any fun r => decide (r.length > 64)) = true := by
     rw [List.any_eq_true]
     exact ⟨_,hmem,by (try simp only [decide_eq_true_eq,decide_eq_false_iff_not,beq_iff_eq,beq_eq_false_iff_ne,bne_iff_ne,ne_eq,Bool.not_eq_true',Bool.not_eq_false',bne_eq_false_iff_eq] at *); omega⟩
    refine zK hl ?_
    (try simp only [decide_eq_true_eq,decide_eq_false_iff_not,beq_iff_eq,beq_eq_false_iff_ne,bne_iff_ne,ne_eq,Bool.not_eq_true',Bool.not_eq_false',bne_eq_false_iff_eq] at *)
    simp only [zbY,dmT,dm,dm1]
    apply fin
    grind [zbj]
   ·(refine gq17 ?_; try with_reducible exact True.intro)
    refine zap.next hka ⟨?_,rfl,fun r hr => ?_⟩
    ·rw [zJ (by omega) (by omega)]; rfl
    ·rw [List.take_add_one,hx] at hr
     rcases List.mem_append.1 hr with hr | hr
     ·exact htk r hr
     ·have : r = o.recs[k] := by simpa using hr
      subst this
      (try simp only [decide_eq_true_eq,decide_eq_false_iff_not,beq_iff_eq,beq_eq_false_iff_ne,bne_iff_ne,ne_eq,Bool.not_eq_true',Bool.not_eq_false',bne_eq_false_iff_eq] at *)
      omega
  ·have hany : (o.recs.any fun r => decide (r.length > 64)) = false := by
    rw [List.any_eq_false]
    intro r hr
    have hk' : k = o.recs.length := by (try simp only [decide_eq_true_eq,decide_eq_false_iff_not,beq_iff_eq,beq_eq_false_iff_ne,bne_iff_ne,ne_eq,Bool.not_eq_true',Bool.not_eq_false',bne_eq_false_iff_eq] at *); omega
    rw [hk',List.take_length] at htk
    simpa using htk r hr
   clear htk
   (repeat' (first | (refine gq16 ?_; try with_reducible exact True.intro) | (refine zaG (fun h => ?_) (fun h => ?_) <;> (try rw [h])) | ((with_reducible refine And.intro ?_ ?_); focus (first | omega | rfl | decide))))
   all_goals
    refine zK hl ?_
    (try simp only [decide_eq_true_eq,decide_eq_false_iff_not,beq_iff_eq,beq_eq_false_iff_ne,bne_iff_ne,ne_eq,Bool.not_eq_true',Bool.not_eq_false',bne_eq_false_iff_eq] at *)
    simp only [zbY,dmT,dm,dm1]
    apply fin
    grind [zbj]
theorem u64_of {n : Int} (h : 0 ≤ n) (h2 : n < 9223372036854775808) : IntKind.u64.wrap n = (n.toNat : Int) := by
 obtain ⟨m,rfl⟩ := Int.eq_ofNat_of_zero_le h
 rw [Int.toNat_natCast]; exact zci (by omega)
theorem bytesE (s : List UInt8) : s.map zbA = bcs s := rfl
theorem gq22 {A P Q : Prop} (a : A) (h : Q) (e : A → P = Q := by intro a; simp -dsimp only [↓zgr, ↓zaF, ↓zbL, ↓zgt, ↓zgn, ↓zgl, ↓zgo, ↓zgm, ↓zbR, ↓zbN, ↓zbS, ↓zbO, ↓zgp, ↓zbJ, ↓zbT, ↓zbP, ↓zbU, ↓zbQ, ↓zgj, ↓zgq, ↓zbI, ↓zbX, ↓zgc, ↓zgb, ↓zgi,iN,bT,bF,eN, ↓zdN, ↓unC, ↓zac, ↓zQ, ↓zR, ↓zV, ↓zak, ↓zau, ↓zco, ↓zag, ↓zaJ, ↓zW, ↓zp, ↓zo, ↓zbF, ↓zl, ↓zan, ↓zF, ↓zaM, ↓zaW, ↓ze, ↓zC, ↓zu, ↓zy, ↓zav, ↓zdr, ↓zdU, ↓zat, ↓zaB, ↓zaU, ↓zbk, ↓zbv, ↓zD, ↓zaq, ↓zS, ↓zE, ↓zam,zeb,zbD,zbB,unA,zei,bnd,zeF,zai,zP,zeE,dm,dm1,zB,zal,zfg,zff,zx,Q0,Q1,Q2,Q3,Q4,Q5,zZ,zh,zm,zT,zN,Q6,Q7,Q8,Q9,Q10,Q11,Q12,Q13,Q14,Nat.reduceAdd,Q15,Int.reduceToNat,Q16,Q17,Q18,Q19,Q20,reduceIte,Q21,Q22,zH,rep,zX,zfc,toD,zah,Q23,Q24,Q25,Q26,Q27,Q28,Nat.reduceLeDiff,Q29,Nat.reduceSub,Q30,Q31,Q32,sc,Q33,Q34,Q35,Bool.and_false,Bool.and_self,Bool.false_and,Bool.not_false,Bool.not_true,Bool.true_and,Int.toNat_natCast,Int.toNat_zero,List.drop_zero,List.length_map,List.length_nil,List.nil_append,List.take_length,Nat.sub_zero,Nat.zero_add,Option.isSome_none,Option.isSome_some,Option.map_none,Option.map_some,zaH,beq_self_eq_true,bne_self_eq_false,bytesE,zcl,zcv,opA,a]; rfl) : P := (e a).mpr h
theorem c_rPut {σ : List zg} {b : List UInt8} {o : TOp} (hb : b.length ≤ 268435456) (ho : zmd o ≤ 268435456) {K : KT} (hK : K (.d (.slice (bcs (b ++ if zbj zeL o = 0 then opB o else [])))) σ) :
  zq Tryz.prog zqZ [.d (.slice (bcs b)),opA o] σ K := by
 refine zga e_r06_Put fun hl => ?_
 have hsz := ho
 simp only [zmd] at hsz
 have hrl := zjf o.recs
 simp only [S_r06_Put,iN,bT,bF,eN,opA]
 (refine gq16 ?_; try with_reducible exact True.intro)
 refine zvn (o := o) (by omega) (by omega) (by omega) ?_
 (refine gq16 ?_; try with_reducible exact True.intro)
 refine zaG (fun h => ?_) (fun h => ?_)
 ·refine zK hl ?_
  (try simp only [decide_eq_true_eq,decide_eq_false_iff_not,beq_iff_eq,beq_eq_false_iff_ne,bne_iff_ne,ne_eq,Bool.not_eq_true',Bool.not_eq_false',bne_eq_false_iff_eq] at *)
  rw [if_neg h,List.append_nil] at hK
  exact hK
 have hc : zbj zeL o = 0 := by (try simp only [decide_eq_true_eq,decide_eq_false_iff_not,beq_iff_eq,beq_eq_false_iff_ne,bne_iff_ne,ne_eq,Bool.not_eq_true',Bool.not_eq_false',bne_eq_false_iff_eq] at *); omega
 obtain ⟨k0,k4,o0,o1,hon⟩ := check_ok hc
 rw [if_pos hc] at hK
 have hkn := zt (n := o.kind.toNat) (by omega)
 have hon' := zt (n := o.offset.toNat) (by omega)
 have hrn := zt (n := o.recs.length) (by omega)
 have htp := zeK (x := o.topic) (by omega)
 have hgp := zeK (x := o.group) (by omega)
 (refine gq21 (u64_of k0 (by omega)) ?_; try with_reducible exact True.intro)
 refine c_fields ?_
 (refine gq21 (u64_of k0 (by omega)) ?_; try with_reducible exact True.intro)
 refine zcx (by omega) (by omega) ?_
 have wo := u64_of o0 (by omega : o.offset < 9223372036854775808)
 have wl : IntKind.u64.wrap ((zcj o.recs).length : Int) = (o.recs.length : Int) := by rw [zH]; exact zci (by omega)
 have wl' : IntKind.u64.wrap (o.recs.length : Int) = (o.recs.length : Int) := zci (by omega)
 have f1 : zkQ o.kind = true ↔ o.kind ≠ 0 := by simp [zkQ]; omega
 have f2 : znF o.kind = true ↔ o.kind = 3 := by simp [znF]
 have f3 : fOff o.kind = true ↔ (o.kind = 3 ∨ o.kind = 4) := by simp [fOff]
 have f4 : zuP o.kind = true ↔ o.kind = 2 := by simp [zuP]
 repeat' first
  | (refine gq22 (zbi wo (zbi wl wl')) ?_; try with_reducible exact True.intro)
  | (refine zaG (fun h => ?_) (fun h => ?_) <;> (try rw [h]))
  | ((with_reducible refine And.intro ?_ ?_); focus (first | omega | rfl | decide))
  | refine zfA (by omega) (by simp only [znn,List.length_append] at *; omega) ?_
  | refine zcx (by omega) (by simp only [znn,List.length_append] at *; omega) ?_
 -- the ways that end,those that can't be
 all_goals first
  | (exfalso; clear hK; grind)
  | (
   refine zK hl ?_
   (try simp only [decide_eq_true_eq,decide_eq_false_iff_not,beq_iff_eq,beq_eq_false_iff_ne,bne_iff_ne,ne_eq,Bool.not_eq_true',Bool.not_eq_false',bne_eq_false_iff_eq] at *)
   simp only [zbY,dmT,dm,dm1]
   (first | rw [opB_0 (by grind)] at hK | rw [opB_1 (by grind)] at hK | rw [opB_3 (by grind)] at hK | rw [opB_4 (by grind)] at hK)
   exact hK)
  | skip
 -- the records
 have hk2 : o.kind = 2 := by grind
 rw [opB_2 hk2] at hK
 refine zw o.recs.length (fun k vs s => ∃ t τ,vs = [.own t (bcs (b ++ (zcn o.kind.toNat ++ (zcn o.topic.length ++ (o.topic ++ (zcn o.recs.length ++ zkc (o.recs.take k))))))), .d (.int .i64 k)] ∧ s = σ ++ .box [.d (.int .i64 o.kind), .d (.str o.topic), .d (.str o.group), .d (.int .i64 o.offset), .d (.slice (zcj o.recs))] :: τ)
  ⟨σ.length + 3,_,by rw [List.take_zero,show zkc [] = [] from rfl,List.append_nil]; rfl,rfl⟩ ?_
 rintro k vs s hk ⟨t, τ,rfl,rfl⟩
 (refine gq16 ?_; try with_reducible exact True.intro)
 refine zaG (fun h => ?_) (fun h => ?_)
 ·have hka : k < o.recs.length := by (try simp only [decide_eq_true_eq,decide_eq_false_iff_not,beq_iff_eq,beq_eq_false_iff_ne,bne_iff_ne,ne_eq,Bool.not_eq_true',Bool.not_eq_false',bne_eq_false_iff_eq] at *); omega
  have hx : o.recs[k]? = some o.recs[k] := by simp [hka]
  have hle := rec_le (List.getElem_mem hka)
  have htl := zmb o.recs (by omega) k
  (refine gq21 (znm hx) ?_; try with_reducible exact True.intro)
  refine And.intro (by omega) (zfA (by omega) (by simp only [znn,List.length_append] at *; omega) ?_)
  (refine gq16 ?_; try with_reducible exact True.intro)
  refine zap.next hka ⟨σ.length + (τ.length + 1),_, ?_,rfl⟩
  rw [zJ (by omega) (by omega),recsB_snoc hx]
  simp only [znn,List.append_assoc]
  rfl
 ·have hke : k = o.recs.length := by (try simp only [decide_eq_true_eq,decide_eq_false_iff_not,beq_iff_eq,beq_eq_false_iff_ne,bne_iff_ne,ne_eq,Bool.not_eq_true',Bool.not_eq_false',bne_eq_false_iff_eq] at *); omega
  subst hke
  refine zK hl ?_
  rw [List.take_length]
  exact hK
end Go.Proofs.YtfjommppajkpoaaGreat
