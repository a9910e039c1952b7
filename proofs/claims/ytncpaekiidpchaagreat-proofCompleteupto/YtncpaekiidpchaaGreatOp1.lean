/- Contracts of operations: which are the same. -/
import Derived.Test.YtncpaekiidpchaaGreatCodec1
import Derived.Test.YtncpaekiidpchaaGreatCl1
import Derived.Test.YtncpaekiidpchaaGreatSpUtf
set_option linter.all false
set_option maxRecDepth 100000
namespace Go.Proofs.YtncpaekiidpchaaGreat
open Go.AW
end Go.Proofs.YtncpaekiidpchaaGreat

/- Contracts: runes and names. -/
set_option maxRecDepth 100000
namespace Go.Proofs.YtncpaekiidpchaaGreat
open Go.AW
theorem gq21 {P Q : Prop} (h : Q) (e : P = Q := by simp -dsimp only [↓zey, ↓zau, ↓zbj, ↓zeA, ↓zes, ↓zeq, ↓zet, ↓zer, ↓zbo, ↓zbk, ↓zbp, ↓zbl, ↓zeu, ↓zbi, ↓zbq, ↓zbm, ↓zbr, ↓zbn, ↓zep, ↓zew, ↓zbh, ↓zbs, ↓zeg, ↓zef, ↓zeo,iN,bT,bF,eN, ↓zcS, ↓unC, ↓zW, ↓zK, ↓zL, ↓zN, ↓zZ, ↓zaw, ↓zbT, ↓zag, ↓zbu, ↓zP, ↓zq, ↓zo, ↓zby, ↓zl, ↓zaf, ↓zH, ↓zaC, ↓zaG, ↓ze, ↓zC, ↓zt, ↓zw, ↓zan, ↓zcC, ↓zdb, ↓zal, ↓zat, ↓zaF, ↓zaP, ↓zaW, ↓zu, ↓zai, ↓zM, ↓zA, ↓zaa,zdi,zbd,zba,unA,zdk,bnd,zdw,zac,zS,zdy,dm,dm1,zB,zak,zdP,zdO,zQ,Q0,Q1,Q2,Q3,Q4,Q5,zR,zr,zy,zO,zI,Q6,Q7,Q8,Q9,Q10,Q11,Q12,Q13,Q14,Nat.reduceAdd,Q15,Int.reduceToNat,Q16,Q17,Q18,Q19,Q20,reduceIte,Q21,Q22,zE,rep,zV,zdG,toD,zab,Q23,Q24,Q25,Q26,Q27,Q28,Nat.reduceLeDiff,Q29,Nat.reduceSub,Q30,Q31,Q32,sc,Q33,Q34,Q35]; rfl) : P := e.mpr h
theorem gq22 {P Q : Prop} (h : Q) (e : P = Q := by simp -dsimp only [↓zey, ↓zau, ↓zbj, ↓zeA, ↓zes, ↓zeq, ↓zet, ↓zer, ↓zbo, ↓zbk, ↓zbp, ↓zbl, ↓zeu, ↓zbi, ↓zbq, ↓zbm, ↓zbr, ↓zbn, ↓zep, ↓zew, ↓zbh, ↓zbs, ↓zeg, ↓zef, ↓zeo,iN,bT,bF,eN, ↓zcS, ↓unC, ↓zW, ↓zK, ↓zL, ↓zN, ↓zZ, ↓zaw, ↓zbT, ↓zag, ↓zbu, ↓zP, ↓zq, ↓zo, ↓zby, ↓zl, ↓zaf, ↓zH, ↓zaC, ↓zaG, ↓ze, ↓zC, ↓zt, ↓zw, ↓zan, ↓zcC, ↓zdb, ↓zal, ↓zat, ↓zaF, ↓zaP, ↓zaW, ↓zu, ↓zai, ↓zM, ↓zA, ↓zaa,zdi,zbd,zba,unA,zdk,bnd,zdw,zac,zS,zdy,dm,dm1,zB,zak,zdP,zdO,zQ,Q0,Q1,Q2,Q3,Q4,Q5,zR,zr,zy,zO,zI,Q6,Q7,Q8,Q9,Q10,Q11,Q12,Q13,Q14,Nat.reduceAdd,Q15,Int.reduceToNat,Q16,Q17,Q18,Q19,Q20,reduceIte,Q21,Q22,zE]; rfl) : P := e.mpr h
theorem gq23 {A P Q : Prop} (a : A) (h : Q) (e : A → P = Q := by intro a; simp -dsimp only [↓zey, ↓zau, ↓zbj, ↓zeA, ↓zes, ↓zeq, ↓zet, ↓zer, ↓zbo, ↓zbk, ↓zbp, ↓zbl, ↓zeu, ↓zbi, ↓zbq, ↓zbm, ↓zbr, ↓zbn, ↓zep, ↓zew, ↓zbh, ↓zbs, ↓zeg, ↓zef, ↓zeo,iN,bT,bF,eN, ↓zcS, ↓unC, ↓zW, ↓zK, ↓zL, ↓zN, ↓zZ, ↓zaw, ↓zbT, ↓zag, ↓zbu, ↓zP, ↓zq, ↓zo, ↓zby, ↓zl, ↓zaf, ↓zH, ↓zaC, ↓zaG, ↓ze, ↓zC, ↓zt, ↓zw, ↓zan, ↓zcC, ↓zdb, ↓zal, ↓zat, ↓zaF, ↓zaP, ↓zaW, ↓zu, ↓zai, ↓zM, ↓zA, ↓zaa,zdi,zbd,zba,unA,zdk,bnd,zdw,zac,zS,zdy,dm,dm1,zB,zak,zdP,zdO,zQ,Q0,Q1,Q2,Q3,Q4,Q5,zR,zr,zy,zO,zI,Q6,Q7,Q8,Q9,Q10,Q11,Q12,Q13,Q14,Nat.reduceAdd,Q15,Int.reduceToNat,Q16,Q17,Q18,Q19,Q20,reduceIte,Q21,Q22,zE,a]; rfl) : P := (e a).mpr h
theorem c_Runes {σ : List zg} {s : List UInt8} (hs : s.length ≤ 1073741824) {K : KT} (hK : K (.d (.int .i64 (zfw s))) σ) : zD Tryz.prog zoF [.d (.str s)] σ K := by
 refine zj ztb.is rfl fun hl _ => ztb.goes ?_
 simp only [ztF,iN,bT,bF,eN,zai]
 refine zG s.length (fun pos vs s' => ∃ cnt : Nat,vs = [.d (.int .i64 cnt)] ∧ s' = σ ++ [.iter s pos] ∧ pos ≤ s.length ∧ cnt ≤ pos ∧ zcV (s.length + 1) s = (zcV (s.length + 1) (s.drop pos)).map (· + cnt)) ⟨0,rfl,rfl,by omega,by omega,by simp⟩ ?_
 rintro pos vs s' hp ⟨cnt,rfl,rfl,hps,hc,hr⟩
 simp only [zu,znd,zy,List.getElem?_cons_zero]
 split
 ·rename_i hlt
  have hd : s.drop pos ≠ [] := by intro e; have := congrArg List.length e; simp at this; omega
  have hw := goDec_width _ hd
  have hw2 := ziQ (s.drop pos)
  simp only [decode_eq s pos hlt]
  have hcount : zcV (s.length + 1) (s.drop pos) = if (zin (s.drop pos)).2 = 0 ∨ badF (zin (s.drop pos)).1 = true then none else (zcV s.length ((s.drop pos).drop (zin (s.drop pos)).2)).map (· + 1) := by
   rw [zcV,if_neg hd]
  (repeat' (first | (refine gq21 ?_; try with_reducible exact True.intro) | (refine zaJ (fun h => ?_) (fun h => ?_) <;> (try rw [h])) | ((with_reducible refine And.intro ?_ ?_); focus (first | omega | rfl | decide))))
  all_goals first
   | (
    (first | refine zaq hl ?_ | refine zap hl ?_)
    have hb : badF (znm (s.drop pos)).1 = true := by
     simp only [badF]
     (try simp only [decide_eq_true_eq,decide_eq_false_iff_not,beq_iff_eq,beq_eq_false_iff_ne,bne_iff_ne,ne_eq,Bool.not_eq_true',Bool.not_eq_false',bne_eq_false_iff_eq] at *)
     omega
    rw [goDec_bad] at hb
    have : zcV (s.length + 1) (s.drop pos) = none := by rw [hcount,if_pos (by simpa using hb)]
    have h0 : zfw s = 0 := by simp [zfw,hr,this]
    rw [h0] at hK; exact hK)
   | skip
  all_goals
   have hb : badF (znm (s.drop pos)).1 = false := by
    simp only [badF]
    (try simp only [decide_eq_true_eq,decide_eq_false_iff_not,beq_iff_eq,beq_eq_false_iff_ne,bne_iff_ne,ne_eq,Bool.not_eq_true',Bool.not_eq_false',bne_eq_false_iff_eq] at *)
    omega
   obtain ⟨g1,g2,g3⟩ := goDec_good hb
   rw [zX (by omega) (by omega)]
   refine zav.to (pos + (znm (s.drop pos)).2) (by omega) (by simp at hw; omega) ⟨cnt + 1,rfl,rfl,by simp at hw; omega,by omega, ?_⟩
   rw [hr,hcount,if_neg (by simp [g2,g3]),g1,List.drop_drop,zmG s.length (s.length + 1) _ (by simp at *; omega) (by simp; omega)]
   cases zcV (s.length + 1) (List.drop (pos + (zin (s.drop pos)).2) s) <;> simp
   omega
 ·rename_i hlt
  have e : s.drop pos = [] := List.drop_eq_nil_of_le (by omega)
  have hcnt : zcV (s.length + 1) s = some cnt := by rw [hr,e]; simp [zcV]
  (refine gq22 ?_; try with_reducible exact True.intro)
  refine zaJ (fun h => ?_) (fun h => ?_)
  all_goals (try (refine gq23 h ?_; try with_reducible exact True.intro))
  ·(first | refine zaq hl ?_ | refine zap hl ?_)
   have h0 : zfw s = 0 := by simp [zfw,hcnt]; simp at h; omega
   rw [h0] at hK; exact hK
  ·(first | refine zaq hl ?_ | refine zap hl ?_)
   have h0 : zfw s = cnt := by simp [zfw,hcnt]; simp at h; omega
   rw [h0] at hK; exact hK
theorem gq24 {P Q : Prop} (h : Q) (e : P = Q := by simp -dsimp only [↓zey, ↓zau, ↓zbj, ↓zeA, ↓zes, ↓zeq, ↓zet, ↓zer, ↓zbo, ↓zbk, ↓zbp, ↓zbl, ↓zeu, ↓zbi, ↓zbq, ↓zbm, ↓zbr, ↓zbn, ↓zep, ↓zew, ↓zbh, ↓zbs, ↓zeg, ↓zef, ↓zeo,iN,bT,bF,eN, ↓zcS, ↓unC, ↓zW, ↓zK, ↓zL, ↓zN, ↓zZ, ↓zaw, ↓zbT, ↓zag, ↓zbu, ↓zP, ↓zq, ↓zo, ↓zby, ↓zl, ↓zaf, ↓zH, ↓zaC, ↓zaG, ↓ze, ↓zC, ↓zt, ↓zw, ↓zan, ↓zcC, ↓zdb, ↓zal, ↓zat, ↓zaF, ↓zaP, ↓zaW, ↓zu, ↓zai, ↓zM, ↓zA, ↓zaa,zdi,zbd,zba,unA,zdk,bnd,zdw,zac,zS,zdy,dm,dm1,zB,zak,zdP,zdO,zQ,Q0,Q1,Q2,Q3,Q4,Q5,zR,zr,zy,zO,zI,Q6,Q7,Q8,Q9,Q10,Q11,Q12,Q13,Q14,Nat.reduceAdd,Q15,Int.reduceToNat,Q16,Q17,Q18,Q19,Q20,reduceIte,Q21,Q22,S_op_Name,zE]; rfl) : P := e.mpr h
theorem c_Name {σ : List zg} {s : List UInt8} (hs : s.length ≤ 1073741824) {K : KT} (hK : K (.d (.bool (zdA s))) σ) : zD Tryz.prog zqF [.d (.str s)] σ K := by
 refine zj e_op_Name.is rfl fun hl _ => e_op_Name.goes ?_
 (refine gq24 ?_; try with_reducible exact True.intro)
 refine c_Runes hs ?_
 (refine gq22 ?_; try with_reducible exact True.intro)
 (first | refine zaq hl ?_ | refine zap hl ?_)
 have : decide ((zfw s : Int) > 0) = zdA s := by simp [zdA]
 rw [this]; exact hK
end Go.Proofs.YtncpaekiidpchaaGreat

/- Contracts: the reference's runes and names. -/
set_option maxRecDepth 100000
namespace Go.Proofs.YtncpaekiidpchaaGreat
open Go.AW
theorem c_rsize {σ : List zg} {c : Nat} {K : KT} (hK : K (.d (.int .i64 (zkf c))) σ) : zD Tryz.prog zoz [.d (.int .u8 c)] σ K := by
 refine zj zsU.is rfl fun hl _ => zsU.goes ?_
 simp only [zty,iN,bT,bF,eN]
 (repeat' (first | (refine gq21 ?_; try with_reducible exact True.intro) | (refine zaJ (fun h => ?_) (fun h => ?_) <;> (try rw [h])) | ((with_reducible refine And.intro ?_ ?_); focus (first | omega | rfl | decide))))
 all_goals (first | refine zaq hl ?_ | refine zap hl ?_)
 all_goals (try simp only [decide_eq_true_eq,decide_eq_false_iff_not,beq_iff_eq,beq_eq_false_iff_ne,bne_iff_ne,ne_eq,Bool.not_eq_true',Bool.not_eq_false',bne_eq_false_iff_eq] at *)
 all_goals
  simp only [zca,dmT,dm,dm1]
  have e : ∀ z : Nat,zkf c = z → K (.d (.int .i64 z)) σ := fun z hz => by rw [← hz]; exact hK
  first
  | exact e 0 (by unfold zkf; rw [if_neg (by omega),if_neg (by omega),if_neg (by omega),if_neg (by omega)])
  | exact e 1 (by unfold zkf; rw [if_pos (by omega)])
  | exact e 2 (by unfold zkf; rw [if_neg (by omega),if_pos (by omega)])
  | exact e 3 (by unfold zkf; rw [if_neg (by omega),if_neg (by omega),if_pos (by omega)])
  | exact e 4 (by unfold zkf; rw [if_neg (by omega),if_neg (by omega),if_neg (by omega),if_pos (by omega)])
theorem mask_eq (z : Nat) (hz : z = 2 ∨ z = 3 ∨ z = 4) (b : Nat) (hb : b < 256) :
  IntKind.i64.wrap ↑(BitVec.ofInt IntKind.i64.bits (b : Int) &&& BitVec.ofInt IntKind.i64.bits (IntKind.i64.wrap (IntKind.i64.wrap (1 * 2 ^ (min (IntKind.i64.wrap (7 - (z : Int))).toNat IntKind.i64.bits)) - 1))).toNat = ((b % 2 ^ (7 - z) : Nat) : Int) := by
 have h0 : (BitVec.ofInt 64 (b : Int)).toNat = b := by simp; omega
 have key : ∀ m : Nat,(m = 3 ∨ m = 4 ∨ m = 5) → IntKind.i64.wrap ↑(BitVec.ofInt 64 (b : Int) &&& BitVec.ofInt 64 ((2 : Int) ^ m - 1)).toNat = ((b % 2 ^ m : Nat) : Int) := fun m hm => by
  have : (BitVec.ofInt 64 (b : Int) &&& BitVec.ofInt 64 ((2 : Int) ^ m - 1)).toNat = b % 2 ^ m := by
   rw [BitVec.toNat_and,h0]
   rcases hm with rfl | rfl | rfl
   ·exact Nat.and_two_pow_sub_one_eq_mod b 3
   ·exact Nat.and_two_pow_sub_one_eq_mod b 4
   ·exact Nat.and_two_pow_sub_one_eq_mod b 5
  rw [this]
  have : b % 2 ^ m < 256 := Nat.lt_of_le_of_lt (Nat.mod_le _ _) hb
  exact zX (by omega) (by omega)
 rcases hz with rfl | rfl | rfl
 ·exact key 5 (by omega)
 ·exact key 4 (by omega)
 ·exact key 3 (by omega)
theorem partF_lt (s : List UInt8) (z : Nat) (hz : 2 ≤ z) : ∀ i,zfj s z i < 32 * 64 ^ i
 | 0 => by
  simp only [zfj]
  have : 2 ^ (7 - z) ≤ 2 ^ 5 := Nat.pow_le_pow_right (by omega) (by omega)
  have := Nat.mod_lt (at8 s 0) (y := 2 ^ (7 - z)) (Nat.pos_of_ne_zero (by simp))
  omega
 | i + 1 => by
  simp only [zfj,Nat.pow_succ]
  have := partF_lt s z hz i
  omega
theorem at8_some {s : List UInt8} {i : Nat} (h : i < s.length) : s[i]? = some s[i] ∧ (s[i].toNat : Int) = (at8 s i : Int) := by
 have : s[i]? = some s[i] := List.getElem?_eq_getElem h
 exact ⟨this,by simp [at8,this]⟩
theorem zdv {A B : Prop} (a : A) (b : B) : A ∧ B := ⟨a,b⟩
theorem gq25 {A P Q : Prop} (a : A) (h : Q) (e : A → P = Q := by intro a; simp -dsimp only [↓zey, ↓zau, ↓zbj, ↓zeA, ↓zes, ↓zeq, ↓zet, ↓zer, ↓zbo, ↓zbk, ↓zbp, ↓zbl, ↓zeu, ↓zbi, ↓zbq, ↓zbm, ↓zbr, ↓zbn, ↓zep, ↓zew, ↓zbh, ↓zbs, ↓zeg, ↓zef, ↓zeo,iN,bT,bF,eN, ↓zcS, ↓unC, ↓zW, ↓zK, ↓zL, ↓zN, ↓zZ, ↓zaw, ↓zbT, ↓zag, ↓zbu, ↓zP, ↓zq, ↓zo, ↓zby, ↓zl, ↓zaf, ↓zH, ↓zaC, ↓zaG, ↓ze, ↓zC, ↓zt, ↓zw, ↓zan, ↓zcC, ↓zdb, ↓zal, ↓zat, ↓zaF, ↓zaP, ↓zaW, ↓zu, ↓zai, ↓zM, ↓zA, ↓zaa,zdi,zbd,zba,unA,zdk,bnd,zdw,zac,zS,zdy,dm,dm1,zB,zak,zdP,zdO,zQ,Q0,Q1,Q2,Q3,Q4,Q5,zR,zr,zy,zO,zI,Q6,Q7,Q8,Q9,Q10,Q11,Q12,Q13,Q14,Nat.reduceAdd,Q15,Int.reduceToNat,Q16,Q17,Q18,Q19,Q20,reduceIte,Q21,Q22,zrI,zE,a]; rfl) : P := (e a).mpr h
theorem gq26 {A P Q : Prop} (a : A) (h : Q) (e : A → P = Q := by intro a; simp -dsimp only [↓zey, ↓zau, ↓zbj, ↓zeA, ↓zes, ↓zeq, ↓zet, ↓zer, ↓zbo, ↓zbk, ↓zbp, ↓zbl, ↓zeu, ↓zbi, ↓zbq, ↓zbm, ↓zbr, ↓zbn, ↓zep, ↓zew, ↓zbh, ↓zbs, ↓zeg, ↓zef, ↓zeo,iN,bT,bF,eN, ↓zcS, ↓unC, ↓zW, ↓zK, ↓zL, ↓zN, ↓zZ, ↓zaw, ↓zbT, ↓zag, ↓zbu, ↓zP, ↓zq, ↓zo, ↓zby, ↓zl, ↓zaf, ↓zH, ↓zaC, ↓zaG, ↓ze, ↓zC, ↓zt, ↓zw, ↓zan, ↓zcC, ↓zdb, ↓zal, ↓zat, ↓zaF, ↓zaP, ↓zaW, ↓zu, ↓zai, ↓zM, ↓zA, ↓zaa,zdi,zbd,zba,unA,zdk,bnd,zdw,zac,zS,zdy,dm,dm1,zB,zak,zdP,zdO,zQ,Q0,Q1,Q2,Q3,Q4,Q5,zR,zr,zy,zO,zI,Q6,Q7,Q8,Q9,Q10,Q11,Q12,Q13,Q14,Nat.reduceAdd,Q15,Int.reduceToNat,Q16,Q17,Q18,Q19,Q20,reduceIte,Q21,Q22,zE,rep,zV,zdG,toD,zab,Q23,Q24,Q25,Q26,Q27,Q28,Nat.reduceLeDiff,Q29,Nat.reduceSub,Q30,Q31,Q32,sc,Q33,Q34,Q35,a]; rfl) : P := (e a).mpr h
theorem c_rune1 {σ : List zg} {s : List UInt8} (hs : s.length ≤ 1073741824) (hne : s ≠ []) {K : KT} (hK : K (.tup [.d (.int .i64 (zin s).1), .d (.int .i64 (zin s).2)]) σ) : zD Tryz.prog zmv [.d (.str s)] σ K := by
 refine zj zrd.is rfl fun hl _ => zrd.goes ?_
 have hpos : 0 < s.length := List.length_pos_iff.2 hne
 obtain ⟨g1,g2⟩ := at8_some hpos
 have hb0 := zrw s 0
 (refine gq25 (zdv g1 g2) ?_; try with_reducible exact True.intro)
 refine ⟨by omega,c_rsize ?_⟩
 have hz4 : zkf (at8 s 0) = 0 ∨ zkf (at8 s 0) = 1 ∨ zkf (at8 s 0) = 2 ∨ zkf (at8 s 0) = 3 ∨ zkf (at8 s 0) = 4 := by
  unfold zkf; split <;> (try split) <;> (try split) <;> (try split) <;> omega
 obtain ⟨z,hz⟩ : ∃ z,z = zkf (at8 s 0) := ⟨_,rfl⟩
 rw [← hz] at hz4 ⊢
 have bad : z = 0 ∨ z > s.length → K (.tup [.d (.int .i64 0), .d (.int .i64 0)]) σ := fun h => by
  have : zin s = (0, 0) := by simp only [zin, ← hz]; rw [if_pos h]
  rw [this] at hK; exact hK
 (refine gq22 ?_; try with_reducible exact True.intro)
 refine zaJ (fun h => ?_) (fun h => ?_)
 all_goals (try (refine gq23 (zdv h (zdv g1 g2)) ?_; try with_reducible exact True.intro))
 ·(first | refine zaq hl ?_ | refine zap hl ?_)
  exact bad (.inl (by (try simp only [decide_eq_true_eq,decide_eq_false_iff_not,beq_iff_eq,beq_eq_false_iff_ne,bne_iff_ne,ne_eq,Bool.not_eq_true',Bool.not_eq_false',bne_eq_false_iff_eq] at *); omega))
 have hz0 : z ≠ 0 := by (try simp only [decide_eq_true_eq,decide_eq_false_iff_not,beq_iff_eq,beq_eq_false_iff_ne,bne_iff_ne,ne_eq,Bool.not_eq_true',Bool.not_eq_false',bne_eq_false_iff_eq] at *); omega
 refine zaJ (fun h => ?_) (fun h => ?_)
 all_goals (try (refine gq23 (zdv h (zdv g1 g2)) ?_; try with_reducible exact True.intro))
 ·(first | refine zaq hl ?_ | refine zap hl ?_)
  exact bad (.inr (by (try simp only [decide_eq_true_eq,decide_eq_false_iff_not,beq_iff_eq,beq_eq_false_iff_ne,bne_iff_ne,ne_eq,Bool.not_eq_true',Bool.not_eq_false',bne_eq_false_iff_eq] at *); omega))
 have hzl : z ≤ s.length := by (try simp only [decide_eq_true_eq,decide_eq_false_iff_not,beq_iff_eq,beq_eq_false_iff_ne,bne_iff_ne,ne_eq,Bool.not_eq_true',Bool.not_eq_false',bne_eq_false_iff_eq] at *); omega
 have hnb : ¬ (z = 0 ∨ z > s.length) := by omega
 refine zaJ (fun h => ?_) (fun h => ?_)
 all_goals (try (refine gq23 (zdv h (zdv g1 g2)) ?_; try with_reducible exact True.intro))
 ·have h1 : z = 1 := by (try simp only [decide_eq_true_eq,decide_eq_false_iff_not,beq_iff_eq,beq_eq_false_iff_ne,bne_iff_ne,ne_eq,Bool.not_eq_true',Bool.not_eq_false',bne_eq_false_iff_eq] at *); omega
  refine ⟨by omega, ?_⟩
  (first | refine zaq hl ?_ | refine zap hl ?_)
  have : zin s = (at8 s 0, 1) := by simp only [zin, ← hz]; rw [if_neg hnb,if_pos h1]
  rw [this] at hK
  simp only [zca,dmT,dm,dm1,List.map_cons,List.map_nil]
  rw [zX (by omega) (by omega)]
  exact hK
 have hz2 : z = 2 ∨ z = 3 ∨ z = 4 := by (try simp only [decide_eq_true_eq,decide_eq_false_iff_not,beq_iff_eq,beq_eq_false_iff_ne,bne_iff_ne,ne_eq,Bool.not_eq_true',Bool.not_eq_false',bne_eq_false_iff_eq] at *); omega
 have h1 : ¬ z = 1 := by omega
 refine ⟨by omega, ?_⟩
 have hw : IntKind.i64.wrap (at8 s 0 : Int) = (at8 s 0 : Int) := zX (by omega) (by omega)
 have hsh : (0 : Int) ≤ IntKind.i64.wrap (7 - (z : Int)) := by rw [zX (by omega) (by omega)]; omega
 refine ⟨hsh, ?_⟩
 rw [hw,mask_eq z hz2 _ hb0]
 refine zG z (fun k vs s' => s' = σ ∧ k + 1 ≤ z ∧ vs = [.d (.int .i64 (zfj s z k)), .d (.int .i64 (k + 1 : Nat))] ∧ ∀ i,i < k + 1 → 1 ≤ i → zoV s i = true) ⟨rfl,by omega,rfl,fun i h1 h2 => by omega⟩ ?_
 rintro k vs s' hk ⟨rfl,hk1,rfl,hcont⟩
 have hpl := partF_lt s z (by omega) k
 have hpow : 64 ^ k ≤ 64 ^ 3 := Nat.pow_le_pow_right (by omega) (by omega)
 (refine gq22 ?_; try with_reducible exact True.intro)
 have fail : (¬ ∀ i,i < z → 1 ≤ i → zoV s i = true) → K (.tup [.d (.int .i64 0), .d (.int .i64 0)]) s' := fun h => by
  have : zin s = (0, 0) := by simp only [zin, ← hz]; rw [if_neg hnb,if_neg h1,if_neg h]
  rw [this] at hK; exact hK
 refine zaJ (fun h => ?_) (fun h => ?_)
 ·have hkz : k + 1 < z := by (try simp only [decide_eq_true_eq,decide_eq_false_iff_not,beq_iff_eq,beq_eq_false_iff_ne,bne_iff_ne,ne_eq,Bool.not_eq_true',Bool.not_eq_false',bne_eq_false_iff_eq] at *); omega
  obtain ⟨f1,f2⟩ := at8_some (s := s) (i := k + 1) (by omega)
  have hb := zrw s (k + 1)
  repeat' first
   | (refine gq26 (zdv f1 f2) ?_; try with_reducible exact True.intro)
   | (refine zaJ (fun h => ?_) (fun h => ?_) <;> (try rw [h]))
   | ((with_reducible refine And.intro ?_ ?_); focus (first | omega | rfl | decide))
  ·(first | refine zaq hl ?_ | refine zap hl ?_)
   exact fail fun h' => by
    have := h' (k + 1) hkz (by omega)
    simp only [zoV] at this
    (try simp only [decide_eq_true_eq,decide_eq_false_iff_not,beq_iff_eq,beq_eq_false_iff_ne,bne_iff_ne,ne_eq,Bool.not_eq_true',Bool.not_eq_false',bne_eq_false_iff_eq] at *); omega
  ·(first | refine zaq hl ?_ | refine zap hl ?_)
   exact fail fun h' => by
    have := h' (k + 1) hkz (by omega)
    simp only [zoV] at this
    (try simp only [decide_eq_true_eq,decide_eq_false_iff_not,beq_iff_eq,beq_eq_false_iff_ne,bne_iff_ne,ne_eq,Bool.not_eq_true',Bool.not_eq_false',bne_eq_false_iff_eq] at *); omega
  have hv : IntKind.i64.wrap (IntKind.i64.wrap (↑(zfj s z k) * 64) + (IntKind.i64.wrap ↑(at8 s (k + 1))).tmod 64) = ((zfj s z (k + 1) : Nat) : Int) := by
   have hp2 : zfj s z k < 32 * 64 ^ 3 := by omega
   have e1 : IntKind.i64.wrap ((zfj s z k : Int) * 64) = (zfj s z k : Int) * 64 := zX (by omega) (by omega)
   have e2 : IntKind.i64.wrap (at8 s (k + 1) : Int) = (at8 s (k + 1) : Int) := zX (by omega) (by omega)
   have e3 : ((at8 s (k + 1) : Int)).tmod 64 = ((at8 s (k + 1) % 64 : Nat) : Int) := by rw [Int.tmod_eq_emod_of_nonneg (by omega)]; rfl
   rw [e1,e2,e3,zX (by omega) (by omega)]
   simp only [zfj]
   omega
  have hw2 : IntKind.i64.wrap (((k + 1 : Nat) : Int) + 1) = ((k + 1 + 1 : Nat) : Int) := by rw [zX (by omega) (by omega)]; rfl
  rw [hv,hw2]
  refine zav.next (by omega) ⟨rfl,by omega,rfl,fun i hi1 hi2 => ?_⟩
  by_cases hi : i < k + 1
  ·exact hcont i hi hi2
  ·obtain rfl : i = k + 1 := by omega
   simp only [zoV]
   (try simp only [decide_eq_true_eq,decide_eq_false_iff_not,beq_iff_eq,beq_eq_false_iff_ne,bne_iff_ne,ne_eq,Bool.not_eq_true',Bool.not_eq_false',bne_eq_false_iff_eq] at *); omega
 ·have hkz : k + 1 = z := by (try simp only [decide_eq_true_eq,decide_eq_false_iff_not,beq_iff_eq,beq_eq_false_iff_ne,bne_iff_ne,ne_eq,Bool.not_eq_true',Bool.not_eq_false',bne_eq_false_iff_eq] at *); omega
  have hall : ∀ i,i < z → 1 ≤ i → zoV s i = true := by rw [← hkz]; exact hcont
  have hdec : zin s = if zfj s z k < zeD z ∨ zfj s z k > 1114111 ∨ (55296 ≤ zfj s z k ∧ zfj s z k < 57344) then (0, 0) else (zfj s z k,z) := by
   have e : z - 1 = k := by omega
   simp only [zin, ← hz]
   rw [if_neg hnb,if_neg h1,if_pos hall,e]
  have hget : ∃ l : Nat,l = zeD z ∧ ([[D.int .i64 0], [D.int .i64 0], [D.int .i64 128], [D.int .i64 2048], [D.int .i64 65536]] : List (List D))[z]? = some [D.int .i64 l] := by
   rcases hz2 with rfl | rfl | rfl <;> exact ⟨_,rfl,rfl⟩
  obtain ⟨l,hl1,hl2⟩ := hget
  rw [← hl1] at hdec
  repeat' first
   | (refine gq26 hl2 ?_; try with_reducible exact True.intro)
   | (refine zaJ (fun h => ?_) (fun h => ?_) <;> (try rw [h]))
   | ((with_reducible refine And.intro ?_ ?_); focus (first | omega | rfl | decide))
  all_goals (first | refine zaq hl ?_ | refine zap hl ?_)
  all_goals (try simp only [decide_eq_true_eq,decide_eq_false_iff_not,beq_iff_eq,beq_eq_false_iff_ne,bne_iff_ne,ne_eq,Bool.not_eq_true',Bool.not_eq_false',bne_eq_false_iff_eq] at *)
  all_goals simp only [zca,dmT,dm,dm1,List.map_cons,List.map_nil]
  all_goals first
   | (rw [if_pos (by omega)] at hdec; rw [hdec] at hK; exact hK)
   | (rw [if_neg (by omega)] at hdec; rw [hdec] at hK; exact hK)
theorem badF_ref (v : Nat) : badF v = decide (v < 33 ∨ 127 ≤ v ∧ v < 160 ∨ v = 47 ∨ v = 65533) := by
 simp only [badF]; congr 1; apply propext; omega
theorem c_rRunes {σ : List zg} {s : List UInt8} (hs : s.length ≤ 1073741824) {K : KT} (hK : K (.d (.int .i64 (zfw s))) σ) : zD Tryz.prog zmw [.d (.str s)] σ K := by
 refine zj zre.is rfl fun hl _ => zre.goes ?_
 simp only [zrJ,iN,bT,bF,eN]
 refine zG s.length (fun pos vs s' => ∃ (cnt : Nat) (t : List UInt8),t.length + pos = s.length ∧ vs = [.d (.str t), .d (.int .i64 cnt)] ∧ s' = σ ∧ cnt ≤ pos ∧ cnt ≤ 16 ∧ zcV (s.length + 1) s = (zcV (s.length + 1) t).map (· + cnt)) ⟨0,s,rfl,rfl,rfl,by omega,by omega,by simp⟩ ?_
 rintro pos vs s' hp ⟨cnt,t,hlen,rfl,rfl,hc,hc16,hr⟩
 (refine gq22 ?_; try with_reducible exact True.intro)
 refine zaJ (fun h => ?_) (fun h => ?_)
 ·have ht : t ≠ [] := by rintro rfl; simp at h
  have htl : 0 < t.length := List.length_pos_iff.2 ht
  have hw2 := ziQ t
  have hcount : zcV (s.length + 1) t = if (zin t).2 = 0 ∨ badF (zin t).1 = true then none else (zcV s.length (t.drop (zin t).2)).map (· + 1) := by
   rw [zcV,if_neg ht]
  refine c_rune1 (by omega) ht ?_
  have stop : (zin t).2 = 0 ∨ badF (zin t).1 = true ∨ cnt = 16 → K (.d (.int .i64 0)) s' := fun hb => by
   have h0 : zfw s = 0 := by
    by_cases hq : (zin t).2 = 0 ∨ badF (zin t).1 = true
    ·simp [zfw,hr,hcount,if_pos hq]
    ·have hcn : cnt = 16 := by
      rcases hb with hb | hb | hb
      ·exact absurd (.inl hb) hq
      ·exact absurd (.inr hb) hq
      ·exact hb
     simp only [zfw,hr,hcount,if_neg hq]
     cases zcV s.length (t.drop (zin t).2) with
     | none => simp
     | some m => simp; omega
   rw [h0] at hK; exact hK
  (repeat' (first | (refine gq21 ?_; try with_reducible exact True.intro) | (refine zaJ (fun h => ?_) (fun h => ?_) <;> (try rw [h])) | ((with_reducible refine And.intro ?_ ?_); focus (first | omega | rfl | decide))))
  all_goals first
   | (
    (first | refine zaq hl ?_ | refine zap hl ?_)
    refine stop ?_
    rw [badF_ref,decide_eq_true_eq]
    (try simp only [decide_eq_true_eq,decide_eq_false_iff_not,beq_iff_eq,beq_eq_false_iff_ne,bne_iff_ne,ne_eq,Bool.not_eq_true',Bool.not_eq_false',bne_eq_false_iff_eq] at *)
    omega)
   | skip
  all_goals
   have hb : badF (zin t).1 = false := by
    rw [badF_ref,decide_eq_false_iff_not]
    (try simp only [decide_eq_true_eq,decide_eq_false_iff_not,beq_iff_eq,beq_eq_false_iff_ne,bne_iff_ne,ne_eq,Bool.not_eq_true',Bool.not_eq_false',bne_eq_false_iff_eq] at *)
    omega
   have h2 : (zin t).2 ≠ 0 := by (try simp only [decide_eq_true_eq,decide_eq_false_iff_not,beq_iff_eq,beq_eq_false_iff_ne,bne_iff_ne,ne_eq,Bool.not_eq_true',Bool.not_eq_false',bne_eq_false_iff_eq] at *); omega
   have hcl : cnt < 16 := by (try simp only [decide_eq_true_eq,decide_eq_false_iff_not,beq_iff_eq,beq_eq_false_iff_ne,bne_iff_ne,ne_eq,Bool.not_eq_true',Bool.not_eq_false',bne_eq_false_iff_eq] at *); omega
   rw [zX (by omega) (by omega)]
   refine zav.to (pos + (zin t).2) (by omega) (by omega) ⟨cnt + 1,t.drop (zin t).2,by simp; omega, ?_,rfl,by omega,by omega, ?_⟩
   ·simp
   ·rw [hr,hcount,if_neg (by simp [h2,hb]),zmG s.length (s.length + 1) _ (by simp; omega) (by simp; omega)]
    cases zcV (s.length + 1) (t.drop (zin t).2) <;> simp
    omega
 ·(first | refine zaq hl ?_ | refine zap hl ?_)
  have ht : t = [] := by
   have : ¬ 0 < t.length := by (try simp only [decide_eq_true_eq,decide_eq_false_iff_not,beq_iff_eq,beq_eq_false_iff_ne,bne_iff_ne,ne_eq,Bool.not_eq_true',Bool.not_eq_false',bne_eq_false_iff_eq] at *); omega
   exact List.length_eq_zero_iff.1 (by omega)
  have h0 : zfw s = cnt := by
   simp only [zfw,hr,ht]
   simp [zcV]
   omega
  rw [h0] at hK; exact hK
theorem c_rName {σ : List zg} {s : List UInt8} (hs : s.length ≤ 1073741824) {K : KT} (hK : K (.d (.bool (zdA s))) σ) : zD Tryz.prog zlv [.d (.str s)] σ K := by
 refine zj zsV.is rfl fun hl _ => zsV.goes ?_
 simp only [ztz,iN,bT,bF,eN]
 (refine gq22 ?_; try with_reducible exact True.intro)
 refine c_rRunes hs ?_
 (refine gq22 ?_; try with_reducible exact True.intro)
 (first | refine zaq hl ?_ | refine zap hl ?_)
 have : decide ((zfw s : Int) > 0) = zdA s := by simp [zdA]
 rw [this]; exact hK
end Go.Proofs.YtncpaekiidpchaaGreat

/- Contracts: which operations may be. -/
set_option maxRecDepth 100000
namespace Go.Proofs.YtncpaekiidpchaaGreat
open Go.AW
end Go.Proofs.YtncpaekiidpchaaGreat

/- Contracts: which operations may be, by the reference. -/
set_option maxRecDepth 100000
namespace Go.Proofs.YtncpaekiidpchaaGreat
open Go.AW
def zkG (k : Int) : Bool := decide (1 ≤ k ∧ k ≤ 4)
def znq (k : Int) : Bool := decide (k = 3)
def fOff (k : Int) : Bool := decide (k = 3 ∨ k = 4)
def zud (k : Int) : Bool := decide (k = 2)
theorem c_fields {σ : List zg} {k : Int} {K : KT} (hK : K (.tup [.d (.bool (zkG k)), .d (.bool (znq k)), .d (.bool (fOff k)), .d (.bool (zud k))]) σ) : zD Tryz.prog zhK [.d (.int .i64 k)] σ K := by
 refine zj zpu.is rfl fun hl _ => zpu.goes ?_
 simp only [zpJ,iN,bT,bF,eN]
 (repeat' (first | (refine gq21 ?_; try with_reducible exact True.intro) | (refine zaJ (fun h => ?_) (fun h => ?_) <;> (try rw [h])) | ((with_reducible refine And.intro ?_ ?_); focus (first | omega | rfl | decide))))
 all_goals (first | refine zaq hl ?_ | refine zap hl ?_)
 all_goals (try simp only [decide_eq_true_eq,decide_eq_false_iff_not,beq_iff_eq,beq_eq_false_iff_ne,bne_iff_ne,ne_eq,Bool.not_eq_true',Bool.not_eq_false',bne_eq_false_iff_eq] at *)
 all_goals
  simp only [zca,dmT,dm,dm1,List.map_cons,List.map_nil]
  have e : ∀ a b c d : Bool,zkG k = a → znq k = b → fOff k = c → zud k = d → K (.tup [.d (.bool a), .d (.bool b), .d (.bool c), .d (.bool d)]) σ := fun a b c d h1 h2 h3 h4 => by rw [← h1, ← h2, ← h3, ← h4]; exact hK
  clear hK
  apply e <;> simp [zkG,znq,fOff,zud] <;> omega
theorem onlyF_iff (o : TOp) : o = onlyF o ↔ (zkG o.kind = false → o.topic = []) ∧ (znq o.kind = false → o.group = []) ∧ (fOff o.kind = false → o.offset = 0) ∧ (zud o.kind = false → o.recs = []) := by
 obtain ⟨k,t,g,f,r⟩ := o
 simp only [onlyF,noOp,zkG,znq,fOff,zud,decide_eq_false_iff_not]
 by_cases h1 : k = 1
 ·subst h1; simp
 by_cases h2 : k = 2
 ·subst h2; simp
 by_cases h3 : k = 3
 ·subst h3; simp
 by_cases h4 : k = 4
 ·subst h4; simp
 ·have : ¬ (1 ≤ k ∧ k ≤ 4) := by omega
  simp [h1,h2,h3,h4,this]
set_option maxHeartbeats 2000000 in
theorem zuo {σ : List zg} {o : TOp} (ht : o.topic.length ≤ 1073741824) (hg : o.group.length ≤ 1073741824) (hr : o.recs.length ≤ 1073741824) {K : KT} (hK : K (.d (.int .i64 (zaQ zdA o))) σ) : zD Tryz.prog zgV [opA o] σ K := by
 refine zj zrf.is rfl fun hl _ => zrf.goes ?_
 simp only [zrK,iN,bT,bF,eN,opA]
 (refine gq21 ?_; try with_reducible exact True.intro)
 refine c_fields ?_
 have fin : ∀ z : Int,zaQ zdA o = z → K (.d (.int .i64 z)) σ := fun z hz => by rw [← hz]; exact hK
 have honly := onlyF_iff o
 have hkind : zkG o.kind = true → zhH o = true := by simp [zkG,zhH]; omega
 have hk1 : zkG o.kind = true ↔ (zhH o = true ∧ o.kind ≠ 0) := by simp [zkG,zhH]; omega
 have hk2 : znq o.kind = true ↔ o.kind = 3 := by simp [znq]
 have hk3 : zud o.kind = true ↔ o.kind = 2 := by simp [zud]
 have hk4 : zhH o = true ↔ (0 ≤ o.kind ∧ o.kind ≤ 4) := by simp [zhH]
 have hnil : o.recs = [] ↔ o.recs.length = 0 := List.length_eq_zero_iff.symm
 clear hK
 repeat' first
  | (refine gq21 ?_; try with_reducible exact True.intro)
  | refine c_rName ht ?_
  | refine c_rName hg ?_
  | (refine zaJ (fun h => ?_) (fun h => ?_) <;> (try rw [h]))
  | ((with_reducible refine And.intro ?_ ?_); focus (first | omega | rfl | decide))
 all_goals first
  | (
   (first | refine zaq hl ?_ | refine zap hl ?_)
   (try simp only [decide_eq_true_eq,decide_eq_false_iff_not,beq_iff_eq,beq_eq_false_iff_ne,bne_iff_ne,ne_eq,Bool.not_eq_true',Bool.not_eq_false',bne_eq_false_iff_eq] at *)
   simp only [zca,dmT,dm,dm1]
   apply fin
   grind [zaQ])
  | skip
 all_goals
  refine zG o.recs.length (fun k vs s => vs = [.d (.int .i64 k)] ∧ s = σ ++ [.box [.d (.int .i64 o.kind), .d (.str o.topic), .d (.str o.group), .d (.int .i64 o.offset), .d (.slice (zbU o.recs))]] ∧ ∀ r ∈ o.recs.take k, ¬ r.length > 64) ⟨rfl,rfl,by simp⟩ ?_
  rintro k vs s hk ⟨rfl,rfl,htk⟩
  (refine gq22 ?_; try with_reducible exact True.intro)
  refine zaJ (fun h => ?_) (fun h => ?_)
  ·have hka : k < o.recs.length := by (try simp only [decide_eq_true_eq,decide_eq_false_iff_not,beq_iff_eq,beq_eq_false_iff_ne,bne_iff_ne,ne_eq,Bool.not_eq_true',Bool.not_eq_false',bne_eq_false_iff_eq] at *); omega
   have hx : o.recs[k]? = some o.recs[k] := by simp [hka]
   have hmem : o.recs[k] ∈ o.recs := List.getElem_mem _
   have hbl : (bcs o.recs[k]).length = o.recs[k].length := by simp [bcs]
   (refine gq23 (zmZ hx) ?_; try with_reducible exact True.intro)
   refine And.intro (by omega) ?_
   refine zaJ (fun h => ?_) (fun h => ?_)
   ·have hany : (o.recs.any fun r => decide (r.length > 64)) = true := by
     rw [List.any_eq_true]
     exact ⟨_,hmem,by (try simp only [decide_eq_true_eq,decide_eq_false_iff_not,beq_iff_eq,beq_eq_false_iff_ne,bne_iff_ne,ne_eq,Bool.not_eq_true',Bool.not_eq_false',bne_eq_false_iff_eq] at *); omega⟩
    (first | refine zaq hl ?_ | refine zap hl ?_)
    (try simp only [decide_eq_true_eq,decide_eq_false_iff_not,beq_iff_eq,beq_eq_false_iff_ne,bne_iff_ne,ne_eq,Bool.not_eq_true',Bool.not_eq_false',bne_eq_false_iff_eq] at *)
    simp only [zca,dmT,dm,dm1]
    apply fin
    grind [zaQ]
   ·(refine gq22 ?_; try with_reducible exact True.intro)
    refine zav.next hka ⟨?_,rfl,fun r hr => ?_⟩
    ·rw [zX (by omega) (by omega)]; rfl
    ·rw [List.take_add_one,hx] at hr
     rcases List.mem_append.1 hr with hr | hr
     ·exact htk r hr
     ·have : r = o.recs[k] := by simpa using hr
      subst this
      (try simp only [decide_eq_true_eq,decide_eq_false_iff_not,beq_iff_eq,beq_eq_false_iff_ne,bne_iff_ne,ne_eq,Bool.not_eq_true',Bool.not_eq_false',bne_eq_false_iff_eq] at *)
      omega
  ·have hany : (o.recs.any fun r => decide (r.length > 64)) = false := by
    rw [List.any_eq_false]
    intro r hr
    have hk' : k = o.recs.length := by (try simp only [decide_eq_true_eq,decide_eq_false_iff_not,beq_iff_eq,beq_eq_false_iff_ne,bne_iff_ne,ne_eq,Bool.not_eq_true',Bool.not_eq_false',bne_eq_false_iff_eq] at *); omega
    rw [hk',List.take_length] at htk
    simpa using htk r hr
   clear htk
   (repeat' (first | (refine gq21 ?_; try with_reducible exact True.intro) | (refine zaJ (fun h => ?_) (fun h => ?_) <;> (try rw [h])) | ((with_reducible refine And.intro ?_ ?_); focus (first | omega | rfl | decide))))
   all_goals
    (first | refine zaq hl ?_ | refine zap hl ?_)
    (try simp only [decide_eq_true_eq,decide_eq_false_iff_not,beq_iff_eq,beq_eq_false_iff_ne,bne_iff_ne,ne_eq,Bool.not_eq_true',Bool.not_eq_false',bne_eq_false_iff_eq] at *)
    simp only [zca,dmT,dm,dm1]
    apply fin
    grind [zaQ]
end Go.Proofs.YtncpaekiidpchaaGreat

/- Contracts: an operation's bytes. -/
set_option maxRecDepth 100000
namespace Go.Proofs.YtncpaekiidpchaaGreat
open Go.AW
theorem u64_of {n : Int} (h : 0 ≤ n) (h2 : n < 9223372036854775808) : IntKind.u64.wrap n = (n.toNat : Int) := by
 obtain ⟨m,rfl⟩ := Int.eq_ofNat_of_zero_le h
 rw [Int.toNat_natCast]; exact zch (by omega)
theorem bytesE (s : List UInt8) : s.map zbK = bcs s := rfl
theorem gq27 {A P Q : Prop} (a : A) (h : Q) (e : A → P = Q := by intro a; simp -dsimp only [↓zey, ↓zau, ↓zbj, ↓zeA, ↓zes, ↓zeq, ↓zet, ↓zer, ↓zbo, ↓zbk, ↓zbp, ↓zbl, ↓zeu, ↓zbi, ↓zbq, ↓zbm, ↓zbr, ↓zbn, ↓zep, ↓zew, ↓zbh, ↓zbs, ↓zeg, ↓zef, ↓zeo,iN,bT,bF,eN, ↓zcS, ↓unC, ↓zW, ↓zK, ↓zL, ↓zN, ↓zZ, ↓zaw, ↓zbT, ↓zag, ↓zbu, ↓zP, ↓zq, ↓zo, ↓zby, ↓zl, ↓zaf, ↓zH, ↓zaC, ↓zaG, ↓ze, ↓zC, ↓zt, ↓zw, ↓zan, ↓zcC, ↓zdb, ↓zal, ↓zat, ↓zaF, ↓zaP, ↓zaW, ↓zu, ↓zai, ↓zM, ↓zA, ↓zaa,zdi,zbd,zba,unA,zdk,bnd,zdw,zac,zS,zdy,dm,dm1,zB,zak,zdP,zdO,zQ,Q0,Q1,Q2,Q3,Q4,Q5,zR,zr,zy,zO,zI,Q6,Q7,Q8,Q9,Q10,Q11,Q12,Q13,Q14,Nat.reduceAdd,Q15,Int.reduceToNat,Q16,Q17,Q18,Q19,Q20,reduceIte,Q21,Q22,zE,rep,zV,zdG,toD,zab,Q23,Q24,Q25,Q26,Q27,Q28,Nat.reduceLeDiff,Q29,Nat.reduceSub,Q30,Q31,Q32,sc,Q33,Q34,Q35,bytesE,a]; rfl) : P := (e a).mpr h
theorem c_rPut {σ : List zg} {b : List UInt8} {o : TOp} (hb : b.length ≤ 268435456) (ho : zjK o ≤ 268435456) {K : KT} (hK : K (.d (.slice (bcs (b ++ if zaQ zdA o = 0 then opB o else [])))) σ) :
  zD Tryz.prog zqE [.d (.slice (bcs b)),opA o] σ K := by
 refine zj e_r06_Put.is rfl fun hl _ => e_r06_Put.goes ?_
 have hsz := ho
 simp only [zjK] at hsz
 have hrl := zjk o.recs
 simp only [S_r06_Put,iN,bT,bF,eN,opA]
 (refine gq21 ?_; try with_reducible exact True.intro)
 refine zuo (o := o) (by omega) (by omega) (by omega) ?_
 (refine gq21 ?_; try with_reducible exact True.intro)
 refine zaJ (fun h => ?_) (fun h => ?_)
 ·(first | refine zaq hl ?_ | refine zap hl ?_)
  (try simp only [decide_eq_true_eq,decide_eq_false_iff_not,beq_iff_eq,beq_eq_false_iff_ne,bne_iff_ne,ne_eq,Bool.not_eq_true',Bool.not_eq_false',bne_eq_false_iff_eq] at *)
  rw [if_neg h,List.append_nil] at hK
  exact hK
 have hc : zaQ zdA o = 0 := by (try simp only [decide_eq_true_eq,decide_eq_false_iff_not,beq_iff_eq,beq_eq_false_iff_ne,bne_iff_ne,ne_eq,Bool.not_eq_true',Bool.not_eq_false',bne_eq_false_iff_eq] at *); omega
 obtain ⟨k0,k4,o0,o1,hon⟩ := check_ok hc
 rw [if_pos hc] at hK
 have hkn := zx (n := o.kind.toNat) (by omega)
 have hon' := zx (n := o.offset.toNat) (by omega)
 have hrn := zx (n := o.recs.length) (by omega)
 have htp := zeP (x := o.topic) (by omega)
 have hgp := zeP (x := o.group) (by omega)
 (refine gq26 (u64_of k0 (by omega)) ?_; try with_reducible exact True.intro)
 refine c_fields ?_
 (refine gq26 (u64_of k0 (by omega)) ?_; try with_reducible exact True.intro)
 refine zcx (by omega) (by omega) ?_
 have wo := u64_of o0 (by omega : o.offset < 9223372036854775808)
 have wl : IntKind.u64.wrap ((zbU o.recs).length : Int) = (o.recs.length : Int) := by rw [zE]; exact zch (by omega)
 have wl' : IntKind.u64.wrap (o.recs.length : Int) = (o.recs.length : Int) := zch (by omega)
 have f1 : zkG o.kind = true ↔ o.kind ≠ 0 := by simp [zkG]; omega
 have f2 : znq o.kind = true ↔ o.kind = 3 := by simp [znq]
 have f3 : fOff o.kind = true ↔ (o.kind = 3 ∨ o.kind = 4) := by simp [fOff]
 have f4 : zud o.kind = true ↔ o.kind = 2 := by simp [zud]
 repeat' first
  | (refine gq27 (zdv wo (zdv wl wl')) ?_; try with_reducible exact True.intro)
  | (refine zaJ (fun h => ?_) (fun h => ?_) <;> (try rw [h]))
  | ((with_reducible refine And.intro ?_ ?_); focus (first | omega | rfl | decide))
  | refine zfs (by omega) (by simp only [zna,List.length_append] at *; omega) ?_
  | refine zcx (by omega) (by simp only [zna,List.length_append] at *; omega) ?_
 -- the ways that end,those that can't be
 all_goals first
  | (exfalso; clear hK; grind)
  | (
   (first | refine zaq hl ?_ | refine zap hl ?_)
   (try simp only [decide_eq_true_eq,decide_eq_false_iff_not,beq_iff_eq,beq_eq_false_iff_ne,bne_iff_ne,ne_eq,Bool.not_eq_true',Bool.not_eq_false',bne_eq_false_iff_eq] at *)
   simp only [zca,dmT,dm,dm1]
   (first | rw [opB_0 (by grind)] at hK | rw [opB_1 (by grind)] at hK | rw [opB_3 (by grind)] at hK | rw [opB_4 (by grind)] at hK)
   exact hK)
  | skip
 -- the records
 have hk2 : o.kind = 2 := by grind
 rw [opB_2 hk2] at hK
 refine zG o.recs.length (fun k vs s => ∃ t τ,vs = [.own t (bcs (b ++ (zcm o.kind.toNat ++ (zcm o.topic.length ++ (o.topic ++ (zcm o.recs.length ++ zkh (o.recs.take k))))))), .d (.int .i64 k)] ∧ s = σ ++ .box [.d (.int .i64 o.kind), .d (.str o.topic), .d (.str o.group), .d (.int .i64 o.offset), .d (.slice (zbU o.recs))] :: τ)
  ⟨σ.length + 3,_,by rw [List.take_zero,show zkh [] = [] from rfl,List.append_nil]; rfl,rfl⟩ ?_
 rintro k vs s hk ⟨t, τ,rfl,rfl⟩
 (refine gq21 ?_; try with_reducible exact True.intro)
 refine zaJ (fun h => ?_) (fun h => ?_)
 ·have hka : k < o.recs.length := by (try simp only [decide_eq_true_eq,decide_eq_false_iff_not,beq_iff_eq,beq_eq_false_iff_ne,bne_iff_ne,ne_eq,Bool.not_eq_true',Bool.not_eq_false',bne_eq_false_iff_eq] at *); omega
  have hx : o.recs[k]? = some o.recs[k] := by simp [hka]
  have hle := rec_le (List.getElem_mem hka)
  have htl := zlM o.recs (by omega) k
  (refine gq26 (zmZ hx) ?_; try with_reducible exact True.intro)
  refine And.intro (by omega) (zfs (by omega) (by simp only [zna,List.length_append] at *; omega) ?_)
  (refine gq21 ?_; try with_reducible exact True.intro)
  refine zav.next hka ⟨σ.length + (τ.length + 1),_, ?_,rfl⟩
  rw [zX (by omega) (by omega),recsB_snoc hx]
  simp only [zna,List.append_assoc]
  rfl
 ·have hke : k = o.recs.length := by (try simp only [decide_eq_true_eq,decide_eq_false_iff_not,beq_iff_eq,beq_eq_false_iff_ne,bne_iff_ne,ne_eq,Bool.not_eq_true',Bool.not_eq_false',bne_eq_false_iff_eq] at *); omega
  subst hke
  (first | refine zaq hl ?_ | refine zap hl ?_)
  rw [List.take_length]
  exact hK
end Go.Proofs.YtncpaekiidpchaaGreat
