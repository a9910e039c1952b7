/- Contracts of operations: which are the same. -/
import Derived.Test.YtncpaekiidpchaaGreatCodec1
import Derived.Test.YtncpaekiidpchaaGreatCl1
import Derived.Test.YtncpaekiidpchaaGreatSpUtf
set_option linter.all false
set_option maxRecDepth 100000
namespace Go.Proofs.YtncpaekiidpchaaGreat
open Go.AW
end Go.Proofs.YtncpaekiidpchaaGreat

/- Contracts: runes and names. -/
set_option maxRecDepth 100000
namespace Go.Proofs.YtncpaekiidpchaaGreat
open Go.AW
theorem gq21 {P Q : Prop} (h : Q) (e : P = Q := by simp -dsimp only [↓zen, ↓zaw, ↓zba, ↓zeo, ↓zej, ↓zeh, ↓zek, ↓zei, ↓zbf, ↓zbb, ↓zbg, ↓zbc, ↓zel, ↓zaZ, ↓zbh, ↓zbd, ↓zbi, ↓zbe, ↓zeg, ↓zem, ↓zaY, ↓zbj, ↓zee, ↓zed, ↓zef,iN,bT,bF,eN, ↓zcI, ↓unC, ↓zV, ↓zJ, ↓zK, ↓zN, ↓zaa, ↓zas, ↓zbH, ↓zah, ↓zaV, ↓zQ, ↓zp, ↓zo, ↓zbr, ↓zk, ↓zag, ↓zG, ↓zaB, ↓zaF, ↓ze, ↓zE, ↓zr, ↓zw, ↓zam, ↓zcs, ↓zcM, ↓zak, ↓zat, ↓zaE, ↓zaJ, ↓zaP, ↓zu, ↓zai, ↓zL, ↓zA, ↓zab,zcT,zaU,zaT,unA,zcW,bnd,zds,zae,zR,zdv,dm,dm1,zC,zaj,zdH,zdG,zM,Q0,Q1,Q2,Q3,Q4,Q5,zT,zq,zx,zO,zI,Q6,Q7,Q8,Q9,Q10,Q11,Q12,Q13,Q14,Nat.reduceAdd,Q15,Int.reduceToNat,Q16,Q17,Q18,Q19,Q20,reduceIte,Q21,Q22,zF,rep,zY,zdD,toD,zad,Q23,Q24,Q25,Q26,Q27,Q28,Nat.reduceLeDiff,Q29,Nat.reduceSub,Q30,Q31,Q32,sc,Q33,Q34,Q35]; rfl) : P := e.mpr h
theorem gq22 {P Q : Prop} (h : Q) (e : P = Q := by simp -dsimp only [↓zen, ↓zaw, ↓zba, ↓zeo, ↓zej, ↓zeh, ↓zek, ↓zei, ↓zbf, ↓zbb, ↓zbg, ↓zbc, ↓zel, ↓zaZ, ↓zbh, ↓zbd, ↓zbi, ↓zbe, ↓zeg, ↓zem, ↓zaY, ↓zbj, ↓zee, ↓zed, ↓zef,iN,bT,bF,eN, ↓zcI, ↓unC, ↓zV, ↓zJ, ↓zK, ↓zN, ↓zaa, ↓zas, ↓zbH, ↓zah, ↓zaV, ↓zQ, ↓zp, ↓zo, ↓zbr, ↓zk, ↓zag, ↓zG, ↓zaB, ↓zaF, ↓ze, ↓zE, ↓zr, ↓zw, ↓zam, ↓zcs, ↓zcM, ↓zak, ↓zat, ↓zaE, ↓zaJ, ↓zaP, ↓zu, ↓zai, ↓zL, ↓zA, ↓zab,zcT,zaU,zaT,unA,zcW,bnd,zds,zae,zR,zdv,dm,dm1,zC,zaj,zdH,zdG,zM,Q0,Q1,Q2,Q3,Q4,Q5,zT,zq,zx,zO,zI,Q6,Q7,Q8,Q9,Q10,Q11,Q12,Q13,Q14,Nat.reduceAdd,Q15,Int.reduceToNat,Q16,Q17,Q18,Q19,Q20,reduceIte,Q21,Q22,zF]; rfl) : P := e.mpr h
theorem gq23 {A P Q : Prop} (a : A) (h : Q) (e : A → P = Q := by intro a; simp -dsimp only [↓zen, ↓zaw, ↓zba, ↓zeo, ↓zej, ↓zeh, ↓zek, ↓zei, ↓zbf, ↓zbb, ↓zbg, ↓zbc, ↓zel, ↓zaZ, ↓zbh, ↓zbd, ↓zbi, ↓zbe, ↓zeg, ↓zem, ↓zaY, ↓zbj, ↓zee, ↓zed, ↓zef,iN,bT,bF,eN, ↓zcI, ↓unC, ↓zV, ↓zJ, ↓zK, ↓zN, ↓zaa, ↓zas, ↓zbH, ↓zah, ↓zaV, ↓zQ, ↓zp, ↓zo, ↓zbr, ↓zk, ↓zag, ↓zG, ↓zaB, ↓zaF, ↓ze, ↓zE, ↓zr, ↓zw, ↓zam, ↓zcs, ↓zcM, ↓zak, ↓zat, ↓zaE, ↓zaJ, ↓zaP, ↓zu, ↓zai, ↓zL, ↓zA, ↓zab,zcT,zaU,zaT,unA,zcW,bnd,zds,zae,zR,zdv,dm,dm1,zC,zaj,zdH,zdG,zM,Q0,Q1,Q2,Q3,Q4,Q5,zT,zq,zx,zO,zI,Q6,Q7,Q8,Q9,Q10,Q11,Q12,Q13,Q14,Nat.reduceAdd,Q15,Int.reduceToNat,Q16,Q17,Q18,Q19,Q20,reduceIte,Q21,Q22,zF,a]; rfl) : P := (e a).mpr h
theorem c_Runes {σ : List zh} {s : List UInt8} (hs : s.length ≤ 1073741824) {K : KT} (hK : K (.d (.int .i64 (zfQ s))) σ) : zy Tryz.prog zpm [.d (.str s)] σ K := by
 refine zi zuk.is rfl fun hl _ => zuk.goes ?_
 simp only [zuX,iN,bT,bF,eN,zai]
 refine zB s.length (fun pos vs s' => ∃ cnt : Nat,vs = [.d (.int .i64 cnt)] ∧ s' = σ ++ [.iter s pos] ∧ pos ≤ s.length ∧ cnt ≤ pos ∧ zdc (s.length + 1) s = (zdc (s.length + 1) (s.drop pos)).map (· + cnt)) ⟨0,rfl,rfl,by omega,by omega,by simp⟩ ?_
 rintro pos vs s' hp ⟨cnt,rfl,rfl,hps,hc,hr⟩
 simp only [zu,znM,zx,List.getElem?_cons_zero]
 split
 ·rename_i hlt
  have hd : s.drop pos ≠ [] := by intro e; have := congrArg List.length e; simp at this; omega
  have hw := goDec_width _ hd
  have hw2 := zjs (s.drop pos)
  simp only [decode_eq s pos hlt]
  have hcount : zdc (s.length + 1) (s.drop pos) = if (ziP (s.drop pos)).2 = 0 ∨ badF (ziP (s.drop pos)).1 = true then none else (zdc s.length ((s.drop pos).drop (ziP (s.drop pos)).2)).map (· + 1) := by
   rw [zdc,if_neg hd]
  (repeat' (first | (refine gq21 ?_; try with_reducible exact True.intro) | (refine zaK (fun h => ?_) (fun h => ?_) <;> (try rw [h])) | ((with_reducible refine And.intro ?_ ?_); focus (first | omega | rfl | decide))))
  all_goals first
   | (
    (first | refine zX hl ?_ | refine zW hl ?_)
    have hb : badF (znS (s.drop pos)).1 = true := by
     simp only [badF]
     (try simp only [decide_eq_true_eq,decide_eq_false_iff_not,beq_iff_eq,beq_eq_false_iff_ne,bne_iff_ne,ne_eq,Bool.not_eq_true',Bool.not_eq_false',bne_eq_false_iff_eq] at *)
     omega
    rw [goDec_bad] at hb
    have : zdc (s.length + 1) (s.drop pos) = none := by rw [hcount,if_pos (by simpa using hb)]
    have h0 : zfQ s = 0 := by simp [zfQ,hr,this]
    rw [h0] at hK; exact hK)
   | skip
  all_goals
   have hb : badF (znS (s.drop pos)).1 = false := by
    simp only [badF]
    (try simp only [decide_eq_true_eq,decide_eq_false_iff_not,beq_iff_eq,beq_eq_false_iff_ne,bne_iff_ne,ne_eq,Bool.not_eq_true',Bool.not_eq_false',bne_eq_false_iff_eq] at *)
    omega
   obtain ⟨g1,g2,g3⟩ := goDec_good hb
   rw [zP (by omega) (by omega)]
   refine zap.to (pos + (znS (s.drop pos)).2) (by omega) (by simp at hw; omega) ⟨cnt + 1,rfl,rfl,by simp at hw; omega,by omega, ?_⟩
   rw [hr,hcount,if_neg (by simp [g2,g3]),g1,List.drop_drop,zns s.length (s.length + 1) _ (by simp at *; omega) (by simp; omega)]
   cases zdc (s.length + 1) (List.drop (pos + (ziP (s.drop pos)).2) s) <;> simp
   omega
 ·rename_i hlt
  have e : s.drop pos = [] := List.drop_eq_nil_of_le (by omega)
  have hcnt : zdc (s.length + 1) s = some cnt := by rw [hr,e]; simp [zdc]
  (refine gq22 ?_; try with_reducible exact True.intro)
  refine zaK (fun h => ?_) (fun h => ?_)
  all_goals (try (refine gq23 h ?_; try with_reducible exact True.intro))
  ·(first | refine zX hl ?_ | refine zW hl ?_)
   have h0 : zfQ s = 0 := by simp [zfQ,hcnt]; simp at h; omega
   rw [h0] at hK; exact hK
  ·(first | refine zX hl ?_ | refine zW hl ?_)
   have h0 : zfQ s = cnt := by simp [zfQ,hcnt]; simp at h; omega
   rw [h0] at hK; exact hK
theorem gq24 {P Q : Prop} (h : Q) (e : P = Q := by simp -dsimp only [↓zen, ↓zaw, ↓zba, ↓zeo, ↓zej, ↓zeh, ↓zek, ↓zei, ↓zbf, ↓zbb, ↓zbg, ↓zbc, ↓zel, ↓zaZ, ↓zbh, ↓zbd, ↓zbi, ↓zbe, ↓zeg, ↓zem, ↓zaY, ↓zbj, ↓zee, ↓zed, ↓zef,iN,bT,bF,eN, ↓zcI, ↓unC, ↓zV, ↓zJ, ↓zK, ↓zN, ↓zaa, ↓zas, ↓zbH, ↓zah, ↓zaV, ↓zQ, ↓zp, ↓zo, ↓zbr, ↓zk, ↓zag, ↓zG, ↓zaB, ↓zaF, ↓ze, ↓zE, ↓zr, ↓zw, ↓zam, ↓zcs, ↓zcM, ↓zak, ↓zat, ↓zaE, ↓zaJ, ↓zaP, ↓zu, ↓zai, ↓zL, ↓zA, ↓zab,zcT,zaU,zaT,unA,zcW,bnd,zds,zae,zR,zdv,dm,dm1,zC,zaj,zdH,zdG,zM,Q0,Q1,Q2,Q3,Q4,Q5,zT,zq,zx,zO,zI,Q6,Q7,Q8,Q9,Q10,Q11,Q12,Q13,Q14,Nat.reduceAdd,Q15,Int.reduceToNat,Q16,Q17,Q18,Q19,Q20,reduceIte,Q21,Q22,S_op_Name,zF]; rfl) : P := e.mpr h
theorem c_Name {σ : List zh} {s : List UInt8} (hs : s.length ≤ 1073741824) {K : KT} (hK : K (.d (.bool (zeY s))) σ) : zy Tryz.prog zrz [.d (.str s)] σ K := by
 refine zi e_op_Name.is rfl fun hl _ => e_op_Name.goes ?_
 (refine gq24 ?_; try with_reducible exact True.intro)
 refine c_Runes hs ?_
 (refine gq22 ?_; try with_reducible exact True.intro)
 (first | refine zX hl ?_ | refine zW hl ?_)
 have : decide ((zfQ s : Int) > 0) = zeY s := by simp [zeY]
 rw [this]; exact hK
end Go.Proofs.YtncpaekiidpchaaGreat

/- Contracts: the reference's runes and names. -/
set_option maxRecDepth 100000
namespace Go.Proofs.YtncpaekiidpchaaGreat
open Go.AW
theorem c_rsize {σ : List zh} {c : Nat} {K : KT} (hK : K (.d (.int .i64 (zkP c))) σ) : zy Tryz.prog zpi [.d (.int .u8 c)] σ K := by
 refine zi zud.is rfl fun hl _ => zud.goes ?_
 simp only [zuQ,iN,bT,bF,eN]
 (repeat' (first | (refine gq21 ?_; try with_reducible exact True.intro) | (refine zaK (fun h => ?_) (fun h => ?_) <;> (try rw [h])) | ((with_reducible refine And.intro ?_ ?_); focus (first | omega | rfl | decide))))
 all_goals (first | refine zX hl ?_ | refine zW hl ?_)
 all_goals (try simp only [decide_eq_true_eq,decide_eq_false_iff_not,beq_iff_eq,beq_eq_false_iff_ne,bne_iff_ne,ne_eq,Bool.not_eq_true',Bool.not_eq_false',bne_eq_false_iff_eq] at *)
 all_goals
  simp only [zcf,dmT,dm,dm1]
  have e : ∀ z : Nat,zkP c = z → K (.d (.int .i64 z)) σ := fun z hz => by rw [← hz]; exact hK
  first
  | exact e 0 (by unfold zkP; rw [if_neg (by omega),if_neg (by omega),if_neg (by omega),if_neg (by omega)])
  | exact e 1 (by unfold zkP; rw [if_pos (by omega)])
  | exact e 2 (by unfold zkP; rw [if_neg (by omega),if_pos (by omega)])
  | exact e 3 (by unfold zkP; rw [if_neg (by omega),if_neg (by omega),if_pos (by omega)])
  | exact e 4 (by unfold zkP; rw [if_neg (by omega),if_neg (by omega),if_neg (by omega),if_pos (by omega)])
theorem mask_eq (z : Nat) (hz : z = 2 ∨ z = 3 ∨ z = 4) (b : Nat) (hb : b < 256) :
  IntKind.i64.wrap ↑(BitVec.ofInt IntKind.i64.bits (b : Int) &&& BitVec.ofInt IntKind.i64.bits (IntKind.i64.wrap (IntKind.i64.wrap (1 * 2 ^ (min (IntKind.i64.wrap (7 - (z : Int))).toNat IntKind.i64.bits)) - 1))).toNat = ((b % 2 ^ (7 - z) : Nat) : Int) := by
 have h0 : (BitVec.ofInt 64 (b : Int)).toNat = b := by simp; omega
 have key : ∀ m : Nat,(m = 3 ∨ m = 4 ∨ m = 5) → IntKind.i64.wrap ↑(BitVec.ofInt 64 (b : Int) &&& BitVec.ofInt 64 ((2 : Int) ^ m - 1)).toNat = ((b % 2 ^ m : Nat) : Int) := fun m hm => by
  have : (BitVec.ofInt 64 (b : Int) &&& BitVec.ofInt 64 ((2 : Int) ^ m - 1)).toNat = b % 2 ^ m := by
   rw [BitVec.toNat_and,h0]
   rcases hm with rfl | rfl | rfl
   ·exact Nat.and_two_pow_sub_one_eq_mod b 3
   ·exact Nat.and_two_pow_sub_one_eq_mod b 4
   ·exact Nat.and_two_pow_sub_one_eq_mod b 5
  rw [this]
  have : b % 2 ^ m < 256 := Nat.lt_of_le_of_lt (Nat.mod_le _ _) hb
  exact zP (by omega) (by omega)
 rcases hz with rfl | rfl | rfl
 ·exact key 5 (by omega)
 ·exact key 4 (by omega)
 ·exact key 3 (by omega)
theorem partF_lt (s : List UInt8) (z : Nat) (hz : 2 ≤ z) : ∀ i,zfx s z i < 32 * 64 ^ i
 | 0 => by
  simp only [zfx]
  have : 2 ^ (7 - z) ≤ 2 ^ 5 := Nat.pow_le_pow_right (by omega) (by omega)
  have := Nat.mod_lt (at8 s 0) (y := 2 ^ (7 - z)) (Nat.pos_of_ne_zero (by simp))
  omega
 | i + 1 => by
  simp only [zfx,Nat.pow_succ]
  have := partF_lt s z hz i
  omega
theorem at8_some {s : List UInt8} {i : Nat} (h : i < s.length) : s[i]? = some s[i] ∧ (s[i].toNat : Int) = (at8 s i : Int) := by
 have : s[i]? = some s[i] := List.getElem?_eq_getElem h
 exact ⟨this,by simp [at8,this]⟩
theorem zbz {A B : Prop} (a : A) (b : B) : A ∧ B := ⟨a,b⟩
theorem gq25 {A P Q : Prop} (a : A) (h : Q) (e : A → P = Q := by intro a; simp -dsimp only [↓zen, ↓zaw, ↓zba, ↓zeo, ↓zej, ↓zeh, ↓zek, ↓zei, ↓zbf, ↓zbb, ↓zbg, ↓zbc, ↓zel, ↓zaZ, ↓zbh, ↓zbd, ↓zbi, ↓zbe, ↓zeg, ↓zem, ↓zaY, ↓zbj, ↓zee, ↓zed, ↓zef,iN,bT,bF,eN, ↓zcI, ↓unC, ↓zV, ↓zJ, ↓zK, ↓zN, ↓zaa, ↓zas, ↓zbH, ↓zah, ↓zaV, ↓zQ, ↓zp, ↓zo, ↓zbr, ↓zk, ↓zag, ↓zG, ↓zaB, ↓zaF, ↓ze, ↓zE, ↓zr, ↓zw, ↓zam, ↓zcs, ↓zcM, ↓zak, ↓zat, ↓zaE, ↓zaJ, ↓zaP, ↓zu, ↓zai, ↓zL, ↓zA, ↓zab,zcT,zaU,zaT,unA,zcW,bnd,zds,zae,zR,zdv,dm,dm1,zC,zaj,zdH,zdG,zM,Q0,Q1,Q2,Q3,Q4,Q5,zT,zq,zx,zO,zI,Q6,Q7,Q8,Q9,Q10,Q11,Q12,Q13,Q14,Nat.reduceAdd,Q15,Int.reduceToNat,Q16,Q17,Q18,Q19,Q20,reduceIte,Q21,Q22,zsL,zF,a]; rfl) : P := (e a).mpr h
theorem gq26 {A P Q : Prop} (a : A) (h : Q) (e : A → P = Q := by intro a; simp -dsimp only [↓zen, ↓zaw, ↓zba, ↓zeo, ↓zej, ↓zeh, ↓zek, ↓zei, ↓zbf, ↓zbb, ↓zbg, ↓zbc, ↓zel, ↓zaZ, ↓zbh, ↓zbd, ↓zbi, ↓zbe, ↓zeg, ↓zem, ↓zaY, ↓zbj, ↓zee, ↓zed, ↓zef,iN,bT,bF,eN, ↓zcI, ↓unC, ↓zV, ↓zJ, ↓zK, ↓zN, ↓zaa, ↓zas, ↓zbH, ↓zah, ↓zaV, ↓zQ, ↓zp, ↓zo, ↓zbr, ↓zk, ↓zag, ↓zG, ↓zaB, ↓zaF, ↓ze, ↓zE, ↓zr, ↓zw, ↓zam, ↓zcs, ↓zcM, ↓zak, ↓zat, ↓zaE, ↓zaJ, ↓zaP, ↓zu, ↓zai, ↓zL, ↓zA, ↓zab,zcT,zaU,zaT,unA,zcW,bnd,zds,zae,zR,zdv,dm,dm1,zC,zaj,zdH,zdG,zM,Q0,Q1,Q2,Q3,Q4,Q5,zT,zq,zx,zO,zI,Q6,Q7,Q8,Q9,Q10,Q11,Q12,Q13,Q14,Nat.reduceAdd,Q15,Int.reduceToNat,Q16,Q17,Q18,Q19,Q20,reduceIte,Q21,Q22,zF,rep,zY,zdD,toD,zad,Q23,Q24,Q25,Q26,Q27,Q28,Nat.reduceLeDiff,Q29,Nat.reduceSub,Q30,Q31,Q32,sc,Q33,Q34,Q35,a]; rfl) : P := (e a).mpr h
theorem c_rune1 {σ : List zh} {s : List UInt8} (hs : s.length ≤ 1073741824) (hne : s ≠ []) {K : KT} (hK : K (.tup [.d (.int .i64 (ziP s).1), .d (.int .i64 (ziP s).2)]) σ) : zy Tryz.prog zni [.d (.str s)] σ K := by
 refine zi zsa.is rfl fun hl _ => zsa.goes ?_
 have hpos : 0 < s.length := List.length_pos_iff.2 hne
 obtain ⟨g1,g2⟩ := at8_some hpos
 have hb0 := zsx s 0
 (refine gq25 (zbz g1 g2) ?_; try with_reducible exact True.intro)
 refine ⟨by omega,c_rsize ?_⟩
 have hz4 : zkP (at8 s 0) = 0 ∨ zkP (at8 s 0) = 1 ∨ zkP (at8 s 0) = 2 ∨ zkP (at8 s 0) = 3 ∨ zkP (at8 s 0) = 4 := by
  unfold zkP; split <;> (try split) <;> (try split) <;> (try split) <;> omega
 obtain ⟨z,hz⟩ : ∃ z,z = zkP (at8 s 0) := ⟨_,rfl⟩
 rw [← hz] at hz4 ⊢
 have bad : z = 0 ∨ z > s.length → K (.tup [.d (.int .i64 0), .d (.int .i64 0)]) σ := fun h => by
  have : ziP s = (0, 0) := by simp only [ziP, ← hz]; rw [if_pos h]
  rw [this] at hK; exact hK
 (refine gq22 ?_; try with_reducible exact True.intro)
 refine zaK (fun h => ?_) (fun h => ?_)
 all_goals (try (refine gq23 (zbz h (zbz g1 g2)) ?_; try with_reducible exact True.intro))
 ·(first | refine zX hl ?_ | refine zW hl ?_)
  exact bad (.inl (by (try simp only [decide_eq_true_eq,decide_eq_false_iff_not,beq_iff_eq,beq_eq_false_iff_ne,bne_iff_ne,ne_eq,Bool.not_eq_true',Bool.not_eq_false',bne_eq_false_iff_eq] at *); omega))
 have hz0 : z ≠ 0 := by (try simp only [decide_eq_true_eq,decide_eq_false_iff_not,beq_iff_eq,beq_eq_false_iff_ne,bne_iff_ne,ne_eq,Bool.not_eq_true',Bool.not_eq_false',bne_eq_false_iff_eq] at *); omega
 refine zaK (fun h => ?_) (fun h => ?_)
 all_goals (try (refine gq23 (zbz h (zbz g1 g2)) ?_; try with_reducible exact True.intro))
 ·(first | refine zX hl ?_ | refine zW hl ?_)
  exact bad (.inr (by (try simp only [decide_eq_true_eq,decide_eq_false_iff_not,beq_iff_eq,beq_eq_false_iff_ne,bne_iff_ne,ne_eq,Bool.not_eq_true',Bool.not_eq_false',bne_eq_false_iff_eq] at *); omega))
 have hzl : z ≤ s.length := by (try simp only [decide_eq_true_eq,decide_eq_false_iff_not,beq_iff_eq,beq_eq_false_iff_ne,bne_iff_ne,ne_eq,Bool.not_eq_true',Bool.not_eq_false',bne_eq_false_iff_eq] at *); omega
 have hnb : ¬ (z = 0 ∨ z > s.length) := by omega
 refine zaK (fun h => ?_) (fun h => ?_)
 all_goals (try (refine gq23 (zbz h (zbz g1 g2)) ?_; try with_reducible exact True.intro))
 ·have h1 : z = 1 := by (try simp only [decide_eq_true_eq,decide_eq_false_iff_not,beq_iff_eq,beq_eq_false_iff_ne,bne_iff_ne,ne_eq,Bool.not_eq_true',Bool.not_eq_false',bne_eq_false_iff_eq] at *); omega
  refine ⟨by omega, ?_⟩
  (first | refine zX hl ?_ | refine zW hl ?_)
  have : ziP s = (at8 s 0, 1) := by simp only [ziP, ← hz]; rw [if_neg hnb,if_pos h1]
  rw [this] at hK
  simp only [zcf,dmT,dm,dm1,List.map_cons,List.map_nil]
  rw [zP (by omega) (by omega)]
  exact hK
 have hz2 : z = 2 ∨ z = 3 ∨ z = 4 := by (try simp only [decide_eq_true_eq,decide_eq_false_iff_not,beq_iff_eq,beq_eq_false_iff_ne,bne_iff_ne,ne_eq,Bool.not_eq_true',Bool.not_eq_false',bne_eq_false_iff_eq] at *); omega
 have h1 : ¬ z = 1 := by omega
 refine ⟨by omega, ?_⟩
 have hw : IntKind.i64.wrap (at8 s 0 : Int) = (at8 s 0 : Int) := zP (by omega) (by omega)
 have hsh : (0 : Int) ≤ IntKind.i64.wrap (7 - (z : Int)) := by rw [zP (by omega) (by omega)]; omega
 refine ⟨hsh, ?_⟩
 rw [hw,mask_eq z hz2 _ hb0]
 refine zB z (fun k vs s' => s' = σ ∧ k + 1 ≤ z ∧ vs = [.d (.int .i64 (zfx s z k)), .d (.int .i64 (k + 1 : Nat))] ∧ ∀ i,i < k + 1 → 1 ≤ i → zpE s i = true) ⟨rfl,by omega,rfl,fun i h1 h2 => by omega⟩ ?_
 rintro k vs s' hk ⟨rfl,hk1,rfl,hcont⟩
 have hpl := partF_lt s z (by omega) k
 have hpow : 64 ^ k ≤ 64 ^ 3 := Nat.pow_le_pow_right (by omega) (by omega)
 (refine gq22 ?_; try with_reducible exact True.intro)
 have fail : (¬ ∀ i,i < z → 1 ≤ i → zpE s i = true) → K (.tup [.d (.int .i64 0), .d (.int .i64 0)]) s' := fun h => by
  have : ziP s = (0, 0) := by simp only [ziP, ← hz]; rw [if_neg hnb,if_neg h1,if_neg h]
  rw [this] at hK; exact hK
 refine zaK (fun h => ?_) (fun h => ?_)
 ·have hkz : k + 1 < z := by (try simp only [decide_eq_true_eq,decide_eq_false_iff_not,beq_iff_eq,beq_eq_false_iff_ne,bne_iff_ne,ne_eq,Bool.not_eq_true',Bool.not_eq_false',bne_eq_false_iff_eq] at *); omega
  obtain ⟨f1,f2⟩ := at8_some (s := s) (i := k + 1) (by omega)
  have hb := zsx s (k + 1)
  repeat' first
   | (refine gq26 (zbz f1 f2) ?_; try with_reducible exact True.intro)
   | (refine zaK (fun h => ?_) (fun h => ?_) <;> (try rw [h]))
   | ((with_reducible refine And.intro ?_ ?_); focus (first | omega | rfl | decide))
  ·(first | refine zX hl ?_ | refine zW hl ?_)
   exact fail fun h' => by
    have := h' (k + 1) hkz (by omega)
    simp only [zpE] at this
    (try simp only [decide_eq_true_eq,decide_eq_false_iff_not,beq_iff_eq,beq_eq_false_iff_ne,bne_iff_ne,ne_eq,Bool.not_eq_true',Bool.not_eq_false',bne_eq_false_iff_eq] at *); omega
  ·(first | refine zX hl ?_ | refine zW hl ?_)
   exact fail fun h' => by
    have := h' (k + 1) hkz (by omega)
    simp only [zpE] at this
    (try simp only [decide_eq_true_eq,decide_eq_false_iff_not,beq_iff_eq,beq_eq_false_iff_ne,bne_iff_ne,ne_eq,Bool.not_eq_true',Bool.not_eq_false',bne_eq_false_iff_eq] at *); omega
  have hv : IntKind.i64.wrap (IntKind.i64.wrap (↑(zfx s z k) * 64) + (IntKind.i64.wrap ↑(at8 s (k + 1))).tmod 64) = ((zfx s z (k + 1) : Nat) : Int) := by
   have hp2 : zfx s z k < 32 * 64 ^ 3 := by omega
   have e1 : IntKind.i64.wrap ((zfx s z k : Int) * 64) = (zfx s z k : Int) * 64 := zP (by omega) (by omega)
   have e2 : IntKind.i64.wrap (at8 s (k + 1) : Int) = (at8 s (k + 1) : Int) := zP (by omega) (by omega)
   have e3 : ((at8 s (k + 1) : Int)).tmod 64 = ((at8 s (k + 1) % 64 : Nat) : Int) := by rw [Int.tmod_eq_emod_of_nonneg (by omega)]; rfl
   rw [e1,e2,e3,zP (by omega) (by omega)]
   simp only [zfx]
   omega
  have hw2 : IntKind.i64.wrap (((k + 1 : Nat) : Int) + 1) = ((k + 1 + 1 : Nat) : Int) := by rw [zP (by omega) (by omega)]; rfl
  rw [hv,hw2]
  refine zap.next (by omega) ⟨rfl,by omega,rfl,fun i hi1 hi2 => ?_⟩
  by_cases hi : i < k + 1
  ·exact hcont i hi hi2
  ·obtain rfl : i = k + 1 := by omega
   simp only [zpE]
   (try simp only [decide_eq_true_eq,decide_eq_false_iff_not,beq_iff_eq,beq_eq_false_iff_ne,bne_iff_ne,ne_eq,Bool.not_eq_true',Bool.not_eq_false',bne_eq_false_iff_eq] at *); omega
 ·have hkz : k + 1 = z := by (try simp only [decide_eq_true_eq,decide_eq_false_iff_not,beq_iff_eq,beq_eq_false_iff_ne,bne_iff_ne,ne_eq,Bool.not_eq_true',Bool.not_eq_false',bne_eq_false_iff_eq] at *); omega
  have hall : ∀ i,i < z → 1 ≤ i → zpE s i = true := by rw [← hkz]; exact hcont
  have hdec : ziP s = if zfx s z k < zeQ z ∨ zfx s z k > 1114111 ∨ (55296 ≤ zfx s z k ∧ zfx s z k < 57344) then (0, 0) else (zfx s z k,z) := by
   have e : z - 1 = k := by omega
   simp only [ziP, ← hz]
   rw [if_neg hnb,if_neg h1,if_pos hall,e]
  have hget : ∃ l : Nat,l = zeQ z ∧ ([[D.int .i64 0], [D.int .i64 0], [D.int .i64 128], [D.int .i64 2048], [D.int .i64 65536]] : List (List D))[z]? = some [D.int .i64 l] := by
   rcases hz2 with rfl | rfl | rfl <;> exact ⟨_,rfl,rfl⟩
  obtain ⟨l,hl1,hl2⟩ := hget
  rw [← hl1] at hdec
  repeat' first
   | (refine gq26 hl2 ?_; try with_reducible exact True.intro)
   | (refine zaK (fun h => ?_) (fun h => ?_) <;> (try rw [h]))
   | ((with_reducible refine And.intro ?_ ?_); focus (first | omega | rfl | decide))
  all_goals (first | refine zX hl ?_ | refine zW hl ?_)
  all_goals (try simp only [decide_eq_true_eq,decide_eq_false_iff_not,beq_iff_eq,beq_eq_false_iff_ne,bne_iff_ne,ne_eq,Bool.not_eq_true',Bool.not_eq_false',bne_eq_false_iff_eq] at *)
  all_goals simp only [zcf,dmT,dm,dm1,List.map_cons,List.map_nil]
  all_goals first
   | (rw [if_pos (by omega)] at hdec; rw [hdec] at hK; exact hK)
   | (rw [if_neg (by omega)] at hdec; rw [hdec] at hK; exact hK)
theorem badF_ref (v : Nat) : badF v = decide (v < 33 ∨ 127 ≤ v ∧ v < 160 ∨ v = 47 ∨ v = 65533) := by
 simp only [badF]; congr 1; apply propext; omega
theorem c_rRunes {σ : List zh} {s : List UInt8} (hs : s.length ≤ 1073741824) {K : KT} (hK : K (.d (.int .i64 (zfQ s))) σ) : zy Tryz.prog znj [.d (.str s)] σ K := by
 refine zi zsb.is rfl fun hl _ => zsb.goes ?_
 simp only [zsM,iN,bT,bF,eN]
 refine zB s.length (fun pos vs s' => ∃ (cnt : Nat) (t : List UInt8),t.length + pos = s.length ∧ vs = [.d (.str t), .d (.int .i64 cnt)] ∧ s' = σ ∧ cnt ≤ pos ∧ cnt ≤ 16 ∧ zdc (s.length + 1) s = (zdc (s.length + 1) t).map (· + cnt)) ⟨0,s,rfl,rfl,rfl,by omega,by omega,by simp⟩ ?_
 rintro pos vs s' hp ⟨cnt,t,hlen,rfl,rfl,hc,hc16,hr⟩
 (refine gq22 ?_; try with_reducible exact True.intro)
 refine zaK (fun h => ?_) (fun h => ?_)
 ·have ht : t ≠ [] := by rintro rfl; simp at h
  have htl : 0 < t.length := List.length_pos_iff.2 ht
  have hw2 := zjs t
  have hcount : zdc (s.length + 1) t = if (ziP t).2 = 0 ∨ badF (ziP t).1 = true then none else (zdc s.length (t.drop (ziP t).2)).map (· + 1) := by
   rw [zdc,if_neg ht]
  refine c_rune1 (by omega) ht ?_
  have stop : (ziP t).2 = 0 ∨ badF (ziP t).1 = true ∨ cnt = 16 → K (.d (.int .i64 0)) s' := fun hb => by
   have h0 : zfQ s = 0 := by
    by_cases hq : (ziP t).2 = 0 ∨ badF (ziP t).1 = true
    ·simp [zfQ,hr,hcount,if_pos hq]
    ·have hcn : cnt = 16 := by
      rcases hb with hb | hb | hb
      ·exact absurd (.inl hb) hq
      ·exact absurd (.inr hb) hq
      ·exact hb
     simp only [zfQ,hr,hcount,if_neg hq]
     cases zdc s.length (t.drop (ziP t).2) with
     | none => simp
     | some m => simp; omega
   rw [h0] at hK; exact hK
  (repeat' (first | (refine gq21 ?_; try with_reducible exact True.intro) | (refine zaK (fun h => ?_) (fun h => ?_) <;> (try rw [h])) | ((with_reducible refine And.intro ?_ ?_); focus (first | omega | rfl | decide))))
  all_goals first
   | (
    (first | refine zX hl ?_ | refine zW hl ?_)
    refine stop ?_
    rw [badF_ref,decide_eq_true_eq]
    (try simp only [decide_eq_true_eq,decide_eq_false_iff_not,beq_iff_eq,beq_eq_false_iff_ne,bne_iff_ne,ne_eq,Bool.not_eq_true',Bool.not_eq_false',bne_eq_false_iff_eq] at *)
    omega)
   | skip
  all_goals
   have hb : badF (ziP t).1 = false := by
    rw [badF_ref,decide_eq_false_iff_not]
    (try simp only [decide_eq_true_eq,decide_eq_false_iff_not,beq_iff_eq,beq_eq_false_iff_ne,bne_iff_ne,ne_eq,Bool.not_eq_true',Bool.not_eq_false',bne_eq_false_iff_eq] at *)
    omega
   have h2 : (ziP t).2 ≠ 0 := by (try simp only [decide_eq_true_eq,decide_eq_false_iff_not,beq_iff_eq,beq_eq_false_iff_ne,bne_iff_ne,ne_eq,Bool.not_eq_true',Bool.not_eq_false',bne_eq_false_iff_eq] at *); omega
   have hcl : cnt < 16 := by (try simp only [decide_eq_true_eq,decide_eq_false_iff_not,beq_iff_eq,beq_eq_false_iff_ne,bne_iff_ne,ne_eq,Bool.not_eq_true',Bool.not_eq_false',bne_eq_false_iff_eq] at *); omega
   rw [zP (by omega) (by omega)]
   refine zap.to (pos + (ziP t).2) (by omega) (by omega) ⟨cnt + 1,t.drop (ziP t).2,by simp; omega, ?_,rfl,by omega,by omega, ?_⟩
   ·simp
   ·rw [hr,hcount,if_neg (by simp [h2,hb]),zns s.length (s.length + 1) _ (by simp; omega) (by simp; omega)]
    cases zdc (s.length + 1) (t.drop (ziP t).2) <;> simp
    omega
 ·(first | refine zX hl ?_ | refine zW hl ?_)
  have ht : t = [] := by
   have : ¬ 0 < t.length := by (try simp only [decide_eq_true_eq,decide_eq_false_iff_not,beq_iff_eq,beq_eq_false_iff_ne,bne_iff_ne,ne_eq,Bool.not_eq_true',Bool.not_eq_false',bne_eq_false_iff_eq] at *); omega
   exact List.length_eq_zero_iff.1 (by omega)
  have h0 : zfQ s = cnt := by
   simp only [zfQ,hr,ht]
   simp [zdc]
   omega
  rw [h0] at hK; exact hK
theorem c_rName {σ : List zh} {s : List UInt8} (hs : s.length ≤ 1073741824) {K : KT} (hK : K (.d (.bool (zeY s))) σ) : zy Tryz.prog ziZ [.d (.str s)] σ K := by
 refine zi zue.is rfl fun hl _ => zue.goes ?_
 simp only [zuR,iN,bT,bF,eN]
 (refine gq22 ?_; try with_reducible exact True.intro)
 refine c_rRunes hs ?_
 (refine gq22 ?_; try with_reducible exact True.intro)
 (first | refine zX hl ?_ | refine zW hl ?_)
 have : decide ((zfQ s : Int) > 0) = zeY s := by simp [zeY]
 rw [this]; exact hK
end Go.Proofs.YtncpaekiidpchaaGreat

/- Contracts: which operations may be. -/
set_option maxRecDepth 100000
namespace Go.Proofs.YtncpaekiidpchaaGreat
open Go.AW
end Go.Proofs.YtncpaekiidpchaaGreat

/- Contracts: which operations may be, by the reference. -/
set_option maxRecDepth 100000
namespace Go.Proofs.YtncpaekiidpchaaGreat
open Go.AW
def zlr (k : Int) : Bool := decide (1 ≤ k ∧ k ≤ 4)
def znW (k : Int) : Bool := decide (k = 3)
def fOff (k : Int) : Bool := decide (k = 3 ∨ k = 4)
def zvu (k : Int) : Bool := decide (k = 2)
theorem c_fields {σ : List zh} {k : Int} {K : KT} (hK : K (.tup [.d (.bool (zlr k)), .d (.bool (znW k)), .d (.bool (fOff k)), .d (.bool (zvu k))]) σ) : zy Tryz.prog zik [.d (.int .i64 k)] σ K := by
 refine zi zqc.is rfl fun hl _ => zqc.goes ?_
 simp only [zqv,iN,bT,bF,eN]
 (repeat' (first | (refine gq21 ?_; try with_reducible exact True.intro) | (refine zaK (fun h => ?_) (fun h => ?_) <;> (try rw [h])) | ((with_reducible refine And.intro ?_ ?_); focus (first | omega | rfl | decide))))
 all_goals (first | refine zX hl ?_ | refine zW hl ?_)
 all_goals (try simp only [decide_eq_true_eq,decide_eq_false_iff_not,beq_iff_eq,beq_eq_false_iff_ne,bne_iff_ne,ne_eq,Bool.not_eq_true',Bool.not_eq_false',bne_eq_false_iff_eq] at *)
 all_goals
  simp only [zcf,dmT,dm,dm1,List.map_cons,List.map_nil]
  have e : ∀ a b c d : Bool,zlr k = a → znW k = b → fOff k = c → zvu k = d → K (.tup [.d (.bool a), .d (.bool b), .d (.bool c), .d (.bool d)]) σ := fun a b c d h1 h2 h3 h4 => by rw [← h1, ← h2, ← h3, ← h4]; exact hK
  clear hK
  apply e <;> simp [zlr,znW,fOff,zvu] <;> omega
theorem onlyF_iff (o : TOp) : o = onlyF o ↔ (zlr o.kind = false → o.topic = []) ∧ (znW o.kind = false → o.group = []) ∧ (fOff o.kind = false → o.offset = 0) ∧ (zvu o.kind = false → o.recs = []) := by
 obtain ⟨k,t,g,f,r⟩ := o
 simp only [onlyF,noOp,zlr,znW,fOff,zvu,decide_eq_false_iff_not]
 by_cases h1 : k = 1
 ·subst h1; simp
 by_cases h2 : k = 2
 ·subst h2; simp
 by_cases h3 : k = 3
 ·subst h3; simp
 by_cases h4 : k = 4
 ·subst h4; simp
 ·have : ¬ (1 ≤ k ∧ k ≤ 4) := by omega
  simp [h1,h2,h3,h4,this]
set_option maxHeartbeats 2000000 in
theorem zvG {σ : List zh} {o : TOp} (ht : o.topic.length ≤ 1073741824) (hg : o.group.length ≤ 1073741824) (hr : o.recs.length ≤ 1073741824) {K : KT} (hK : K (.d (.int .i64 (zby zeY o))) σ) : zy Tryz.prog zhs [opA o] σ K := by
 refine zi zsc.is rfl fun hl _ => zsc.goes ?_
 simp only [zsN,iN,bT,bF,eN,opA]
 (refine gq21 ?_; try with_reducible exact True.intro)
 refine c_fields ?_
 have fin : ∀ z : Int,zby zeY o = z → K (.d (.int .i64 z)) σ := fun z hz => by rw [← hz]; exact hK
 have honly := onlyF_iff o
 have hkind : zlr o.kind = true → zih o = true := by simp [zlr,zih]; omega
 have hk1 : zlr o.kind = true ↔ (zih o = true ∧ o.kind ≠ 0) := by simp [zlr,zih]; omega
 have hk2 : znW o.kind = true ↔ o.kind = 3 := by simp [znW]
 have hk3 : zvu o.kind = true ↔ o.kind = 2 := by simp [zvu]
 have hk4 : zih o = true ↔ (0 ≤ o.kind ∧ o.kind ≤ 4) := by simp [zih]
 have hnil : o.recs = [] ↔ o.recs.length = 0 := List.length_eq_zero_iff.symm
 clear hK
 repeat' first
  | (refine gq21 ?_; try with_reducible exact True.intro)
  | refine c_rName ht ?_
  | refine c_rName hg ?_
  | (refine zaK (fun h => ?_) (fun h => ?_) <;> (try rw [h]))
  | ((with_reducible refine And.intro ?_ ?_); focus (first | omega | rfl | decide))
 all_goals first
  | (
   (first | refine zX hl ?_ | refine zW hl ?_)
   (try simp only [decide_eq_true_eq,decide_eq_false_iff_not,beq_iff_eq,beq_eq_false_iff_ne,bne_iff_ne,ne_eq,Bool.not_eq_true',Bool.not_eq_false',bne_eq_false_iff_eq] at *)
   simp only [zcf,dmT,dm,dm1]
   apply fin
   grind [zby])
  | skip
 all_goals
  refine zB o.recs.length (fun k vs s => vs = [.d (.int .i64 k)] ∧ s = σ ++ [.box [.d (.int .i64 o.kind), .d (.str o.topic), .d (.str o.group), .d (.int .i64 o.offset), .d (.slice (zbZ o.recs))]] ∧ ∀ r ∈ o.recs.take k, ¬ r.length > 64) ⟨rfl,rfl,by simp⟩ ?_
  rintro k vs s hk ⟨rfl,rfl,htk⟩
  (refine gq22 ?_; try with_reducible exact True.intro)
  refine zaK (fun h => ?_) (fun h => ?_)
  ·have hka : k < o.recs.length := by (try simp only [decide_eq_true_eq,decide_eq_false_iff_not,beq_iff_eq,beq_eq_false_iff_ne,bne_iff_ne,ne_eq,Bool.not_eq_true',Bool.not_eq_false',bne_eq_false_iff_eq] at *); omega
   have hx : o.recs[k]? = some o.recs[k] := by simp [hka]
   have hmem : o.recs[k] ∈ o.recs := List.getElem_mem _
   have hbl : (bcs o.recs[k]).length = o.recs[k].length := by simp [bcs]
   (refine gq23 (znH hx) ?_; try with_reducible exact True.intro)
   refine And.intro (by omega) ?_
   refine zaK (fun h => ?_) (fun h => ?_)
   ·have hany : (o.recs.any fun r => decide (r.length > 64)) = true := by
     rw [List.any_eq_true]
     exact ⟨_,hmem,by (try simp only [decide_eq_true_eq,decide_eq_false_iff_not,beq_iff_eq,beq_eq_false_iff_ne,bne_iff_ne,ne_eq,Bool.not_eq_true',Bool.not_eq_false',bne_eq_false_iff_eq] at *); omega⟩
    (first | refine zX hl ?_ | refine zW hl ?_)
    (try simp only [decide_eq_true_eq,decide_eq_false_iff_not,beq_iff_eq,beq_eq_false_iff_ne,bne_iff_ne,ne_eq,Bool.not_eq_true',Bool.not_eq_false',bne_eq_false_iff_eq] at *)
    simp only [zcf,dmT,dm,dm1]
    apply fin
    grind [zby]
   ·(refine gq22 ?_; try with_reducible exact True.intro)
    refine zap.next hka ⟨?_,rfl,fun r hr => ?_⟩
    ·rw [zP (by omega) (by omega)]; rfl
    ·rw [List.take_add_one,hx] at hr
     rcases List.mem_append.1 hr with hr | hr
     ·exact htk r hr
     ·have : r = o.recs[k] := by simpa using hr
      subst this
      (try simp only [decide_eq_true_eq,decide_eq_false_iff_not,beq_iff_eq,beq_eq_false_iff_ne,bne_iff_ne,ne_eq,Bool.not_eq_true',Bool.not_eq_false',bne_eq_false_iff_eq] at *)
      omega
  ·have hany : (o.recs.any fun r => decide (r.length > 64)) = false := by
    rw [List.any_eq_false]
    intro r hr
    have hk' : k = o.recs.length := by (try simp only [decide_eq_true_eq,decide_eq_false_iff_not,beq_iff_eq,beq_eq_false_iff_ne,bne_iff_ne,ne_eq,Bool.not_eq_true',Bool.not_eq_false',bne_eq_false_iff_eq] at *); omega
    rw [hk',List.take_length] at htk
    simpa using htk r hr
   clear htk
   (repeat' (first | (refine gq21 ?_; try with_reducible exact True.intro) | (refine zaK (fun h => ?_) (fun h => ?_) <;> (try rw [h])) | ((with_reducible refine And.intro ?_ ?_); focus (first | omega | rfl | decide))))
   all_goals
    (first | refine zX hl ?_ | refine zW hl ?_)
    (try simp only [decide_eq_true_eq,decide_eq_false_iff_not,beq_iff_eq,beq_eq_false_iff_ne,bne_iff_ne,ne_eq,Bool.not_eq_true',Bool.not_eq_false',bne_eq_false_iff_eq] at *)
    simp only [zcf,dmT,dm,dm1]
    apply fin
    grind [zby]
end Go.Proofs.YtncpaekiidpchaaGreat

/- Contracts: an operation's bytes. -/
set_option maxRecDepth 100000
namespace Go.Proofs.YtncpaekiidpchaaGreat
open Go.AW
theorem u64_of {n : Int} (h : 0 ≤ n) (h2 : n < 9223372036854775808) : IntKind.u64.wrap n = (n.toNat : Int) := by
 obtain ⟨m,rfl⟩ := Int.eq_ofNat_of_zero_le h
 rw [Int.toNat_natCast]; exact zcn (by omega)
theorem bytesE (s : List UInt8) : s.map zbO = bcs s := rfl
theorem gq27 {A P Q : Prop} (a : A) (h : Q) (e : A → P = Q := by intro a; simp -dsimp only [↓zen, ↓zaw, ↓zba, ↓zeo, ↓zej, ↓zeh, ↓zek, ↓zei, ↓zbf, ↓zbb, ↓zbg, ↓zbc, ↓zel, ↓zaZ, ↓zbh, ↓zbd, ↓zbi, ↓zbe, ↓zeg, ↓zem, ↓zaY, ↓zbj, ↓zee, ↓zed, ↓zef,iN,bT,bF,eN, ↓zcI, ↓unC, ↓zV, ↓zJ, ↓zK, ↓zN, ↓zaa, ↓zas, ↓zbH, ↓zah, ↓zaV, ↓zQ, ↓zp, ↓zo, ↓zbr, ↓zk, ↓zag, ↓zG, ↓zaB, ↓zaF, ↓ze, ↓zE, ↓zr, ↓zw, ↓zam, ↓zcs, ↓zcM, ↓zak, ↓zat, ↓zaE, ↓zaJ, ↓zaP, ↓zu, ↓zai, ↓zL, ↓zA, ↓zab,zcT,zaU,zaT,unA,zcW,bnd,zds,zae,zR,zdv,dm,dm1,zC,zaj,zdH,zdG,zM,Q0,Q1,Q2,Q3,Q4,Q5,zT,zq,zx,zO,zI,Q6,Q7,Q8,Q9,Q10,Q11,Q12,Q13,Q14,Nat.reduceAdd,Q15,Int.reduceToNat,Q16,Q17,Q18,Q19,Q20,reduceIte,Q21,Q22,zF,rep,zY,zdD,toD,zad,Q23,Q24,Q25,Q26,Q27,Q28,Nat.reduceLeDiff,Q29,Nat.reduceSub,Q30,Q31,Q32,sc,Q33,Q34,Q35,bytesE,a]; rfl) : P := (e a).mpr h
theorem c_rPut {σ : List zh} {b : List UInt8} {o : TOp} (hb : b.length ≤ 268435456) (ho : zkT o ≤ 268435456) {K : KT} (hK : K (.d (.slice (bcs (b ++ if zby zeY o = 0 then opB o else [])))) σ) :
  zy Tryz.prog zry [.d (.slice (bcs b)),opA o] σ K := by
 refine zi e_r06_Put.is rfl fun hl _ => e_r06_Put.goes ?_
 have hsz := ho
 simp only [zkT] at hsz
 have hrl := zjP o.recs
 simp only [S_r06_Put,iN,bT,bF,eN,opA]
 (refine gq21 ?_; try with_reducible exact True.intro)
 refine zvG (o := o) (by omega) (by omega) (by omega) ?_
 (refine gq21 ?_; try with_reducible exact True.intro)
 refine zaK (fun h => ?_) (fun h => ?_)
 ·(first | refine zX hl ?_ | refine zW hl ?_)
  (try simp only [decide_eq_true_eq,decide_eq_false_iff_not,beq_iff_eq,beq_eq_false_iff_ne,bne_iff_ne,ne_eq,Bool.not_eq_true',Bool.not_eq_false',bne_eq_false_iff_eq] at *)
  rw [if_neg h,List.append_nil] at hK
  exact hK
 have hc : zby zeY o = 0 := by (try simp only [decide_eq_true_eq,decide_eq_false_iff_not,beq_iff_eq,beq_eq_false_iff_ne,bne_iff_ne,ne_eq,Bool.not_eq_true',Bool.not_eq_false',bne_eq_false_iff_eq] at *); omega
 obtain ⟨k0,k4,o0,o1,hon⟩ := check_ok hc
 rw [if_pos hc] at hK
 have hkn := zD (n := o.kind.toNat) (by omega)
 have hon' := zD (n := o.offset.toNat) (by omega)
 have hrn := zD (n := o.recs.length) (by omega)
 have htp := zeX (x := o.topic) (by omega)
 have hgp := zeX (x := o.group) (by omega)
 (refine gq26 (u64_of k0 (by omega)) ?_; try with_reducible exact True.intro)
 refine c_fields ?_
 (refine gq26 (u64_of k0 (by omega)) ?_; try with_reducible exact True.intro)
 refine zcC (by omega) (by omega) ?_
 have wo := u64_of o0 (by omega : o.offset < 9223372036854775808)
 have wl : IntKind.u64.wrap ((zbZ o.recs).length : Int) = (o.recs.length : Int) := by rw [zF]; exact zcn (by omega)
 have wl' : IntKind.u64.wrap (o.recs.length : Int) = (o.recs.length : Int) := zcn (by omega)
 have f1 : zlr o.kind = true ↔ o.kind ≠ 0 := by simp [zlr]; omega
 have f2 : znW o.kind = true ↔ o.kind = 3 := by simp [znW]
 have f3 : fOff o.kind = true ↔ (o.kind = 3 ∨ o.kind = 4) := by simp [fOff]
 have f4 : zvu o.kind = true ↔ o.kind = 2 := by simp [zvu]
 repeat' first
  | (refine gq27 (zbz wo (zbz wl wl')) ?_; try with_reducible exact True.intro)
  | (refine zaK (fun h => ?_) (fun h => ?_) <;> (try rw [h]))
  | ((with_reducible refine And.intro ?_ ?_); focus (first | omega | rfl | decide))
  | refine zfK (by omega) (by simp only [znI,List.length_append] at *; omega) ?_
  | refine zcC (by omega) (by simp only [znI,List.length_append] at *; omega) ?_
 -- the ways that end,those that can't be
 all_goals first
  | (exfalso; clear hK; grind)
  | (
   (first | refine zX hl ?_ | refine zW hl ?_)
   (try simp only [decide_eq_true_eq,decide_eq_false_iff_not,beq_iff_eq,beq_eq_false_iff_ne,bne_iff_ne,ne_eq,Bool.not_eq_true',Bool.not_eq_false',bne_eq_false_iff_eq] at *)
   simp only [zcf,dmT,dm,dm1]
   (first | rw [opB_0 (by grind)] at hK | rw [opB_1 (by grind)] at hK | rw [opB_3 (by grind)] at hK | rw [opB_4 (by grind)] at hK)
   exact hK)
  | skip
 -- the records
 have hk2 : o.kind = 2 := by grind
 rw [opB_2 hk2] at hK
 refine zB o.recs.length (fun k vs s => ∃ t τ,vs = [.own t (bcs (b ++ (zcr o.kind.toNat ++ (zcr o.topic.length ++ (o.topic ++ (zcr o.recs.length ++ zkQ (o.recs.take k))))))), .d (.int .i64 k)] ∧ s = σ ++ .box [.d (.int .i64 o.kind), .d (.str o.topic), .d (.str o.group), .d (.int .i64 o.offset), .d (.slice (zbZ o.recs))] :: τ)
  ⟨σ.length + 3,_,by rw [List.take_zero,show zkQ [] = [] from rfl,List.append_nil]; rfl,rfl⟩ ?_
 rintro k vs s hk ⟨t, τ,rfl,rfl⟩
 (refine gq21 ?_; try with_reducible exact True.intro)
 refine zaK (fun h => ?_) (fun h => ?_)
 ·have hka : k < o.recs.length := by (try simp only [decide_eq_true_eq,decide_eq_false_iff_not,beq_iff_eq,beq_eq_false_iff_ne,bne_iff_ne,ne_eq,Bool.not_eq_true',Bool.not_eq_false',bne_eq_false_iff_eq] at *); omega
  have hx : o.recs[k]? = some o.recs[k] := by simp [hka]
  have hle := rec_le (List.getElem_mem hka)
  have htl := zmB o.recs (by omega) k
  (refine gq26 (znH hx) ?_; try with_reducible exact True.intro)
  refine And.intro (by omega) (zfK (by omega) (by simp only [znI,List.length_append] at *; omega) ?_)
  (refine gq21 ?_; try with_reducible exact True.intro)
  refine zap.next hka ⟨σ.length + (τ.length + 1),_, ?_,rfl⟩
  rw [zP (by omega) (by omega),recsB_snoc hx]
  simp only [znI,List.append_assoc]
  rfl
 ·have hke : k = o.recs.length := by (try simp only [decide_eq_true_eq,decide_eq_false_iff_not,beq_iff_eq,beq_eq_false_iff_ne,bne_iff_ne,ne_eq,Bool.not_eq_true',Bool.not_eq_false',bne_eq_false_iff_eq] at *); omega
  subst hke
  (first | refine zX hl ?_ | refine zW hl ?_)
  rw [List.take_length]
  exact hK
end Go.Proofs.YtncpaekiidpchaaGreat
