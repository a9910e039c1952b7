/- Contracts: the reader's small methods. -/
import Derived.Test.YthpnelbciibjeaaGreatCodec1
import Derived.Test.YthpnelbciibjeaaGreatSpTake
import Derived.Test.YthpnelbciibjeaaGreatBk1
import Derived.Test.YthpnelbciibjeaaGreatOp1
import Derived.Test.YthpnelbciibjeaaGreatAwFrz
set_option linter.all false
set_option maxRecDepth 100000
set_option linter.unusedSimpArgs false
namespace Go.Proofs.YthpnelbciibjeaaGreat
open Go.AW

def rdO (c : AV) (e : Int) : zc := .box [c, .d (.int .i64 e), .d (.bool true)]
theorem zhc {n : Nat} {c : AV} {e : Int} (h : Low n c) : LowO n (rdO c e) := by
  intro x hx
  simp only [List.mem_cons, List.not_mem_nil, or_false] at hx
  rcases hx with rfl | rfl | rfl
  · exact h
  · exact .d _
  · exact .d _
theorem zlA {σ : List zc} {id : Nat} {c : AV} {e : Int} (hl : zeZ σ.length σ) (h : σ[id]? = some (rdO c e)) : Low σ.length c := hl id _ h c (.head _)
def Cell (c : AV) (B : List UInt8) : Prop := c = .d (.slice (bcs B)) ∨ ∃ t, c = .own t (bcs B)
theorem gq30 {A P Q : Prop} (a : A) (h : Q) (e : A → P = Q := by intro a; simp -dsimp only [↓zit, ↓zbj, ↓zcR, ↓ziu, ↓zik, ↓zii, ↓zil, ↓zij, ↓zcW, ↓zcS, ↓zcX, ↓zcT, ↓zim, ↓zcN, ↓zcY, ↓zcU, ↓zcZ, ↓zcV, ↓zig, ↓zis, ↓zcL, ↓zda, ↓zic, ↓zib, ↓zif, iN, bT, bF, eN, ↓zet, ↓unC, ↓zW, ↓zR, ↓zS, ↓zY, ↓zaD, ↓zbk, ↓zdA, ↓zac, ↓zcB, ↓zaz, ↓zr, ↓zm, ↓zcr, ↓zh, ↓zau, ↓zab, ↓zbl, ↓zbi, ↓zd, ↓zK, ↓zn, ↓zI, ↓zay, ↓zeF, ↓zfd, ↓zaf, ↓zaT, ↓zba, ↓zbx, ↓zcd, ↓zG, ↓zav, ↓zO, ↓zC, ↓zaC, zeX, zcz, zcq, unA, zeU, bnd, zgc, zaj, zat, zfI, dm, dm1, zA, zaQ, zgP, zgO, zal, Q0, Q1, Q2, Q3, Q4, Q5, zaB, zy, zq, zar, zU, Q6, Q7, Q8, Q9, Q10, Q11, Q12, Q13, Q14, Nat.reduceAdd, Q15, Int.reduceToNat, Q16, Q17, Q18, Q19, Q20, reduceIte, Q21, Q22, zE, rep, zT, zgz, toD, zae, Q23, Q24, Q25, Q26, Q27, Q28, Nat.reduceLeDiff, Q29, Nat.reduceSub, Q30, Q31, Q32, sc, Q33, Q34, Q35, Bool.and_false, Bool.and_self, Bool.false_and, Bool.not_false, Bool.not_true, Bool.true_and, Int.toNat_natCast, Int.toNat_zero, List.drop_zero, List.length_map, List.length_nil, List.nil_append, List.take_length, Nat.sub_zero, Nat.zero_add, Option.isSome_none, Option.isSome_some, Option.map_none, Option.map_some, zaN, beq_self_eq_true, bne_self_eq_false, a]; rfl) : P := (e a).mpr h
theorem zkI {σ : List zc} {id : Nat} {c : AV} {e : Int} (hσ : σ[id]? = some (rdO c e)) {K : AV → List zc → Prop} (hK : K (.d (.bool (e != 0))) σ) : zt Tryz.prog zaM [.box id 0] σ K := by
  refine ziI zir fun hl => ?_
  rw [rdO] at hσ
  simp only [zeQ, iN, bT, bF, eN]
  (refine gq30 hσ ?_; try with_reducible exact True.intro)
  refine zcg hl ?_
  exact hK
theorem c_Err {σ : List zc} {id : Nat} {c : AV} {e : Int} (hσ : σ[id]? = some (rdO c e)) {K : AV → List zc → Prop} (hK : K (.d (.int .i64 e)) σ) : zt Tryz.prog zdG [.box id 0] σ K := by
  refine ziI zjN fun hl => ?_
  rw [rdO] at hσ
  simp only [zfV, iN, bT, bF, eN]
  (refine gq30 hσ ?_; try with_reducible exact True.intro)
  refine zcg hl ?_
  exact hK
theorem gqc2 {A B : Prop} (a : A) (b : B) : A ∧ B := ⟨a, b⟩
theorem gq31 {P Q : Prop} (h : Q) (e : P = Q := by simp -dsimp only [↓zit, ↓zbj, ↓zcR, ↓ziu, ↓zik, ↓zii, ↓zil, ↓zij, ↓zcW, ↓zcS, ↓zcX, ↓zcT, ↓zim, ↓zcN, ↓zcY, ↓zcU, ↓zcZ, ↓zcV, ↓zig, ↓zis, ↓zcL, ↓zda, ↓zic, ↓zib, ↓zif, iN, bT, bF, eN, ↓zet, ↓unC, ↓zW, ↓zR, ↓zS, ↓zY, ↓zaD, ↓zbk, ↓zdA, ↓zac, ↓zcB, ↓zaz, ↓zr, ↓zm, ↓zcr, ↓zh, ↓zau, ↓zab, ↓zbl, ↓zbi, ↓zd, ↓zK, ↓zn, ↓zI, ↓zay, ↓zeF, ↓zfd, ↓zaf, ↓zaT, ↓zba, ↓zbx, ↓zcd, ↓zG, ↓zav, ↓zO, ↓zC, ↓zaC, zeX, zcz, zcq, unA, zeU, bnd, zgc, zaj, zat, zfI, dm, dm1, zA, zaQ, zgP, zgO, zal, Q0, Q1, Q2, Q3, Q4, Q5, zaB, zy, zq, zar, zU, Q6, Q7, Q8, Q9, Q10, Q11, Q12, Q13, Q14, Nat.reduceAdd, Q15, Int.reduceToNat, Q16, Q17, Q18, Q19, Q20, reduceIte, Q21, Q22, zE, rep, zT, zgz, toD, zae, Q23, Q24, Q25, Q26, Q27, Q28, Nat.reduceLeDiff, Q29, Nat.reduceSub, Q30, Q31, Q32, sc, Q33, Q34, Q35]; rfl) : P := e.mpr h
theorem c_Fail {σ : List zc} {id : Nat} {c : AV} {e f : Int} (hσ : σ[id]? = some (rdO c e)) {K : AV → List zc → Prop} (hK : K (.tup []) (σ.set id (rdO c (if e = 0 then f else e)))) : zt Tryz.prog zaW [.box id 0, .d (.int .i64 f)] σ K := by
  refine zlh zjd fun hl => ?_
  have hc := zlA hl hσ
  simp only [zfD, iN, bT, bF, eN]
  (refine gq31 ?_; try with_reducible exact True.intro)
  refine zkI hσ ?_
  have hs := hσ
  rw [rdO] at hs
  by_cases h : e = 0
  · have hb : (e != 0) = false := by simp [h]
    (refine gq30 (gqc2 hs hb) ?_; try with_reducible exact True.intro)
    rw [if_pos h] at hK
    exact zgp (by simp [dmT, dm, dm1, zbz, zfF]) hl (zhc hc) hK
  · have hb : (e != 0) = true := by simp [h]
    (refine gq30 (gqc2 hs hb) ?_; try with_reducible exact True.intro)
    rw [if_neg h, zog hσ] at hK
    exact zft (by simp [dmT, dm, dm1, zbz, zfF]) hl hK
theorem gq32 {A P Q : Prop} (a : A) (h : Q) (e : A → P = Q := by intro a; simp -dsimp only [↓zit, ↓zbj, ↓zcR, ↓ziu, ↓zik, ↓zii, ↓zil, ↓zij, ↓zcW, ↓zcS, ↓zcX, ↓zcT, ↓zim, ↓zcN, ↓zcY, ↓zcU, ↓zcZ, ↓zcV, ↓zig, ↓zis, ↓zcL, ↓zda, ↓zic, ↓zib, ↓zif, iN, bT, bF, eN, ↓zet, ↓unC, ↓zW, ↓zR, ↓zS, ↓zY, ↓zaD, ↓zbk, ↓zdA, ↓zac, ↓zcB, ↓zaz, ↓zr, ↓zm, ↓zcr, ↓zh, ↓zau, ↓zab, ↓zbl, ↓zbi, ↓zd, ↓zK, ↓zn, ↓zI, ↓zay, ↓zeF, ↓zfd, ↓zaf, ↓zaT, ↓zba, ↓zbx, ↓zcd, ↓zG, ↓zav, ↓zO, ↓zC, ↓zaC, zeX, zcz, zcq, unA, zeU, bnd, zgc, zaj, zat, zfI, dm, dm1, zA, zaQ, zgP, zgO, zal, Q0, Q1, Q2, Q3, Q4, Q5, zaB, zy, zq, zar, zU, Q6, Q7, Q8, Q9, Q10, Q11, Q12, Q13, Q14, Nat.reduceAdd, Q15, Int.reduceToNat, Q16, Q17, Q18, Q19, Q20, reduceIte, Q21, Q22, zE, rep, zT, zgz, toD, zae, Q23, Q24, Q25, Q26, Q27, Q28, Nat.reduceLeDiff, Q29, Nat.reduceSub, Q30, Q31, Q32, sc, Q33, Q34, Q35, a]; rfl) : P := (e a).mpr h
theorem c_Done {σ : List zc} {id : Nat} {c : AV} {e : Int} {B : List UInt8} (hσ : σ[id]? = some (rdO c e)) (hc : Cell c B) {K : AV → List zc → Prop} (hK : K (.d (.int .i64 (if e = 0 ∧ 0 < B.length then 12 else e))) σ) : zt Tryz.prog zdm [.box id 0] σ K := by
  refine ziI zje fun hl => ?_
  simp only [zfE, iN, bT, bF, eN]
  (refine gq31 ?_; try with_reducible exact True.intro)
  refine c_Err hσ ?_
  have hs := hσ
  rw [rdO] at hs
  rcases hc with rfl | ⟨t, rfl⟩
  all_goals
    (refine gq32 hs ?_; try with_reducible exact True.intro)
    refine zaG (fun h => ?_) (fun h => ?_)
    · refine zcg hl ?_
      (try simp only [decide_eq_true_eq, decide_eq_false_iff_not, beq_iff_eq, beq_eq_false_iff_ne, bne_iff_ne, ne_eq, Bool.not_eq_true', Bool.not_eq_false', bne_eq_false_iff_eq] at *)
      rw [if_neg (by omega)] at hK
      exact hK
    · (refine gq30 hs ?_; try with_reducible exact True.intro)
      refine zaG (fun h2 => ?_) (fun h2 => ?_)
      · refine zcg hl ?_
        (try simp only [decide_eq_true_eq, decide_eq_false_iff_not, beq_iff_eq, beq_eq_false_iff_ne, bne_iff_ne, ne_eq, Bool.not_eq_true', Bool.not_eq_false', bne_eq_false_iff_eq] at *)
        rw [if_pos ⟨h, by omega⟩] at hK; exact hK
      · refine zcg hl ?_
        (try simp only [decide_eq_true_eq, decide_eq_false_iff_not, beq_iff_eq, beq_eq_false_iff_ne, bne_iff_ne, ne_eq, Bool.not_eq_true', Bool.not_eq_false', bne_eq_false_iff_eq] at *)
        rw [if_neg (by omega), h] at hK; exact hK
theorem c_Read {σ : List zc} {es : List (List D)} (he : ∀ e ∈ es, e.length = 1) (hn : es.length ≤ 1073741824) {K : AV → List zc → Prop} (hK : K (.box (σ.length + 1) 0) (σ ++ [.tok 1 es.length, rdO (.own σ.length es) 0])) : zt Tryz.prog zhj [.d (.slice es)] σ K := by
  refine zci zla.is rfl (fun _ => [σ.length, σ.length + 1]) fun hl _ => zla.goes ?_
  simp only [zln, iN, bT, bF, eN]
  (refine gq31 ?_; try with_reducible exact True.intro)
  refine ziG he hn ?_
  (refine gq31 ?_; try with_reducible exact True.intro)
  unfold zlx znn
  have hg : getL (σ ++ [.tok 1 es.length, rdO (.own σ.length es) 0]) [σ.length, σ.length + 1] = some [.tok 1 es.length, rdO (.own σ.length es) 0] := by
    simp [getL, zy, zq]
  simp only [rdO] at hg
  have t1 : (σ ++ [zc.tok 1 es.length, zc.box [AV.own σ.length es, .d (.int .i64 0), .d (.bool true)]]).take σ.length = σ := zfH _ _
  have n1 : ¬ (σ.length < σ.length) := by omega
  have n2 : ¬ (σ.length + 1 < σ.length) := by omega
  have n3 : ¬ (σ.length + 1 = σ.length) := by omega
  simp only [hg, zlp, zhO, zfL, zbF, zie, idxK, zbz, if_neg n1, if_neg n2, if_neg n3, if_true, t1]
  refine ⟨by simp, hl, by simp, by simp, ?_⟩
  exact hK

open Go.AW

def Nxt (c c' : AV) : Prop := c' = c ∨ ∃ x, c' = .d x
theorem Nxt.rfl {c : AV} : Nxt c c := .inl (Eq.refl c)
theorem Nxt.trans {a b c : AV} (h : Nxt a b) (g : Nxt b c) : Nxt a c := by
  rcases g with rfl | g
  · exact h
  · exact .inr g
theorem Nxt.low {n : Nat} {a b : AV} (h : Nxt a b) (g : Low n a) : Low n b := by
  rcases h with rfl | ⟨x, rfl⟩
  · exact g
  · exact .d _
theorem cell_d {B : List UInt8} : Cell (.d (.slice (bcs B))) B := .inl rfl
theorem fail0 {c : Bool} {s : Rd} {x : Int} (h : s.e = 0) (hx : x ≠ 0) : s.fail c x = ⟨if c then [] else s.b, x⟩ := by rw [Rd.fail, if_pos ⟨h, hx⟩]
theorem c_Take {σ : List zc} {id : Nat} {c : AV} {s : Rd} {n : Nat} (hn : n < 9223372036854775808) (hσ : σ[id]? = some (rdO c s.e)) (hc : Cell c s.b) (hB : s.b.length ≤ 1073741824) {K : AV → List zc → Prop}
    (hK : ∀ c', Nxt c c' → Cell c' (zdh false n s).2.b → K (.d (.slice (bcs (zdh false n s).1))) (σ.set id (rdO c' (zdh false n s).2.e))) : zt Tryz.prog zdl [.box id 0, .d (.int .i64 n)] σ K := by
  refine zlh zjc fun hl => ?_
  have hlow := zlA hl hσ
  obtain ⟨B, e⟩ := s
  simp only at hσ hc hB
  have hs := hσ
  rw [rdO] at hs
  have hneg : decide ((n : Int) < 0) = false := by simp
  simp only [zfC, iN, bT, bF, eN]
  (refine gq32 hneg ?_; try with_reducible exact True.intro)
  refine zkI hσ ?_
  by_cases h : e = 0
  · subst h
    have hb : ((0 : Int) != 0) = false := by simp
    by_cases hlt : n > B.length
    · have hgt : decide ((n : Int) > (B.length : Int)) = true := by simp; omega
      have hK1 := hK c .rfl (by simp only [zdh, if_true, if_pos hlt]; rw [fail0 rfl (by omega)]; exact hc)
      simp only [zdh, if_true, if_pos hlt] at hK1
      rw [fail0 rfl (by omega)] at hK1
      clear hK
      rcases hc with rfl | ⟨t, rfl⟩
      all_goals
        (refine gq30 (gqc2 hs (gqc2 hb hgt)) ?_; try with_reducible exact True.intro)
        refine c_Fail hσ ?_
        (refine gq31 ?_; try with_reducible exact True.intro)
        refine zkI (c := _) (e := 10) (get_set_self hσ) ?_
        have hb' : ((10 : Int) != 0) = true := by simp
        (refine gq32 hb' ?_; try with_reducible exact True.intro)
        exact zgp (by simp [zdq, dmT, dm, dm1, zbz]) hl (zhc hlow) hK1
    · have hgt : decide ((n : Int) > (B.length : Int)) = false := by simp; omega
      have hK1 := hK (.d (.slice (bcs (B.drop n)))) (.inr ⟨_, rfl⟩) (by simp only [zdh, if_true, if_neg hlt]; exact cell_d)
      simp only [zdh, if_true, if_neg hlt] at hK1
      clear hK
      have htk : List.take n (bcs B) = bcs (B.take n) := by simp [bcs]
      have hdr : List.drop n (bcs B) = bcs (B.drop n) := by simp [bcs]
      rcases hc with rfl | ⟨t, rfl⟩
      all_goals
        (refine gq30 (gqc2 hs (gqc2 hb hgt)) ?_; try with_reducible exact True.intro)
        refine zkI hσ ?_
        (refine gq30 (gqc2 hs (gqc2 hb (gqc2 htk hdr))) ?_; try with_reducible exact True.intro)
        refine ⟨by omega, by omega, by omega, zdo, ziG zdo (by rw [zaN, List.length_take]; omega) ?_⟩
        have hs2 := fun τ => zf (τ := τ) hs
        have hst : ∀ τ x, (σ ++ τ).set id x = σ.set id x ++ τ := fun τ x => zlz hs
        have hall : List.take (bcs B).length (bcs B) = bcs B := List.take_length
        (refine gq30 (gqc2 hs2 (gqc2 htk (gqc2 hdr hst))) ?_; try with_reducible exact True.intro)
        refine ⟨by omega, by omega, by omega, zdo, ?_⟩
        rw [zaN] at hall
        rw [hall, hdr]
        exact ends_set (by simp [zdq, dmT, dm, dm1, zbz]) hl (zhc (.d _)) hK1
  · have hb : (e != 0) = true := by simp [h]
    have hK := hK c .rfl (by simp only [zdh, if_neg h]; exact hc)
    simp only [zdh, if_neg h] at hK
    rw [zog hσ] at hK
    (refine gq30 hb ?_; try with_reducible exact True.intro)
    refine zkI hσ ?_
    (refine gq30 hb ?_; try with_reducible exact True.intro)
    exact zft (by simp [zdq, dmT, dm, dm1, zbz]) hl hK
theorem c_Num {σ : List zc} {id : Nat} {c : AV} {s : Rd} {m : Nat} (hm : m < 18446744073709551616) (hσ : σ[id]? = some (rdO c s.e)) (hc : Cell c s.b) (hB : s.b.length ≤ 1073741824) {K : AV → List zc → Prop}
    (hK : ∀ c', Nxt c c' → Cell c' (zcM false m s).2.b → K (.d (.int .u64 (zcM false m s).1)) (σ.set id (rdO c' (zcM false m s).2.e))) : zt Tryz.prog zcp [.box id 0, .d (.int .u64 m)] σ K := by
  refine zlh zjM fun hl => ?_
  have hlow := zlA hl hσ
  obtain ⟨B, e⟩ := s
  simp only at hσ hc hB
  have hs := hσ
  rw [rdO] at hs
  simp only [zfU, iN, bT, bF, eN]
  (refine gq31 ?_; try with_reducible exact True.intro)
  refine zkI hσ ?_
  by_cases h : e = 0
  · subst h
    have hb : ((0 : Int) != 0) = false := by simp
    have ok : ∀ n r, zjm m 0 0 B = .ok (n, r) → K (.d (.int .u64 n)) (σ.set id (rdO (.d (.slice (bcs r))) 0)) := fun n r h => by
      have := hK (.d (.slice (bcs r))) (.inr ⟨_, rfl⟩) (by simp only [zcM, if_true, h]; exact cell_d)
      simpa only [zcM, if_true, h] using this
    have bad : ∀ x, x ≠ 0 → zjm m 0 0 B = .error x → K (.d (.int .u64 0)) (σ.set id (rdO c x)) := fun x hx h => by
      have := hK c .rfl (by simp only [zcM, if_true, h]; rw [fail0 rfl hx]; exact hc)
      simp only [zcM, if_true, h] at this
      rw [fail0 rfl hx] at this
      exact this
    clear hK
    (refine gq32 hb ?_; try with_reducible exact True.intro)
    refine zaa 10 (fun k vs s => s = σ ∧ ∃ acc : Nat, vs = [.d (.int .u64 acc), .d (.int .i64 k)] ∧ ((k ≤ 9 ∧ k ≤ B.length ∧ acc < 128 ^ k ∧ zjm m 0 0 B = zjm m k acc (B.drop k)) ∨ (k = 10 ∧ zjm m 0 0 B = .error 11))) ⟨rfl, 0, rfl, .inl ⟨by omega, by omega, by simp, by simp⟩⟩ ?_
    rintro k vs s hk ⟨rfl, acc, rfl, hinv⟩
    (refine gq31 ?_; try with_reducible exact True.intro)
    refine zaG (fun h => ?_) (fun h => ?_)
    · obtain ⟨h9, hkl, hacc, hinv⟩ | ⟨rfl, _⟩ := hinv
      · by_cases hend : k = B.length
        · have hge : decide ((k : Int) ≥ (B.length : Int)) = true := by simp; omega
          have hnil : B.drop k = [] := List.drop_eq_nil_of_le (by omega)
          rw [hnil] at hinv
          have hK1 := bad 10 (by omega) hinv
          rcases hc with rfl | ⟨t, rfl⟩
          all_goals
            (refine gq30 (gqc2 hs hge) ?_; try with_reducible exact True.intro)
            refine c_Fail hσ ?_
            (refine gq31 ?_; try with_reducible exact True.intro)
            exact zgp (by simp [zdq, dmT, dm, dm1, zbz]) hl (zhc hlow) hK1
        · have hge : decide ((k : Int) ≥ (B.length : Int)) = false := by simp; omega
          have hkl : k < B.length := by omega
          have hx : (bcs B)[k]? = some [D.int .u8 (B[k]).toNat] := by simp [bcs, hkl, zbm]
          have hdk : B.drop k = B[k] :: B.drop (k + 1) := List.drop_eq_getElem_cons hkl
          have hbk := (B[k]).toNat_lt
          rw [hdk] at hinv
          rcases hc with rfl | ⟨t, rfl⟩
          all_goals
            (refine gq30 (gqc2 hs (gqc2 hge hx)) ?_; try with_reducible exact True.intro)
            rw [numStep hbk h9 hacc]
            refine ⟨by omega, by rw [zbb (by omega) (by omega)]; omega, zaG (fun hbig => ?_) (fun hsm => ?_)⟩
            · (refine gq31 ?_; try with_reducible exact True.intro)
              simp only [decide_eq_true_eq] at hbig
              have hbig : (B[k]).toNat > 127 := by omega
              refine zdb.next (by omega) ⟨rfl, (acc + (B[k]).toNat % 128 * 128 ^ k) % 18446744073709551616, ?_, ?_⟩
              · rw [zbb (by omega) (by omega)]; rfl
              · by_cases hk9 : k = 9
                · right
                  refine ⟨by omega, ?_⟩
                  rw [hinv]
                  subst hk9
                  exact numR_nine (by omega)
                · left
                  have hf := numFit (x := (B[k]).toNat) h9 hacc (by omega)
                  rw [Nat.mod_eq_of_lt hf.2]
                  exact ⟨by omega, by omega, hf.1, by rw [hinv]; exact numR_big hbig (by omega)⟩
            · simp only [decide_eq_false_iff_not] at hsm
              have hsm : (B[k]).toNat < 128 := by omega
              have hbad := fun h => bad 11 (by omega) (hinv.trans (numR_bad (m := m) hsm h9 hacc h))
              have hgood := fun h0 h1 h => ok _ _ (hinv.trans (numR_good (m := m) hsm h9 hacc h0 h1 h))
              clear ok bad hinv
              have hw : IntKind.i64.wrap ((k : Int) + 1) = ((k + 1 : Nat) : Int) := by rw [zbb (by omega) (by omega)]; rfl
              have htk : List.take B.length (bcs B) = bcs B := by rw [← zaN B]; exact List.take_length
              have hdr : List.drop (k + 1) (bcs B) = bcs (B.drop (k + 1)) := by simp [bcs]
              obtain ⟨V, hV⟩ : ∃ V, (acc + (B[k]).toNat % 128 * 128 ^ k) % 18446744073709551616 = V := ⟨_, rfl⟩
              rw [hV] at hbad hgood ⊢
              obtain ⟨X, hX⟩ : ∃ X, (B[k]).toNat = X := ⟨_, rfl⟩
              rw [hX] at hbad hgood ⊢
              repeat' first
                | (refine gq30 (gqc2 hs (gqc2 hw (gqc2 htk hdr))) ?_; try with_reducible exact True.intro)
                | (refine zaG (fun h => ?_) (fun h => ?_) <;> (try rw [h]))
                | refine c_Fail hσ ?_
                | ((with_reducible refine And.intro ?_ ?_); focus (first | omega | rfl | decide | exact zdo))
              all_goals first
                | refine zgp (by simp [zdq, dmT, dm, dm1, zbz]) hl (zhc (.d _)) ?_
                | refine zgp (by simp [zdq, dmT, dm, dm1, zbz]) hl (zhc hlow) ?_
              all_goals (try simp only [decide_eq_true_eq, decide_eq_false_iff_not, beq_iff_eq, beq_eq_false_iff_ne] at *)
              all_goals first
                | exact hbad (by omega)
                | exact hgood (by omega) (by omega) (by omega)
      · simp at h
    · obtain ⟨h9, _⟩ | ⟨rfl, hinv⟩ := hinv
      · simp at h; omega
      · have hK1 := bad 11 (by omega) hinv
        refine c_Fail hσ ?_
        (refine gq31 ?_; try with_reducible exact True.intro)
        exact zgp (by simp [zdq, dmT, dm, dm1, zbz]) hl (zhc hlow) hK1
  · have hb : (e != 0) = true := by simp [h]
    have hK := hK c .rfl (by simp only [zcM, if_neg h]; exact hc)
    simp only [zcM, if_neg h] at hK
    rw [zog hσ] at hK
    (refine gq32 hb ?_; try with_reducible exact True.intro)
    exact zft (by simp [zdq, dmT, dm, dm1, zbz]) hl hK



end Go.Proofs.YthpnelbciibjeaaGreat
