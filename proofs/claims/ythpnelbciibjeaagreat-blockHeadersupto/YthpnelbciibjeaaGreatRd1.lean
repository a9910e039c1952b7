/- Contracts: the reader's small methods. -/
import Derived.Test.YthpnelbciibjeaaGreatCodec1
import Derived.Test.YthpnelbciibjeaaGreatSpTake
import Derived.Test.YthpnelbciibjeaaGreatBk1
import Derived.Test.YthpnelbciibjeaaGreatOp1
import Derived.Test.YthpnelbciibjeaaGreatAwFrz
set_option linter.all false
set_option maxRecDepth 100000
set_option linter.unusedSimpArgs false
namespace Go.Proofs.YthpnelbciibjeaaGreat
open Go.AW

def rdO (c : AV) (e : Int) : zc := .box [c, .d (.int .i64 e), .d (.bool true)]
theorem zhZ {n : Nat} {c : AV} {e : Int} (h : Low n c) : zpd n (rdO c e) := by
  intro x hx
  simp only [List.mem_cons, List.not_mem_nil, or_false] at hx
  rcases hx with rfl | rfl | rfl
  · exact h
  · exact .d _
  · exact .d _
theorem zmz {σ : List zc} {id : Nat} {c : AV} {e : Int} (hl : zeS σ.length σ) (h : σ[id]? = some (rdO c e)) : Low σ.length c := hl id _ h c (.head _)
def Cell (c : AV) (B : List UInt8) : Prop := c = .d (.slice (bcs B)) ∨ ∃ t, c = .own t (bcs B)
theorem zlS {A P Q : Prop} (a : A) (h : Q) (e : A → P = Q := by intro a; simp -dsimp only [↓zgX, ↓zaP, ↓zca, ↓zgZ, ↓zgR, ↓zgP, ↓zgS, ↓zgQ, ↓zcf, ↓zcb, ↓zcg, ↓zcc, ↓zgT, ↓zbX, ↓zch, ↓zcd, ↓zci, ↓zce, ↓zgN, ↓zgW, ↓zbW, ↓zcm, ↓zgC, ↓zgB, ↓zgL, iN, bT, bF, eN, ↓zdH, ↓unC, ↓zR, ↓zN, ↓zO, ↓zP, ↓zan, ↓zba, ↓zcY, ↓zS, ↓zcj, ↓zao, ↓zt, ↓zj, ↓zbI, ↓zg, ↓zah, ↓zX, ↓zaZ, ↓zaU, ↓zd, ↓zH, ↓zl, ↓zy, ↓zar, ↓zdS, ↓zeg, ↓zZ, ↓zaH, ↓zaO, ↓zbn, ↓zbC, ↓zw, ↓zam, ↓zL, ↓zu, ↓zaj, zee, zbN, zbH, unA, zed, bnd, zeY, zad, zag, zeQ, dm, dm1, zE, zaI, zgc, zgb, zaf, Q0, Q1, Q2, Q3, Q4, Q5, zai, zp, zm, zac, zM, Q6, Q7, Q8, Q9, Q10, Q11, Q12, Q13, Q14, Nat.reduceAdd, Q15, Int.reduceToNat, Q16, Q17, Q18, Q19, Q20, reduceIte, Q21, Q22, zC, rep, zT, zfz, toD, zab, Q23, Q24, Q25, Q26, Q27, Q28, Nat.reduceLeDiff, Q29, Nat.reduceSub, Q30, Q31, Q32, sc, Q33, Q34, Q35, Bool.and_false, Bool.and_self, Bool.false_and, Bool.not_false, Bool.not_true, Bool.true_and, Int.toNat_natCast, Int.toNat_zero, List.drop_zero, List.length_map, List.length_nil, List.nil_append, List.take_length, Nat.sub_zero, Nat.zero_add, Option.isSome_none, Option.isSome_some, Option.map_none, Option.map_some, zat, beq_self_eq_true, bne_self_eq_false, a]; rfl) : P := (e a).mpr h
theorem zlE {σ : List zc} {id : Nat} {c : AV} {e : Int} (hσ : σ[id]? = some (rdO c e)) {K : AV → List zc → Prop} (hK : K (.d (.bool (e != 0))) σ) : zo Tryz.prog zaT [.box id 0] σ K := by
  refine zhS zjk fun hl => ?_
  rw [rdO] at hσ
  simp only [zfj, iN, bT, bF, eN]
  (refine zlS hσ ?_; try with_reducible exact True.intro)
  refine zbx hl ?_
  exact hK
theorem c_Err {σ : List zc} {id : Nat} {c : AV} {e : Int} (hσ : σ[id]? = some (rdO c e)) {K : AV → List zc → Prop} (hK : K (.d (.int .i64 e)) σ) : zo Tryz.prog zdP [.box id 0] σ K := by
  refine zhS zkC fun hl => ?_
  rw [rdO] at hσ
  simp only [zgu, iN, bT, bF, eN]
  (refine zlS hσ ?_; try with_reducible exact True.intro)
  refine zbx hl ?_
  exact hK
theorem zcQ {A B : Prop} (a : A) (b : B) : A ∧ B := ⟨a, b⟩
theorem gq36 {P Q : Prop} (h : Q) (e : P = Q := by simp -dsimp only [↓zgX, ↓zaP, ↓zca, ↓zgZ, ↓zgR, ↓zgP, ↓zgS, ↓zgQ, ↓zcf, ↓zcb, ↓zcg, ↓zcc, ↓zgT, ↓zbX, ↓zch, ↓zcd, ↓zci, ↓zce, ↓zgN, ↓zgW, ↓zbW, ↓zcm, ↓zgC, ↓zgB, ↓zgL, iN, bT, bF, eN, ↓zdH, ↓unC, ↓zR, ↓zN, ↓zO, ↓zP, ↓zan, ↓zba, ↓zcY, ↓zS, ↓zcj, ↓zao, ↓zt, ↓zj, ↓zbI, ↓zg, ↓zah, ↓zX, ↓zaZ, ↓zaU, ↓zd, ↓zH, ↓zl, ↓zy, ↓zar, ↓zdS, ↓zeg, ↓zZ, ↓zaH, ↓zaO, ↓zbn, ↓zbC, ↓zw, ↓zam, ↓zL, ↓zu, ↓zaj, zee, zbN, zbH, unA, zed, bnd, zeY, zad, zag, zeQ, dm, dm1, zE, zaI, zgc, zgb, zaf, Q0, Q1, Q2, Q3, Q4, Q5, zai, zp, zm, zac, zM, Q6, Q7, Q8, Q9, Q10, Q11, Q12, Q13, Q14, Nat.reduceAdd, Q15, Int.reduceToNat, Q16, Q17, Q18, Q19, Q20, reduceIte, Q21, Q22, zC, rep, zT, zfz, toD, zab, Q23, Q24, Q25, Q26, Q27, Q28, Nat.reduceLeDiff, Q29, Nat.reduceSub, Q30, Q31, Q32, sc, Q33, Q34, Q35]; rfl) : P := e.mpr h
theorem c_Fail {σ : List zc} {id : Nat} {c : AV} {e f : Int} (hσ : σ[id]? = some (rdO c e)) {K : AV → List zc → Prop} (hK : K (.tup []) (σ.set id (rdO c (if e = 0 then f else e)))) : zo Tryz.prog zbg [.box id 0, .d (.int .i64 f)] σ K := by
  refine zjy zjR fun hl => ?_
  have hc := zmz hl hσ
  simp only [zfZ, iN, bT, bF, eN]
  (refine gq36 ?_; try with_reducible exact True.intro)
  refine zlE hσ ?_
  have hs := hσ
  rw [rdO] at hs
  by_cases h : e = 0
  · have hb : (e != 0) = false := by simp [h]
    (refine zlS (zcQ hs hb) ?_; try with_reducible exact True.intro)
    rw [if_pos h] at hK
    exact zbr (by simp [dmT, dm, dm1, zbo, zdx]) hl (zhZ hc) hK
  · have hb : (e != 0) = true := by simp [h]
    (refine zlS (zcQ hs hb) ?_; try with_reducible exact True.intro)
    rw [if_neg h, zmy hσ] at hK
    exact zew (by simp [dmT, dm, dm1, zbo, zdx]) hl hK
theorem gq37 {A P Q : Prop} (a : A) (h : Q) (e : A → P = Q := by intro a; simp -dsimp only [↓zgX, ↓zaP, ↓zca, ↓zgZ, ↓zgR, ↓zgP, ↓zgS, ↓zgQ, ↓zcf, ↓zcb, ↓zcg, ↓zcc, ↓zgT, ↓zbX, ↓zch, ↓zcd, ↓zci, ↓zce, ↓zgN, ↓zgW, ↓zbW, ↓zcm, ↓zgC, ↓zgB, ↓zgL, iN, bT, bF, eN, ↓zdH, ↓unC, ↓zR, ↓zN, ↓zO, ↓zP, ↓zan, ↓zba, ↓zcY, ↓zS, ↓zcj, ↓zao, ↓zt, ↓zj, ↓zbI, ↓zg, ↓zah, ↓zX, ↓zaZ, ↓zaU, ↓zd, ↓zH, ↓zl, ↓zy, ↓zar, ↓zdS, ↓zeg, ↓zZ, ↓zaH, ↓zaO, ↓zbn, ↓zbC, ↓zw, ↓zam, ↓zL, ↓zu, ↓zaj, zee, zbN, zbH, unA, zed, bnd, zeY, zad, zag, zeQ, dm, dm1, zE, zaI, zgc, zgb, zaf, Q0, Q1, Q2, Q3, Q4, Q5, zai, zp, zm, zac, zM, Q6, Q7, Q8, Q9, Q10, Q11, Q12, Q13, Q14, Nat.reduceAdd, Q15, Int.reduceToNat, Q16, Q17, Q18, Q19, Q20, reduceIte, Q21, Q22, zC, rep, zT, zfz, toD, zab, Q23, Q24, Q25, Q26, Q27, Q28, Nat.reduceLeDiff, Q29, Nat.reduceSub, Q30, Q31, Q32, sc, Q33, Q34, Q35, a]; rfl) : P := (e a).mpr h
theorem c_Done {σ : List zc} {id : Nat} {c : AV} {e : Int} {B : List UInt8} (hσ : σ[id]? = some (rdO c e)) (hc : Cell c B) {K : AV → List zc → Prop} (hK : K (.d (.int .i64 (if e = 0 ∧ 0 < B.length then 12 else e))) σ) : zo Tryz.prog zdt [.box id 0] σ K := by
  refine zhS zjS fun hl => ?_
  simp only [zga, iN, bT, bF, eN]
  (refine gq36 ?_; try with_reducible exact True.intro)
  refine c_Err hσ ?_
  have hs := hσ
  rw [rdO] at hs
  rcases hc with rfl | ⟨t, rfl⟩
  all_goals
    (refine gq37 hs ?_; try with_reducible exact True.intro)
    refine zap (fun h => ?_) (fun h => ?_)
    · refine zbx hl ?_
      (try simp only [decide_eq_true_eq, decide_eq_false_iff_not, beq_iff_eq, beq_eq_false_iff_ne, bne_iff_ne, ne_eq, Bool.not_eq_true', Bool.not_eq_false', bne_eq_false_iff_eq] at *)
      rw [if_neg (by omega)] at hK
      exact hK
    · (refine zlS hs ?_; try with_reducible exact True.intro)
      refine zap (fun h2 => ?_) (fun h2 => ?_)
      · refine zbx hl ?_
        (try simp only [decide_eq_true_eq, decide_eq_false_iff_not, beq_iff_eq, beq_eq_false_iff_ne, bne_iff_ne, ne_eq, Bool.not_eq_true', Bool.not_eq_false', bne_eq_false_iff_eq] at *)
        rw [if_pos ⟨h, by omega⟩] at hK; exact hK
      · refine zbx hl ?_
        (try simp only [decide_eq_true_eq, decide_eq_false_iff_not, beq_iff_eq, beq_eq_false_iff_ne, bne_iff_ne, ne_eq, Bool.not_eq_true', Bool.not_eq_false', bne_eq_false_iff_eq] at *)
        rw [if_neg (by omega), h] at hK; exact hK
theorem c_Read {σ : List zc} {es : List (List D)} (he : ∀ e ∈ es, e.length = 1) (hn : es.length ≤ 1073741824) {K : AV → List zc → Prop} (hK : K (.box (σ.length + 1) 0) (σ ++ [.tok 1 es.length, rdO (.own σ.length es) 0])) : zo Tryz.prog zii [.d (.slice es)] σ K := by
  refine zbG zlZ.is rfl (fun _ => [σ.length, σ.length + 1]) fun hl _ => zlZ.goes ?_
  simp only [zmm, iN, bT, bF, eN]
  (refine gq36 ?_; try with_reducible exact True.intro)
  refine zjw he hn ?_
  (refine gq36 ?_; try with_reducible exact True.intro)
  unfold zlK znV
  have hg : getL (σ ++ [.tok 1 es.length, rdO (.own σ.length es) 0]) [σ.length, σ.length + 1] = some [.tok 1 es.length, rdO (.own σ.length es) 0] := by
    simp [getL, zp, zm]
  simp only [rdO] at hg
  have t1 : (σ ++ [zc.tok 1 es.length, zc.box [AV.own σ.length es, .d (.int .i64 0), .d (.bool true)]]).take σ.length = σ := zfl _ _
  have n1 : ¬ (σ.length < σ.length) := by omega
  have n2 : ¬ (σ.length + 1 < σ.length) := by omega
  have n3 : ¬ (σ.length + 1 = σ.length) := by omega
  simp only [hg, zlf, zhW, zfD, zbQ, zhX, idxK, zbo, if_neg n1, if_neg n2, if_neg n3, if_true, t1]
  refine ⟨by simp, hl, by simp, by simp, ?_⟩
  exact hK

open Go.AW

def Nxt (c c' : AV) : Prop := c' = c ∨ ∃ x, c' = .d x
theorem Nxt.rfl {c : AV} : Nxt c c := .inl (Eq.refl c)
theorem Nxt.trans {a b c : AV} (h : Nxt a b) (g : Nxt b c) : Nxt a c := by
  rcases g with rfl | g
  · exact h
  · exact .inr g
theorem Nxt.low {n : Nat} {a b : AV} (h : Nxt a b) (g : Low n a) : Low n b := by
  rcases h with rfl | ⟨x, rfl⟩
  · exact g
  · exact .d _
theorem cell_d {B : List UInt8} : Cell (.d (.slice (bcs B))) B := .inl rfl
theorem fail0 {c : Bool} {s : Rd} {x : Int} (h : s.e = 0) (hx : x ≠ 0) : s.fail c x = ⟨if c then [] else s.b, x⟩ := by rw [Rd.fail, if_pos ⟨h, hx⟩]
theorem c_Take {σ : List zc} {id : Nat} {c : AV} {s : Rd} {n : Nat} (hn : n < 9223372036854775808) (hσ : σ[id]? = some (rdO c s.e)) (hc : Cell c s.b) (hB : s.b.length ≤ 1073741824) {K : AV → List zc → Prop}
    (hK : ∀ c', Nxt c c' → Cell c' (zbB false n s).2.b → K (.d (.slice (bcs (zbB false n s).1))) (σ.set id (rdO c' (zbB false n s).2.e))) : zo Tryz.prog zds [.box id 0, .d (.int .i64 n)] σ K := by
  refine zjy zjQ fun hl => ?_
  have hlow := zmz hl hσ
  obtain ⟨B, e⟩ := s
  simp only at hσ hc hB
  have hs := hσ
  rw [rdO] at hs
  have hneg : decide ((n : Int) < 0) = false := by simp
  simp only [zfY, iN, bT, bF, eN]
  (refine gq37 hneg ?_; try with_reducible exact True.intro)
  refine zlE hσ ?_
  by_cases h : e = 0
  · subst h
    have hb : ((0 : Int) != 0) = false := by simp
    by_cases hlt : n > B.length
    · have hgt : decide ((n : Int) > (B.length : Int)) = true := by simp; omega
      have hK1 := hK c .rfl (by simp only [zbB, if_true, if_pos hlt]; rw [fail0 rfl (by omega)]; exact hc)
      simp only [zbB, if_true, if_pos hlt] at hK1
      rw [fail0 rfl (by omega)] at hK1
      clear hK
      rcases hc with rfl | ⟨t, rfl⟩
      all_goals
        (refine zlS (zcQ hs (zcQ hb hgt)) ?_; try with_reducible exact True.intro)
        refine c_Fail hσ ?_
        (refine gq36 ?_; try with_reducible exact True.intro)
        refine zlE (c := _) (e := 10) (zeB hσ) ?_
        have hb' : ((10 : Int) != 0) = true := by simp
        (refine gq37 hb' ?_; try with_reducible exact True.intro)
        exact zbr (by simp [zbM, dmT, dm, dm1, zbo]) hl (zhZ hlow) hK1
    · have hgt : decide ((n : Int) > (B.length : Int)) = false := by simp; omega
      have hK1 := hK (.d (.slice (bcs (B.drop n)))) (.inr ⟨_, rfl⟩) (by simp only [zbB, if_true, if_neg hlt]; exact cell_d)
      simp only [zbB, if_true, if_neg hlt] at hK1
      clear hK
      have htk : List.take n (bcs B) = bcs (B.take n) := by simp [bcs]
      have hdr : List.drop n (bcs B) = bcs (B.drop n) := by simp [bcs]
      rcases hc with rfl | ⟨t, rfl⟩
      all_goals
        (refine zlS (zcQ hs (zcQ hb hgt)) ?_; try with_reducible exact True.intro)
        refine zlE hσ ?_
        (refine zlS (zcQ hs (zcQ hb (zcQ htk hdr))) ?_; try with_reducible exact True.intro)
        refine ⟨by omega, by omega, by omega, zbF, zjw zbF (by rw [zat, List.length_take]; omega) ?_⟩
        have hs2 := fun τ => zf (τ := τ) hs
        have hst : ∀ τ x, (σ ++ τ).set id x = σ.set id x ++ τ := fun τ x => zgg hs
        have hall : List.take (bcs B).length (bcs B) = bcs B := List.take_length
        (refine zlS (zcQ hs2 (zcQ htk (zcQ hdr hst))) ?_; try with_reducible exact True.intro)
        refine ⟨by omega, by omega, by omega, zbF, ?_⟩
        rw [zat] at hall
        rw [hall, hdr]
        exact zpS (by simp [zbM, dmT, dm, dm1, zbo]) hl (zhZ (.d _)) hK1
  · have hb : (e != 0) = true := by simp [h]
    have hK := hK c .rfl (by simp only [zbB, if_neg h]; exact hc)
    simp only [zbB, if_neg h] at hK
    rw [zmy hσ] at hK
    (refine zlS hb ?_; try with_reducible exact True.intro)
    refine zlE hσ ?_
    (refine zlS hb ?_; try with_reducible exact True.intro)
    exact zew (by simp [zbM, dmT, dm, dm1, zbo]) hl hK
theorem c_Num {σ : List zc} {id : Nat} {c : AV} {s : Rd} {m : Nat} (hm : m < 18446744073709551616) (hσ : σ[id]? = some (rdO c s.e)) (hc : Cell c s.b) (hB : s.b.length ≤ 1073741824) {K : AV → List zc → Prop}
    (hK : ∀ c', Nxt c c' → Cell c' (zco false m s).2.b → K (.d (.int .u64 (zco false m s).1)) (σ.set id (rdO c' (zco false m s).2.e))) : zo Tryz.prog zcN [.box id 0, .d (.int .u64 m)] σ K := by
  refine zjy zkB fun hl => ?_
  have hlow := zmz hl hσ
  obtain ⟨B, e⟩ := s
  simp only at hσ hc hB
  have hs := hσ
  rw [rdO] at hs
  simp only [zgt, iN, bT, bF, eN]
  (refine gq36 ?_; try with_reducible exact True.intro)
  refine zlE hσ ?_
  by_cases h : e = 0
  · subst h
    have hb : ((0 : Int) != 0) = false := by simp
    have ok : ∀ n r, ziR m 0 0 B = .ok (n, r) → K (.d (.int .u64 n)) (σ.set id (rdO (.d (.slice (bcs r))) 0)) := fun n r h => by
      have := hK (.d (.slice (bcs r))) (.inr ⟨_, rfl⟩) (by simp only [zco, if_true, h]; exact cell_d)
      simpa only [zco, if_true, h] using this
    have bad : ∀ x, x ≠ 0 → ziR m 0 0 B = .error x → K (.d (.int .u64 0)) (σ.set id (rdO c x)) := fun x hx h => by
      have := hK c .rfl (by simp only [zco, if_true, h]; rw [fail0 rfl hx]; exact hc)
      simp only [zco, if_true, h] at this
      rw [fail0 rfl hx] at this
      exact this
    clear hK
    (refine gq37 hb ?_; try with_reducible exact True.intro)
    refine zV 10 (fun k vs s => s = σ ∧ ∃ acc : Nat, vs = [.d (.int .u64 acc), .d (.int .i64 k)] ∧ ((k ≤ 9 ∧ k ≤ B.length ∧ acc < 128 ^ k ∧ ziR m 0 0 B = ziR m k acc (B.drop k)) ∨ (k = 10 ∧ ziR m 0 0 B = .error 11))) ⟨rfl, 0, rfl, .inl ⟨by omega, by omega, by simp, by simp⟩⟩ ?_
    rintro k vs s hk ⟨rfl, acc, rfl, hinv⟩
    (refine gq36 ?_; try with_reducible exact True.intro)
    refine zap (fun h => ?_) (fun h => ?_)
    · obtain ⟨h9, hkl, hacc, hinv⟩ | ⟨rfl, _⟩ := hinv
      · by_cases hend : k = B.length
        · have hge : decide ((k : Int) ≥ (B.length : Int)) = true := by simp; omega
          have hnil : B.drop k = [] := List.drop_eq_nil_of_le (by omega)
          rw [hnil] at hinv
          have hK1 := bad 10 (by omega) hinv
          rcases hc with rfl | ⟨t, rfl⟩
          all_goals
            (refine zlS (zcQ hs hge) ?_; try with_reducible exact True.intro)
            refine c_Fail hσ ?_
            (refine gq36 ?_; try with_reducible exact True.intro)
            exact zbr (by simp [zbM, dmT, dm, dm1, zbo]) hl (zhZ hlow) hK1
        · have hge : decide ((k : Int) ≥ (B.length : Int)) = false := by simp; omega
          have hkl : k < B.length := by omega
          have hx : (bcs B)[k]? = some [D.int .u8 (B[k]).toNat] := by simp [bcs, hkl, zaQ]
          have hdk : B.drop k = B[k] :: B.drop (k + 1) := List.drop_eq_getElem_cons hkl
          have hbk := (B[k]).toNat_lt
          rw [hdk] at hinv
          rcases hc with rfl | ⟨t, rfl⟩
          all_goals
            (refine zlS (zcQ hs (zcQ hge hx)) ?_; try with_reducible exact True.intro)
            rw [numStep hbk h9 hacc]
            refine ⟨by omega, by rw [zaK (by omega) (by omega)]; omega, zap (fun hbig => ?_) (fun hsm => ?_)⟩
            · (refine gq36 ?_; try with_reducible exact True.intro)
              simp only [decide_eq_true_eq] at hbig
              have hbig : (B[k]).toNat > 127 := by omega
              refine zcE.next (by omega) ⟨rfl, (acc + (B[k]).toNat % 128 * 128 ^ k) % 18446744073709551616, ?_, ?_⟩
              · rw [zaK (by omega) (by omega)]; rfl
              · by_cases hk9 : k = 9
                · right
                  refine ⟨by omega, ?_⟩
                  rw [hinv]
                  subst hk9
                  exact numR_nine (by omega)
                · left
                  have hf := numFit (x := (B[k]).toNat) h9 hacc (by omega)
                  rw [Nat.mod_eq_of_lt hf.2]
                  exact ⟨by omega, by omega, hf.1, by rw [hinv]; exact zpv hbig (by omega)⟩
            · simp only [decide_eq_false_iff_not] at hsm
              have hsm : (B[k]).toNat < 128 := by omega
              have hbad := fun h => bad 11 (by omega) (hinv.trans (numR_bad (m := m) hsm h9 hacc h))
              have hgood := fun h0 h1 h => ok _ _ (hinv.trans (numR_good (m := m) hsm h9 hacc h0 h1 h))
              clear ok bad hinv
              have hw : IntKind.i64.wrap ((k : Int) + 1) = ((k + 1 : Nat) : Int) := by rw [zaK (by omega) (by omega)]; rfl
              have htk : List.take B.length (bcs B) = bcs B := by rw [← zat B]; exact List.take_length
              have hdr : List.drop (k + 1) (bcs B) = bcs (B.drop (k + 1)) := by simp [bcs]
              obtain ⟨V, hV⟩ : ∃ V, (acc + (B[k]).toNat % 128 * 128 ^ k) % 18446744073709551616 = V := ⟨_, rfl⟩
              rw [hV] at hbad hgood ⊢
              obtain ⟨X, hX⟩ : ∃ X, (B[k]).toNat = X := ⟨_, rfl⟩
              rw [hX] at hbad hgood ⊢
              repeat' first
                | (refine zlS (zcQ hs (zcQ hw (zcQ htk hdr))) ?_; try with_reducible exact True.intro)
                | (refine zap (fun h => ?_) (fun h => ?_) <;> (try rw [h]))
                | refine c_Fail hσ ?_
                | ((with_reducible refine And.intro ?_ ?_); focus (first | omega | rfl | decide | exact zbF))
              all_goals first
                | refine zbr (by simp [zbM, dmT, dm, dm1, zbo]) hl (zhZ (.d _)) ?_
                | refine zbr (by simp [zbM, dmT, dm, dm1, zbo]) hl (zhZ hlow) ?_
              all_goals (try simp only [decide_eq_true_eq, decide_eq_false_iff_not, beq_iff_eq, beq_eq_false_iff_ne] at *)
              all_goals first
                | exact hbad (by omega)
                | exact hgood (by omega) (by omega) (by omega)
      · simp at h
    · obtain ⟨h9, _⟩ | ⟨rfl, hinv⟩ := hinv
      · simp at h; omega
      · have hK1 := bad 11 (by omega) hinv
        refine c_Fail hσ ?_
        (refine gq36 ?_; try with_reducible exact True.intro)
        exact zbr (by simp [zbM, dmT, dm, dm1, zbo]) hl (zhZ hlow) hK1
  · have hb : (e != 0) = true := by simp [h]
    have hK := hK c .rfl (by simp only [zco, if_neg h]; exact hc)
    simp only [zco, if_neg h] at hK
    rw [zmy hσ] at hK
    (refine gq37 hb ?_; try with_reducible exact True.intro)
    exact zew (by simp [zbM, dmT, dm, dm1, zbo]) hl hK


def rrO (c : AV) (e : Int) : zc := .box [c, .d (.int .i64 e)]
theorem zfB {n : Nat} {c : AV} {e : Int} (h : Low n c) : zpd n (rrO c e) := by
  intro x hx
  simp only [List.mem_cons, List.not_mem_nil, or_false] at hx
  rcases hx with rfl | rfl
  · exact h
  · exact .d _
def zjl (c : AV) (s : Rd) : Prop := (c = .d (.slice (bcs s.b)) ∨ c = .exact (bcs s.b)) ∧ (s.e ≠ 0 → s.b = [])
theorem zjl.low {n : Nat} {c : AV} {s : Rd} (h : zjl c s) : Low n c := by
  rcases h.1 with rfl | rfl
  · exact .d _
  · exact .exact _
theorem gq38 {A P Q : Prop} (a : A) (h : Q) (e : A → P = Q := by intro a; simp -dsimp only [↓zgX, ↓zaP, ↓zca, ↓zgZ, ↓zgR, ↓zgP, ↓zgS, ↓zgQ, ↓zcf, ↓zcb, ↓zcg, ↓zcc, ↓zgT, ↓zbX, ↓zch, ↓zcd, ↓zci, ↓zce, ↓zgN, ↓zgW, ↓zbW, ↓zcm, ↓zgC, ↓zgB, ↓zgL, iN, bT, bF, eN, ↓zdH, ↓unC, ↓zR, ↓zN, ↓zO, ↓zP, ↓zan, ↓zba, ↓zcY, ↓zS, ↓zcj, ↓zao, ↓zt, ↓zj, ↓zbI, ↓zg, ↓zah, ↓zX, ↓zaZ, ↓zaU, ↓zd, ↓zH, ↓zl, ↓zy, ↓zar, ↓zdS, ↓zeg, ↓zZ, ↓zaH, ↓zaO, ↓zbn, ↓zbC, ↓zw, ↓zam, ↓zL, ↓zu, ↓zaj, zee, zbN, zbH, unA, zed, bnd, zeY, zad, zag, zeQ, dm, dm1, zE, zaI, zgc, zgb, zaf, Q0, Q1, Q2, Q3, Q4, Q5, zai, zp, zm, zac, zM, Q6, Q7, Q8, Q9, Q10, Q11, Q12, Q13, Q14, Nat.reduceAdd, Q15, Int.reduceToNat, Q16, Q17, Q18, Q19, Q20, reduceIte, Q21, Q22, zC, rep, zT, zfz, toD, zab, Q23, Q24, Q25, Q26, Q27, Q28, Nat.reduceLeDiff, Q29, Nat.reduceSub, Q30, Q31, Q32, sc, Q33, Q34, Q35, List.set_set, a]; rfl) : P := (e a).mpr h
theorem zkE {σ : List zc} {id : Nat} {c : AV} {s : Rd} {f : Int} (hσ : σ[id]? = some (rrO c s.e)) (hc : zjl c s) {K : AV → List zc → Prop}
    (hK : ∀ c', zjl c' (s.fail true f) → K (.tup []) (σ.set id (rrO c' (s.fail true f).e))) : zo Tryz.prog zbf [.box id 0, .d (.int .i64 f)] σ K := by
  refine zjy zlz fun hl => ?_
  have hs := hσ
  rw [rrO] at hs
  have hg : ∀ X, (σ.set id X)[id]? = some X := fun X => zeB hσ
  simp only [zhg, iN, bT, bF, eN]
  (refine gq37 hs ?_; try with_reducible exact True.intro)
  have lowE : Low σ.length (dmT (zbo [])) := by simp [dmT, dm, dm1, zbo, zdx]
  by_cases h : s.e = 0
  · have b1 : (s.e == 0) = true := by simpa using h
    (refine gq38 (zcQ hs (zcQ hg b1)) ?_; try with_reducible exact True.intro)
    by_cases hf : f = 0
    · have b2 : (f != 0) = false := by simpa using hf
      (refine gq37 b2 ?_; try with_reducible exact True.intro)
      have e : s.fail true f = s := by rw [Rd.fail, if_neg (by omega)]
      have := hK c (by rw [e]; exact hc)
      rw [e] at this
      rw [hf, ← h]
      exact zbr lowE hl (zfB hc.low) this
    · have b2 : (f != 0) = true := by simpa using hf
      (refine gq38 (zcQ hg b2) ?_; try with_reducible exact True.intro)
      have e : s.fail true f = ⟨[], f⟩ := by rw [Rd.fail, if_pos ⟨h, hf⟩]; rfl
      have := hK (.exact []) (by rw [e]; exact ⟨.inr rfl, fun _ => rfl⟩)
      rw [e] at this
      exact zbr lowE hl (zfB (.exact _)) this
  · have b1 : (s.e == 0) = false := by simpa using h
    have b2 : (s.e != 0) = true := by simpa using h
    (refine gq37 (zcQ hs (zcQ b1 b2)) ?_; try with_reducible exact True.intro)
    have e : s.fail true f = s := by rw [Rd.fail, if_neg (by omega)]
    have := hK (.exact []) (by rw [e]; exact ⟨.inr (by rw [hc.2 h]; rfl), hc.2⟩)
    rw [e] at this
    exact zbr lowE hl (zfB (.exact _)) this
theorem zoM {c : Bool} {s : Rd} {x : Int} (h : s.e ≠ 0) : s.fail c x = s := by rw [Rd.fail, if_neg (fun g => h g.1)]
theorem rr_pre {σ : List zc} {id : Nat} {c : AV} {s : Rd} {P : Program} {f : FuncId} {xs : List AV} {K : AV → List zc → Prop} (hσ : σ[id]? = some (rrO c s.e)) (hc : zjl c s)
    (h : ∀ σ' c', σ'[id]? = some (rrO c' s.e) → zjl c' s → c' = .d (.slice (bcs s.b)) → (∀ X, σ'.set id X = σ.set id X) → zo P f xs σ' K) : zo P f xs σ K := by
  rcases hc.1 with rfl | rfl
  · exact h σ _ hσ hc rfl fun _ => rfl
  · refine zo.pre (σ' := σ.set id (rrO (.d (.slice (bcs s.b))) s.e)) (xs' := xs) ?_ (h _ _ (zeB hσ) ⟨.inl rfl, hc.2⟩ rfl fun X => List.set_set ..)
    exact .dataB id 0 [.exact (bcs s.b), .d (.int .i64 s.e)] (.exact (bcs s.b)) (bcs s.b) hσ rfl rfl (.refl _ _)
theorem gq39 {A P Q : Prop} (a : A) (h : Q) (e : A → P = Q := by intro a; simp -dsimp only [↓zgX, ↓zaP, ↓zca, ↓zgZ, ↓zgR, ↓zgP, ↓zgS, ↓zgQ, ↓zcf, ↓zcb, ↓zcg, ↓zcc, ↓zgT, ↓zbX, ↓zch, ↓zcd, ↓zci, ↓zce, ↓zgN, ↓zgW, ↓zbW, ↓zcm, ↓zgC, ↓zgB, ↓zgL, iN, bT, bF, eN, ↓zdH, ↓unC, ↓zR, ↓zN, ↓zO, ↓zP, ↓zan, ↓zba, ↓zcY, ↓zS, ↓zcj, ↓zao, ↓zt, ↓zj, ↓zbI, ↓zg, ↓zah, ↓zX, ↓zaZ, ↓zaU, ↓zd, ↓zH, ↓zl, ↓zy, ↓zar, ↓zdS, ↓zeg, ↓zZ, ↓zaH, ↓zaO, ↓zbn, ↓zbC, ↓zw, ↓zam, ↓zL, ↓zu, ↓zaj, zee, zbN, zbH, unA, zed, bnd, zeY, zad, zag, zeQ, dm, dm1, zE, zaI, zgc, zgb, zaf, Q0, Q1, Q2, Q3, Q4, Q5, zai, zp, zm, zac, zM, Q6, Q7, Q8, Q9, Q10, Q11, Q12, Q13, Q14, Nat.reduceAdd, Q15, Int.reduceToNat, Q16, Q17, Q18, Q19, Q20, reduceIte, Q21, Q22, zC, rep, zT, zfz, toD, zab, Q23, Q24, Q25, Q26, Q27, Q28, Nat.reduceLeDiff, Q29, Nat.reduceSub, Q30, Q31, Q32, sc, Q33, Q34, Q35, rrO, a]; rfl) : P := (e a).mpr h
theorem c_rrTakeD {σ : List zc} {id : Nat} {c : AV} {s : Rd} {n : Nat} (hn : n < 9223372036854775808) (hσ : σ[id]? = some (rrO c s.e)) (hc : zjl c s) (hcd : c = .d (.slice (bcs s.b))) (hB : s.b.length ≤ 1073741824) {K : AV → List zc → Prop}
    (hK : ∀ c', zjl c' (zbB true n s).2 → K (.d (.slice (bcs (zbB true n s).1))) (σ.set id (rrO c' (zbB true n s).2.e))) : zo Tryz.prog zda [.box id 0, .d (.int .i64 n)] σ K := by
  refine zjy zly fun hl => ?_
  have hs := hσ
  rw [rrO] at hs
  have hg : ∀ X, (σ.set id X)[id]? = some X := fun X => zeB hσ
  have hneg : decide ((n : Int) < 0) = false := by simp
  simp only [zhf, iN, bT, bF, eN]
  (refine gq37 (zcQ hneg hs) ?_; try with_reducible exact True.intro)
  by_cases h : s.e = 0
  · have b1 : (s.e == 0) = true := by simpa using h
    have b2 : (s.e != 0) = false := by simpa using h
    by_cases hlt : n > s.b.length
    · have hgt : decide ((n : Int) > (s.b.length : Int)) = true := by simp; omega
      have hT : zbB true n s = ([], s.fail true 10) := by rw [zbB, if_pos h, if_pos hlt]
      rw [hT] at hK
      have hf : (s.fail true 10).e = 10 := by rw [fail0 h (by omega)]
      have b3 : ((10 : Int) != 0) = true := by decide
      obtain rfl := hcd
      all_goals
        (refine zlS (zcQ hs (zcQ b1 hgt)) ?_; try with_reducible exact True.intro)
        refine zkE hσ hc ?_
        intro c1 hc1
        have := hK c1 hc1
        rw [hf] at this ⊢
        (refine gq39 (zcQ hg b3) ?_; try with_reducible exact True.intro)
        exact zbr (by simp [zbM, dmT, dm, dm1, zbo]) hl (zfB hc1.low) this
    · have hgt : decide ((n : Int) > (s.b.length : Int)) = false := by simp; omega
      have hT : zbB true n s = (s.b.take n, ⟨s.b.drop n, 0⟩) := by rw [zbB, if_pos h, if_neg hlt]
      rw [hT] at hK
      have hK1 := hK (.d (.slice (bcs (s.b.drop n)))) ⟨.inl rfl, fun h => absurd rfl h⟩
      have htk : List.take n (bcs s.b) = bcs (s.b.take n) := by simp [bcs]
      have hdr : List.drop n (bcs s.b) = bcs (s.b.drop n) := by simp [bcs]
      have hs2 := fun τ => zf (τ := τ) hs
      have hst : ∀ τ x, (σ ++ τ).set id x = σ.set id x ++ τ := fun τ x => zgg hs
      have hall : List.take s.b.length (bcs s.b) = bcs s.b := by rw [← zat s.b]; exact List.take_length
      have htl : (s.b.take n).length ≤ 1073741824 := by rw [List.length_take]; omega
      clear hK
      obtain rfl := hcd
      all_goals
        (refine zlS (zcQ hs (zcQ b1 (zcQ b2 (zcQ hgt (zcQ htk (zcQ hdr hall)))))) ?_; try with_reducible exact True.intro)
        refine ⟨by omega, by omega, by omega, zbF, ?_⟩
        (refine zlS (zcQ hs2 (zcQ hst (zcQ htk (zcQ hdr hall)))) ?_; try with_reducible exact True.intro)
        refine ⟨zbF, by simp, by omega, by omega, by omega, by omega, zbF, ?_⟩
        rw [h]
        exact zpS (by simp [zbM, dmT, dm, dm1, zbo]) hl (zfB (.d _)) hK1
  · have b1 : (s.e == 0) = false := by simpa using h
    have b2 : (s.e != 0) = true := by simpa using h
    have hT : zbB true n s = ([], s) := by rw [zbB, if_neg h]
    rw [hT] at hK
    have := hK c hc
    rw [zmy hσ] at this
    (refine gq37 (zcQ hs (zcQ b1 b2)) ?_; try with_reducible exact True.intro)
    exact zew (by simp [zbM, dmT, dm, dm1, zbo]) hl this
theorem c_rrNumD {σ : List zc} {id : Nat} {c : AV} {s : Rd} {m : Nat} (hm : m < 18446744073709551616) (hσ : σ[id]? = some (rrO c s.e)) (hc : zjl c s) (hcd : c = .d (.slice (bcs s.b))) (hB : s.b.length ≤ 1073741824) {K : AV → List zc → Prop}
    (hK : ∀ c', zjl c' (zco true m s).2 → K (.d (.int .u64 (zco true m s).1)) (σ.set id (rrO c' (zco true m s).2.e))) : zo Tryz.prog zaX [.box id 0, .d (.int .u64 m)] σ K := by
  refine zjy zmu fun hl => ?_
  have hs := hσ
  rw [rrO] at hs
  have hg : ∀ X, (σ.set id X)[id]? = some X := fun X => zeB hσ
  simp only [zhM, iN, bT, bF, eN]
  (refine gq36 ?_; try with_reducible exact True.intro)
  refine zV 10 (fun k vs q => q = σ ∧ ∃ acc : Nat, vs = [.d (.int .u64 acc), .d (.int .u64 (128 ^ k : Nat)), .d (.int .i64 k)] ∧ k ≤ 9 ∧ k ≤ s.b.length ∧ acc < 128 ^ k ∧ (s.e ≠ 0 → k = 0) ∧ ziR m 0 0 s.b = ziR m k acc (s.b.drop k)) ⟨rfl, 0, rfl, by omega, by omega, by simp, fun _ => rfl, by simp⟩ ?_
  rintro k vs q hk ⟨rfl, acc, rfl, h9, hkl, hacc, he0, hinv⟩
  by_cases hend : k = s.b.length
  · have hnil : s.b.drop k = [] := List.drop_eq_nil_of_le (by omega)
    rw [hnil] at hinv
    have hT : zco true m s = (0, s.fail true 10) := by
      unfold zco
      by_cases h : s.e = 0
      · rw [if_pos h, hinv]; rfl
      · rw [if_neg h, zoM h]
    rw [hT] at hK
    have hge : ((k : Int) == (s.b.length : Int)) = true := by simp; omega
    have hne : ((s.fail true 10).e != 0) = true := by
      by_cases h : s.e = 0
      · rw [fail0 h (by omega)]; rfl
      · rw [zoM h]; simpa using h
    obtain rfl := hcd
    all_goals
      (refine zlS (zcQ hs hge) ?_; try with_reducible exact True.intro)
      refine zkE hσ hc ?_
      intro c1 hc1
      have := hK c1 hc1
      (refine gq39 (zcQ hg hne) ?_; try with_reducible exact True.intro)
      exact zbr (by simp [zbM, dmT, dm, dm1, zbo]) hl (zfB hc1.low) this
  · have hkl : k < s.b.length := by omega
    have hge : ((k : Int) == (s.b.length : Int)) = false := by simp; omega
    have h : s.e = 0 := by
      rcases Classical.em (s.e = 0) with h | h
      · exact h
      · have := hc.2 h; have := he0 h; simp_all
    have b1 : (s.e != 0) = false := by simp [h]
    have hx : (bcs s.b)[k]? = some [D.int .u8 (s.b[k]).toNat] := by simp [bcs, hkl, zaQ]
    have hdk : s.b.drop k = s.b[k] :: s.b.drop (k + 1) := List.drop_eq_getElem_cons hkl
    have hbk := (s.b[k]).toNat_lt
    rw [hdk] at hinv
    obtain ⟨X, hX⟩ : ∃ X, (s.b[k]).toNat = X := ⟨_, rfl⟩
    rw [hX] at hx hbk
    by_cases hbad : k = 9 ∧ X > 1
    · have hT : zco true m s = (0, s.fail true 11) := by
        have e : ziR m k acc (s.b[k] :: s.b.drop (k + 1)) = .error 11 := by rw [ziR, if_pos ⟨hbad.1, by omega⟩]
        unfold zco
        rw [if_pos h, hinv, e]
      rw [hT] at hK
      have b9 : ((k : Int) == 9) = true := by simp; omega
      have bx : decide ((X : Int) > 1) = true := by simp; omega
      have hne : ((s.fail true 11).e != 0) = true := by rw [fail0 h (by omega)]; rfl
      obtain rfl := hcd
      all_goals
        (refine zlS (zcQ hs (zcQ hge (zcQ hx (zcQ b1 (zcQ b9 bx))))) ?_; try with_reducible exact True.intro)
        repeat' ((with_reducible refine And.intro ?_ ?_); focus (first | omega | rfl | decide))
        try (refine gq37 bx ?_; try with_reducible exact True.intro)
        refine zkE hσ hc ?_
        intro c1 hc1
        have := hK c1 hc1
        (refine gq39 (zcQ hg hne) ?_; try with_reducible exact True.intro)
        exact zbr (by simp [zbM, dmT, dm, dm1, zbo]) hl (zfB hc1.low) this
    · have h0 := h
      have hf := numFit (x := X) h9 hacc hbad
      have hrem : (X : Int).tmod 128 = ((X % 128 : Nat) : Int) := by rw [Int.tmod_eq_emod_of_nonneg (by omega)]; omega
      have hw1 : IntKind.u64.wrap (((X % 128 : Nat)) : Int) = ((X % 128 : Nat) : Int) := zbe (by omega)
      have hw2 : IntKind.u64.wrap (((X % 128 : Nat) : Int) * ((128 ^ k : Nat) : Int)) = ((X % 128 * 128 ^ k : Nat) : Int) := by rw [← Int.natCast_mul, zbe (by omega)]
      have hw3 : IntKind.u64.wrap ((acc : Int) + ((X % 128 * 128 ^ k : Nat) : Int)) = ((acc + X % 128 * 128 ^ k : Nat) : Int) := by rw [← Int.natCast_add, zbe hf.2]
      have b9 : ((k : Int) == 9) = decide (k = 9) := by rw [Bool.eq_iff_iff]; simp; omega
      have bx : k = 9 → decide ((X : Int) > 1) = false := fun h => by simp; omega
      have badK : X < 128 → ((k > 0 ∧ X = 0) ∨ acc + X % 128 * 128 ^ k > m) → ∀ c1, zjl c1 (s.fail true 11) → K (.d (.int .u64 0)) (q.set id (rrO c1 (s.fail true 11).e)) := fun h1 h2 c1 hc1 => by
        have e : ziR m k acc (s.b[k] :: s.b.drop (k + 1)) = .error 11 := numR_bad (by omega) h9 hacc (by rw [hX, Nat.mod_eq_of_lt hf.2]; rcases h2 with h2 | h2; exact .inl h2; exact .inr (.inr h2))
        have hT : zco true m s = (0, s.fail true 11) := by
          unfold zco
          rw [if_pos h, hinv, e]
        have := hK c1 (by rw [hT]; exact hc1)
        rw [hT] at this
        exact this
      have goodK : X < 128 → ¬ (k > 0 ∧ X = 0) → ¬ (acc + X % 128 * 128 ^ k > m) → K (.d (.int .u64 (acc + X % 128 * 128 ^ k : Nat))) (q.set id (rrO (.d (.slice (bcs (s.b.drop (k + 1))))) 0)) := fun h1 h2 h3 => by
        have e : ziR m k acc (s.b[k] :: s.b.drop (k + 1)) = .ok (acc + X % 128 * 128 ^ k, s.b.drop (k + 1)) := by
          have := numR_good (m := m) (c := s.b[k]) (r := s.b.drop (k + 1)) (by omega) h9 hacc (by rw [hX]; exact h2) (by rw [hX]; exact hbad) (by rw [hX, Nat.mod_eq_of_lt hf.2]; exact h3)
          rw [hX, Nat.mod_eq_of_lt hf.2] at this
          exact this
        have hT : zco true m s = (acc + X % 128 * 128 ^ k, ⟨s.b.drop (k + 1), 0⟩) := by
          unfold zco
          rw [if_pos h, hinv, e]
        have := hK (.d (.slice (bcs (s.b.drop (k + 1))))) (by rw [hT]; exact ⟨.inl rfl, fun h => absurd rfl h⟩)
        rw [hT] at this
        exact this
      clear hK
      have hw : IntKind.i64.wrap ((k : Int) + 1) = ((k + 1 : Nat) : Int) := by rw [zaK (by omega) (by omega)]; rfl
      have htk : List.take s.b.length (bcs s.b) = bcs s.b := by rw [← zat s.b]; exact List.take_length
      have hdr : List.drop (k + 1) (bcs s.b) = bcs (s.b.drop (k + 1)) := by simp [bcs]
      obtain rfl := hcd
      all_goals
        by_cases hk9 : k = 9
        · have b9 : ((k : Int) == 9) = true := by simp; omega
          have bx := bx hk9
          (refine zlS (zcQ hs (zcQ hge (zcQ hx (zcQ b1 (zcQ b9 (zcQ bx (zcQ hrem (zcQ hw1 (zcQ hw2 hw3))))))))) ?_; try with_reducible exact True.intro)
          repeat' ((with_reducible refine And.intro ?_ ?_); focus (first | omega | decide))
          refine zap (fun hsm => ?_) (fun hbig => ?_)
          · have hsm : X < 128 := by simp at hsm; omega
            simp only [hrem]
            repeat' first
              | (refine zlS (zcQ hs (zcQ hw (zcQ hw1 (zcQ htk hdr)))) ?_; try with_reducible exact True.intro)
              | (refine zap (fun h => ?_) (fun h => ?_) <;> (try rw [h]))
              | refine zkE hσ hc ?_
              | ((with_reducible refine And.intro ?_ ?_); focus (first | omega | rfl | decide | exact zbF))
            all_goals (try simp only [decide_eq_true_eq, decide_eq_false_iff_not, beq_iff_eq, beq_eq_false_iff_ne] at *)
            all_goals first
              | (intro c1 hc1; exact zbr (by simp [zbM, dmT, dm, dm1, zbo]) hl (zfB hc1.low) (badK (by omega) (by omega) c1 hc1))
              | (rw [h0]; exact zbr (by simp [zbM, dmT, dm, dm1, zbo]) hl (zfB (.d _)) (goodK (by omega) (by omega) (by omega)))
          · have hbig : X > 127 := by simp at hbig; omega
            have hk8 : k < 9 := by omega
            have hp : 128 ^ (k + 1) ≤ 128 ^ 9 := Nat.pow_le_pow_right (by omega) (by omega)
            have hp9 : (128 : Nat) ^ 9 = 9223372036854775808 := rfl
            have hps : 128 ^ (k + 1) = 128 ^ k * 128 := Nat.pow_succ ..
            (refine gq36 ?_; try with_reducible exact True.intro)
            refine zcE.next (by omega) ⟨rfl, acc + X % 128 * 128 ^ k, ?_, by omega, by omega, hf.1, fun g => absurd h g, ?_⟩
            · have e1 : IntKind.u64.wrap (((128 ^ k : Nat) : Int) * 128) = ((128 ^ (k + 1) : Nat) : Int) := by
                rw [show ((128 ^ k : Nat) : Int) * 128 = ((128 ^ k * 128 : Nat) : Int) by rw [Int.natCast_mul]; rfl, zbe (by omega), hps]
              rw [e1, hw]
            · rw [hinv, ← hX]; exact zpv (by omega) hk8
        · have b9 : ((k : Int) == 9) = false := by simp; omega
          (refine zlS (zcQ hs (zcQ hge (zcQ hx (zcQ b1 (zcQ b9 (zcQ hrem (zcQ hw1 (zcQ hw2 hw3)))))))) ?_; try with_reducible exact True.intro)
          repeat' ((with_reducible refine And.intro ?_ ?_); focus (first | omega | decide))
          refine zap (fun hsm => ?_) (fun hbig => ?_)
          · have hsm : X < 128 := by simp at hsm; omega
            simp only [hrem]
            repeat' first
              | (refine zlS (zcQ hs (zcQ hw (zcQ hw1 (zcQ htk hdr)))) ?_; try with_reducible exact True.intro)
              | (refine zap (fun h => ?_) (fun h => ?_) <;> (try rw [h]))
              | refine zkE hσ hc ?_
              | ((with_reducible refine And.intro ?_ ?_); focus (first | omega | rfl | decide | exact zbF))
            all_goals (try simp only [decide_eq_true_eq, decide_eq_false_iff_not, beq_iff_eq, beq_eq_false_iff_ne] at *)
            all_goals first
              | (intro c1 hc1; exact zbr (by simp [zbM, dmT, dm, dm1, zbo]) hl (zfB hc1.low) (badK (by omega) (by omega) c1 hc1))
              | (rw [h0]; exact zbr (by simp [zbM, dmT, dm, dm1, zbo]) hl (zfB (.d _)) (goodK (by omega) (by omega) (by omega)))
          · have hbig : X > 127 := by simp at hbig; omega
            have hk8 : k < 9 := by omega
            have hp : 128 ^ (k + 1) ≤ 128 ^ 9 := Nat.pow_le_pow_right (by omega) (by omega)
            have hp9 : (128 : Nat) ^ 9 = 9223372036854775808 := rfl
            have hps : 128 ^ (k + 1) = 128 ^ k * 128 := Nat.pow_succ ..
            (refine gq36 ?_; try with_reducible exact True.intro)
            refine zcE.next (by omega) ⟨rfl, acc + X % 128 * 128 ^ k, ?_, by omega, by omega, hf.1, fun g => absurd h g, ?_⟩
            · have e1 : IntKind.u64.wrap (((128 ^ k : Nat) : Int) * 128) = ((128 ^ (k + 1) : Nat) : Int) := by
                rw [show ((128 ^ k : Nat) : Int) * 128 = ((128 ^ k * 128 : Nat) : Int) by rw [Int.natCast_mul]; rfl, zbe (by omega), hps]
              rw [e1, hw]
            · rw [hinv, ← hX]; exact zpv (by omega) hk8
theorem c_rrTake {σ : List zc} {id : Nat} {c : AV} {s : Rd} {n : Nat} (hn : n < 9223372036854775808) (hσ : σ[id]? = some (rrO c s.e)) (hc : zjl c s) (hB : s.b.length ≤ 1073741824) {K : AV → List zc → Prop}
    (hK : ∀ c', zjl c' (zbB true n s).2 → K (.d (.slice (bcs (zbB true n s).1))) (σ.set id (rrO c' (zbB true n s).2.e))) : zo Tryz.prog zda [.box id 0, .d (.int .i64 n)] σ K :=
  rr_pre hσ hc fun _ _ h1 h2 h3 h4 => c_rrTakeD hn h1 h2 h3 hB fun c' hc' => by rw [h4]; exact hK c' hc'
theorem znG {σ : List zc} {id : Nat} {c : AV} {s : Rd} {m : Nat} (hm : m < 18446744073709551616) (hσ : σ[id]? = some (rrO c s.e)) (hc : zjl c s) (hB : s.b.length ≤ 1073741824) {K : AV → List zc → Prop}
    (hK : ∀ c', zjl c' (zco true m s).2 → K (.d (.int .u64 (zco true m s).1)) (σ.set id (rrO c' (zco true m s).2.e))) : zo Tryz.prog zaX [.box id 0, .d (.int .u64 m)] σ K :=
  rr_pre hσ hc fun _ _ h1 h2 h3 h4 => c_rrNumD hm h1 h2 h3 hB fun c' hc' => by rw [h4]; exact hK c' hc'

theorem fail_len (c : Bool) (s : Rd) (x : Int) : (s.fail c x).b.length ≤ s.b.length := by
  unfold Rd.fail
  split
  · cases c <;> simp
  · exact Nat.le_refl _
theorem zic (c : Bool) (m : Nat) (s : Rd) : (zco c m s).2.b.length ≤ s.b.length := by
  unfold zco
  split
  · cases h : ziR m 0 0 s.b with
    | ok x => exact numR_len h
    | error x => exact fail_len _ _ _
  · exact Nat.le_refl _
theorem takeP_lenC (c : Bool) (n : Nat) (s : Rd) : (zbB c n s).2.b.length ≤ s.b.length := by
  unfold zbB
  split
  · split
    · exact fail_len _ _ _
    · simp
  · exact Nat.le_refl _
theorem c_rrRead {σ : List zc} {b : List UInt8} {K : AV → List zc → Prop} (hK : K (.box σ.length 0) (σ ++ [rrO (.d (.slice (bcs b))) 0])) : zo Tryz.prog zlm [.d (.slice (bcs b))] σ K := by
  refine zbG zoP.is rfl (fun _ => [σ.length]) fun hl _ => zoP.goes ?_
  simp only [zoZ, iN, bT, bF, eN]
  (refine gq14 ?_; try with_reducible exact True.intro)
  unfold zlK znV
  have hg : getL (σ ++ [rrO (.d (.slice (bcs b))) 0]) [σ.length] = some [rrO (.d (.slice (bcs b))) 0] := by
    simp [getL, zm]
  simp only [rrO] at hg
  have t1 : (σ ++ [zc.box [.d (.slice (bcs b)), .d (.int .i64 0)]]).take σ.length = σ := zfl _ _
  have n1 : ¬ (σ.length < σ.length) := by omega
  simp only [hg, zlf, zhW, zfD, zbQ, zhX, idxK, zbo, if_neg n1, if_true, t1]
  refine ⟨by simp, hl, by simp, by simp, ?_⟩
  exact hK
theorem c_rrDone {σ : List zc} {id : Nat} {c : AV} {s : Rd} (hσ : σ[id]? = some (rrO c s.e)) (hc : zjl c s) {K : AV → List zc → Prop} (hK : K (.d (.int .i64 (if s.e = 0 ∧ 0 < s.b.length then 12 else s.e))) σ) : zo Tryz.prog zes [.box id 0] σ K := by
  refine zhS zlA fun hl => ?_
  simp only [zhh, iN, bT, bF, eN]
  have hs := hσ
  rw [rrO] at hs
  by_cases h : s.e = 0
  · have b1 : (s.e == 0) = true := by simpa using h
    rcases hc.1 with rfl | rfl
    all_goals
      (refine zlS (zgA hs b1) ?_; try with_reducible exact True.intro)
      refine zap (fun h2 => ?_) (fun h2 => ?_)
      · refine zbx hl ?_
        (try simp only [decide_eq_true_eq, decide_eq_false_iff_not, beq_iff_eq, beq_eq_false_iff_ne, bne_iff_ne, ne_eq, Bool.not_eq_true', Bool.not_eq_false', bne_eq_false_iff_eq] at *)
        rw [if_pos ⟨h, by omega⟩] at hK; exact hK
      · (refine zlS hs ?_; try with_reducible exact True.intro)
        refine zbx hl ?_
        (try simp only [decide_eq_true_eq, decide_eq_false_iff_not, beq_iff_eq, beq_eq_false_iff_ne, bne_iff_ne, ne_eq, Bool.not_eq_true', Bool.not_eq_false', bne_eq_false_iff_eq] at *)
        rw [if_neg (by omega)] at hK; exact hK
  · have b1 : (s.e == 0) = false := by simpa using h
    rcases hc.1 with rfl | rfl
    all_goals
      (refine zlS (zgA hs b1) ?_; try with_reducible exact True.intro)
      refine zbx hl ?_
      rw [if_neg (by omega)] at hK; exact hK
end Go.Proofs.YthpnelbciibjeaaGreat
