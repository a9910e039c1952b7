/- Contracts: the reader's small methods. -/
import Derived.Test.YtaocmalhjfakdaaCodec1
import Derived.Test.YtaocmalhjfakdaaSpMap
import Derived.Test.YtaocmalhjfakdaaKs6
import Derived.Test.YtaocmalhjfakdaaOp1
set_option linter.all false
set_option maxRecDepth 100000
set_option linter.unusedSimpArgs false
namespace Go.Proofs.Ytaocmalhjfakdaa
open Go.AW

def rdO (c : AV) (e : Int) : zc := .box [c, .d (.int .i64 e), .d (.bool true)]
theorem zgB {n : Nat} {c : AV} {e : Int} (h : Low n c) : LowO n (rdO c e) := by
  intro x hx
  simp only [List.mem_cons, List.not_mem_nil, or_false] at hx
  rcases hx with rfl | rfl | rfl
  · exact h
  · exact .d _
  · exact .d _
theorem zkj {σ : List zc} {id : Nat} {c : AV} {e : Int} (hl : zeN σ.length σ) (h : σ[id]? = some (rdO c e)) : Low σ.length c := hl id _ h c (.head _)
def Cell (c : AV) (B : List UInt8) : Prop := c = .d (.slice (bcs B)) ∨ ∃ t, c = .own t (bcs B)
theorem gq27 {A P Q : Prop} (a : A) (h : Q) (e : A → P = Q := by intro a; simp -dsimp only [↓zhM, ↓zbc, ↓zcw, ↓zhN, ↓zhF, ↓zhD, ↓zhG, ↓zhE, ↓zcB, ↓zcx, ↓zcC, ↓zcy, ↓zhH, ↓zcv, ↓zcD, ↓zcz, ↓zcE, ↓zcA, ↓zhC, ↓zhK, ↓zcu, ↓zcF, ↓zhu, ↓zht, ↓zhA, iN, bT, bF, eN, ↓zdW, ↓unC, ↓zW, ↓zP, ↓zQ, ↓zZ, ↓zax, ↓zbx, ↓zdD, ↓zan, ↓zcV, ↓zaD, ↓zn, ↓zp, ↓zca, ↓zh, ↓zak, ↓zN, ↓zbf, ↓zba, ↓ze, ↓zD, ↓zl, ↓zA, ↓zas, ↓zeB, ↓zeQ, ↓zaC, ↓zaP, ↓zaS, ↓zbs, ↓zbW, ↓zx, ↓zap, ↓zK, ↓zr, ↓zaw, zeM, zcl, zcd, unA, zeK, bnd, zfK, zae, zaj, zfy, dm, dm1, zV, zbo, zgx, zgw, keepO, Q0, Q1, Q2, Q3, Q4, Q5, zaz, zG, zi, zau, zY, Q6, Q7, Q8, Q9, Q10, Q11, Q12, Q13, Q14, Nat.reduceAdd, Q15, Int.reduceToNat, Q16, Q17, Q18, Q19, Q20, reduceIte, Q21, Q22, zu, rep, zR, zfV, toD, zab, Q23, Q24, Q25, Q26, Q27, Q28, Nat.reduceLeDiff, Q29, Nat.reduceSub, Q30, Q31, Q32, sc, Q33, Q34, Q35, Bool.and_false, Bool.and_self, Bool.false_and, Bool.not_false, Bool.not_true, Bool.true_and, Int.toNat_natCast, Int.toNat_zero, List.drop_zero, List.length_map, List.length_nil, List.nil_append, List.take_length, Nat.sub_zero, Nat.zero_add, Option.isSome_none, Option.isSome_some, Option.map_none, Option.map_some, zbg, beq_self_eq_true, bne_self_eq_false, a]; rfl) : P := (e a).mpr h
theorem zjx {σ : List zc} {id : Nat} {c : AV} {e : Int} (hσ : σ[id]? = some (rdO c e)) {K : AV → List zc → Prop} (hK : K (.d (.bool (e != 0))) σ) : zt Try.prog zaH [.box id 0] σ K := by
  refine acE1 zhq fun hl => ?_
  rw [rdO] at hσ
  simp only [zey, iN, bT, bF, eN]
  (refine gq27 hσ ?_; try with_reducible exact True.intro)
  refine zgk hl ?_
  exact hK
theorem c_Err {σ : List zc} {id : Nat} {c : AV} {e : Int} (hσ : σ[id]? = some (rdO c e)) {K : AV → List zc → Prop} (hK : K (.d (.int .i64 e)) σ) : zt Try.prog zde [.box id 0] σ K := by
  refine acE1 ziN fun hl => ?_
  rw [rdO] at hσ
  simp only [zfx, iN, bT, bF, eN]
  (refine gq27 hσ ?_; try with_reducible exact True.intro)
  refine zgk hl ?_
  exact hK
theorem gqc2 {A B : Prop} (a : A) (b : B) : A ∧ B := ⟨a, b⟩
theorem gq28 {P Q : Prop} (h : Q) (e : P = Q := by simp -dsimp only [↓zhM, ↓zbc, ↓zcw, ↓zhN, ↓zhF, ↓zhD, ↓zhG, ↓zhE, ↓zcB, ↓zcx, ↓zcC, ↓zcy, ↓zhH, ↓zcv, ↓zcD, ↓zcz, ↓zcE, ↓zcA, ↓zhC, ↓zhK, ↓zcu, ↓zcF, ↓zhu, ↓zht, ↓zhA, iN, bT, bF, eN, ↓zdW, ↓unC, ↓zW, ↓zP, ↓zQ, ↓zZ, ↓zax, ↓zbx, ↓zdD, ↓zan, ↓zcV, ↓zaD, ↓zn, ↓zp, ↓zca, ↓zh, ↓zak, ↓zN, ↓zbf, ↓zba, ↓ze, ↓zD, ↓zl, ↓zA, ↓zas, ↓zeB, ↓zeQ, ↓zaC, ↓zaP, ↓zaS, ↓zbs, ↓zbW, ↓zx, ↓zap, ↓zK, ↓zr, ↓zaw, zeM, zcl, zcd, unA, zeK, bnd, zfK, zae, zaj, zfy, dm, dm1, zV, zbo, zgx, zgw, keepO, Q0, Q1, Q2, Q3, Q4, Q5, zaz, zG, zi, zau, zY, Q6, Q7, Q8, Q9, Q10, Q11, Q12, Q13, Q14, Nat.reduceAdd, Q15, Int.reduceToNat, Q16, Q17, Q18, Q19, Q20, reduceIte, Q21, Q22, zu, rep, zR, zfV, toD, zab, Q23, Q24, Q25, Q26, Q27, Q28, Nat.reduceLeDiff, Q29, Nat.reduceSub, Q30, Q31, Q32, sc, Q33, Q34, Q35]; rfl) : P := e.mpr h
theorem c_Fail {σ : List zc} {id : Nat} {c : AV} {e f : Int} (hσ : σ[id]? = some (rdO c e)) {K : AV → List zc → Prop} (hK : K (.tup []) (σ.set id (rdO c (if e = 0 then f else e)))) : zt Try.prog zF [.box id 0, .d (.int .i64 f)] σ K := by
  refine acE2 zig fun hl => ?_
  have hc := zkj hl hσ
  simp only [zfj, iN, bT, bF, eN]
  (refine gq28 ?_; try with_reducible exact True.intro)
  refine zjx hσ ?_
  have hs := hσ
  rw [rdO] at hs
  by_cases h : e = 0
  · have hb : (e != 0) = false := by simp [h]
    (refine gq27 (gqc2 hs hb) ?_; try with_reducible exact True.intro)
    rw [if_pos h] at hK
    exact zeW (by simp [dmT, dm, dm1, zcg, zjC]) hl (zgB hc) hK
  · have hb : (e != 0) = true := by simp [h]
    (refine gq27 (gqc2 hs hb) ?_; try with_reducible exact True.intro)
    rw [if_neg h, zmt hσ] at hK
    exact zeX (by simp [dmT, dm, dm1, zcg, zjC]) hl hK
theorem gq29 {A P Q : Prop} (a : A) (h : Q) (e : A → P = Q := by intro a; simp -dsimp only [↓zhM, ↓zbc, ↓zcw, ↓zhN, ↓zhF, ↓zhD, ↓zhG, ↓zhE, ↓zcB, ↓zcx, ↓zcC, ↓zcy, ↓zhH, ↓zcv, ↓zcD, ↓zcz, ↓zcE, ↓zcA, ↓zhC, ↓zhK, ↓zcu, ↓zcF, ↓zhu, ↓zht, ↓zhA, iN, bT, bF, eN, ↓zdW, ↓unC, ↓zW, ↓zP, ↓zQ, ↓zZ, ↓zax, ↓zbx, ↓zdD, ↓zan, ↓zcV, ↓zaD, ↓zn, ↓zp, ↓zca, ↓zh, ↓zak, ↓zN, ↓zbf, ↓zba, ↓ze, ↓zD, ↓zl, ↓zA, ↓zas, ↓zeB, ↓zeQ, ↓zaC, ↓zaP, ↓zaS, ↓zbs, ↓zbW, ↓zx, ↓zap, ↓zK, ↓zr, ↓zaw, zeM, zcl, zcd, unA, zeK, bnd, zfK, zae, zaj, zfy, dm, dm1, zV, zbo, zgx, zgw, keepO, Q0, Q1, Q2, Q3, Q4, Q5, zaz, zG, zi, zau, zY, Q6, Q7, Q8, Q9, Q10, Q11, Q12, Q13, Q14, Nat.reduceAdd, Q15, Int.reduceToNat, Q16, Q17, Q18, Q19, Q20, reduceIte, Q21, Q22, zu, rep, zR, zfV, toD, zab, Q23, Q24, Q25, Q26, Q27, Q28, Nat.reduceLeDiff, Q29, Nat.reduceSub, Q30, Q31, Q32, sc, Q33, Q34, Q35, a]; rfl) : P := (e a).mpr h
theorem c_Done {σ : List zc} {id : Nat} {c : AV} {e : Int} {B : List UInt8} (hσ : σ[id]? = some (rdO c e)) (hc : Cell c B) {K : AV → List zc → Prop} (hK : K (.d (.int .i64 (if e = 0 ∧ 0 < B.length then 12 else e))) σ) : zt Try.prog zcO [.box id 0] σ K := by
  refine acE1 zih fun hl => ?_
  simp only [zfk, iN, bT, bF, eN]
  (refine gq28 ?_; try with_reducible exact True.intro)
  refine c_Err hσ ?_
  have hs := hσ
  rw [rdO] at hs
  rcases hc with rfl | ⟨t, rfl⟩
  all_goals
    (refine gq29 hs ?_; try with_reducible exact True.intro)
    refine zaY (fun h => ?_) (fun h => ?_)
    · refine zgk hl ?_
      (try simp only [decide_eq_true_eq, decide_eq_false_iff_not, beq_iff_eq, beq_eq_false_iff_ne, bne_iff_ne, ne_eq, Bool.not_eq_true', Bool.not_eq_false', bne_eq_false_iff_eq] at *)
      rw [if_neg (by omega)] at hK
      exact hK
    · (refine gq27 hs ?_; try with_reducible exact True.intro)
      refine zaY (fun h2 => ?_) (fun h2 => ?_)
      · refine zgk hl ?_
        (try simp only [decide_eq_true_eq, decide_eq_false_iff_not, beq_iff_eq, beq_eq_false_iff_ne, bne_iff_ne, ne_eq, Bool.not_eq_true', Bool.not_eq_false', bne_eq_false_iff_eq] at *)
        rw [if_pos ⟨h, by omega⟩] at hK; exact hK
      · refine zgk hl ?_
        (try simp only [decide_eq_true_eq, decide_eq_false_iff_not, beq_iff_eq, beq_eq_false_iff_ne, bne_iff_ne, ne_eq, Bool.not_eq_true', Bool.not_eq_false', bne_eq_false_iff_eq] at *)
        rw [if_neg (by omega), h] at hK; exact hK
theorem c_Read {σ : List zc} {es : List (List D)} (he : ∀ e ∈ es, e.length = 1) (hn : es.length ≤ 1073741824) {K : AV → List zc → Prop} (hK : K (.box (σ.length + 1) 0) (σ ++ [.tok 1 es.length, rdO (.own σ.length es) 0])) : zt Try.prog zgH [.d (.slice es)] σ K := by
  refine zcW zjP.is rfl (fun _ => [σ.length, σ.length + 1]) fun hl _ => zjP.goes ?_
  simp only [zjW, iN, bT, bF, eN]
  (refine gq28 ?_; try with_reducible exact True.intro)
  refine zhL he hn ?_
  (refine gq28 ?_; try with_reducible exact True.intro)
  unfold zkh zlB
  have hg : getL (σ ++ [.tok 1 es.length, rdO (.own σ.length es) 0]) [σ.length, σ.length + 1] = some [.tok 1 es.length, rdO (.own σ.length es) 0] := by
    simp [getL, zG, zi]
  simp only [rdO] at hg
  have t1 : (σ ++ [zc.tok 1 es.length, zc.box [AV.own σ.length es, .d (.int .i64 0), .d (.bool true)]]).take σ.length = σ := zfl _ _
  have n1 : ¬ (σ.length < σ.length) := by omega
  have n2 : ¬ (σ.length + 1 < σ.length) := by omega
  have n3 : ¬ (σ.length + 1 = σ.length) := by omega
  simp only [hg, zjZ, zhd, zfp, zbB, zho, idxK, zcg, if_neg n1, if_neg n2, if_neg n3, if_true, t1]
  refine ⟨by simp, hl, by simp, by simp, ?_⟩
  exact hK

open Go.AW

def Nxt (c c' : AV) : Prop := c' = c ∨ ∃ x, c' = .d x
theorem Nxt.rfl {c : AV} : Nxt c c := .inl (Eq.refl c)
theorem Nxt.trans {a b c : AV} (h : Nxt a b) (g : Nxt b c) : Nxt a c := by
  rcases g with rfl | g
  · exact h
  · exact .inr g
theorem Nxt.low {n : Nat} {a b : AV} (h : Nxt a b) (g : Low n a) : Low n b := by
  rcases h with rfl | ⟨x, rfl⟩
  · exact g
  · exact .d _
theorem cell_d {B : List UInt8} : Cell (.d (.slice (bcs B))) B := .inl rfl
theorem fail0 {c : Bool} {s : Rd} {x : Int} (h : s.e = 0) (hx : x ≠ 0) : s.fail c x = ⟨if c then [] else s.b, x⟩ := by rw [Rd.fail, if_pos ⟨h, hx⟩]
theorem c_Take {σ : List zc} {id : Nat} {c : AV} {s : Rd} {n : Nat} (hn : n < 9223372036854775808) (hσ : σ[id]? = some (rdO c s.e)) (hc : Cell c s.b) (hB : s.b.length ≤ 1073741824) {K : AV → List zc → Prop}
    (hK : ∀ c', Nxt c c' → Cell c' (zed false n s).2.b → K (.d (.slice (bcs (zed false n s).1))) (σ.set id (rdO c' (zed false n s).2.e))) : zt Try.prog zcN [.box id 0, .d (.int .i64 n)] σ K := by
  refine acE2 zif fun hl => ?_
  have hlow := zkj hl hσ
  obtain ⟨B, e⟩ := s
  simp only at hσ hc hB
  have hs := hσ
  rw [rdO] at hs
  have hneg : decide ((n : Int) < 0) = false := by simp
  simp only [zfi, iN, bT, bF, eN]
  (refine gq29 hneg ?_; try with_reducible exact True.intro)
  refine zjx hσ ?_
  by_cases h : e = 0
  · subst h
    have hb : ((0 : Int) != 0) = false := by simp
    by_cases hlt : n > B.length
    · have hgt : decide ((n : Int) > (B.length : Int)) = true := by simp; omega
      have hK1 := hK c .rfl (by simp only [zed, if_true, if_pos hlt]; rw [fail0 rfl (by omega)]; exact hc)
      simp only [zed, if_true, if_pos hlt] at hK1
      rw [fail0 rfl (by omega)] at hK1
      clear hK
      rcases hc with rfl | ⟨t, rfl⟩
      all_goals
        (refine gq27 (gqc2 hs (gqc2 hb hgt)) ?_; try with_reducible exact True.intro)
        refine c_Fail hσ ?_
        (refine gq28 ?_; try with_reducible exact True.intro)
        refine zjx (c := _) (e := 10) (zjK hσ) ?_
        have hb' : ((10 : Int) != 0) = true := by simp
        (refine gq29 hb' ?_; try with_reducible exact True.intro)
        exact zeW (by simp [zgi, dmT, dm, dm1, zcg]) hl (zgB hlow) hK1
    · have hgt : decide ((n : Int) > (B.length : Int)) = false := by simp; omega
      have hK1 := hK (.d (.slice (bcs (B.drop n)))) (.inr ⟨_, rfl⟩) (by simp only [zed, if_true, if_neg hlt]; exact cell_d)
      simp only [zed, if_true, if_neg hlt] at hK1
      clear hK
      have htk : List.take n (bcs B) = bcs (B.take n) := by simp [bcs]
      have hdr : List.drop n (bcs B) = bcs (B.drop n) := by simp [bcs]
      rcases hc with rfl | ⟨t, rfl⟩
      all_goals
        (refine gq27 (gqc2 hs (gqc2 hb hgt)) ?_; try with_reducible exact True.intro)
        refine zjx hσ ?_
        (refine gq27 (gqc2 hs (gqc2 hb (gqc2 htk hdr))) ?_; try with_reducible exact True.intro)
        refine ⟨by omega, by omega, by omega, zej, zhL zej (by rw [zbg, List.length_take]; omega) ?_⟩
        have hs2 := fun τ => zf (τ := τ) hs
        have hst : ∀ τ x, (σ ++ τ).set id x = σ.set id x ++ τ := fun τ x => zhc hs
        have hall : List.take (bcs B).length (bcs B) = bcs B := List.take_length
        (refine gq27 (gqc2 hs2 (gqc2 htk (gqc2 hdr hst))) ?_; try with_reducible exact True.intro)
        refine ⟨by omega, by omega, by omega, zej, ?_⟩
        rw [zbg] at hall
        rw [hall, hdr]
        exact ends_set (by simp [zgi, dmT, dm, dm1, zcg]) hl (zgB (.d _)) hK1
  · have hb : (e != 0) = true := by simp [h]
    have hK := hK c .rfl (by simp only [zed, if_neg h]; exact hc)
    simp only [zed, if_neg h] at hK
    rw [zmt hσ] at hK
    (refine gq27 hb ?_; try with_reducible exact True.intro)
    refine zjx hσ ?_
    (refine gq27 hb ?_; try with_reducible exact True.intro)
    exact zeX (by simp [zgi, dmT, dm, dm1, zcg]) hl hK
theorem c_Num {σ : List zc} {id : Nat} {c : AV} {s : Rd} {m : Nat} (hm : m < 18446744073709551616) (hσ : σ[id]? = some (rdO c s.e)) (hc : Cell c s.b) (hB : s.b.length ≤ 1073741824) {K : AV → List zc → Prop}
    (hK : ∀ c', Nxt c c' → Cell c' (zaZ false m s).2.b → K (.d (.int .u64 (zaZ false m s).1)) (σ.set id (rdO c' (zaZ false m s).2.e))) : zt Try.prog zbr [.box id 0, .d (.int .u64 m)] σ K := by
  refine acE2 ziM fun hl => ?_
  have hlow := zkj hl hσ
  obtain ⟨B, e⟩ := s
  simp only at hσ hc hB
  have hs := hσ
  rw [rdO] at hs
  simp only [zfw, iN, bT, bF, eN]
  (refine gq28 ?_; try with_reducible exact True.intro)
  refine zjx hσ ?_
  by_cases h : e = 0
  · subst h
    have hb : ((0 : Int) != 0) = false := by simp
    have ok : ∀ n r, zhU m 0 0 B = .ok (n, r) → K (.d (.int .u64 n)) (σ.set id (rdO (.d (.slice (bcs r))) 0)) := fun n r h => by
      have := hK (.d (.slice (bcs r))) (.inr ⟨_, rfl⟩) (by simp only [zaZ, if_true, h]; exact cell_d)
      simpa only [zaZ, if_true, h] using this
    have bad : ∀ x, x ≠ 0 → zhU m 0 0 B = .error x → K (.d (.int .u64 0)) (σ.set id (rdO c x)) := fun x hx h => by
      have := hK c .rfl (by simp only [zaZ, if_true, h]; rw [fail0 rfl hx]; exact hc)
      simp only [zaZ, if_true, h] at this
      rw [fail0 rfl hx] at this
      exact this
    clear hK
    (refine gq29 hb ?_; try with_reducible exact True.intro)
    refine zai 10 (fun k vs s => s = σ ∧ ∃ acc : Nat, vs = [.d (.int .u64 acc), .d (.int .i64 k)] ∧ ((k ≤ 9 ∧ k ≤ B.length ∧ acc < 128 ^ k ∧ zhU m 0 0 B = zhU m k acc (B.drop k)) ∨ (k = 10 ∧ zhU m 0 0 B = .error 11))) ⟨rfl, 0, rfl, .inl ⟨by omega, by omega, by simp, by simp⟩⟩ ?_
    rintro k vs s hk ⟨rfl, acc, rfl, hinv⟩
    (refine gq28 ?_; try with_reducible exact True.intro)
    refine zaY (fun h => ?_) (fun h => ?_)
    · obtain ⟨h9, hkl, hacc, hinv⟩ | ⟨rfl, _⟩ := hinv
      · by_cases hend : k = B.length
        · have hge : decide ((k : Int) ≥ (B.length : Int)) = true := by simp; omega
          have hnil : B.drop k = [] := List.drop_eq_nil_of_le (by omega)
          rw [hnil] at hinv
          have hK1 := bad 10 (by omega) hinv
          rcases hc with rfl | ⟨t, rfl⟩
          all_goals
            (refine gq27 (gqc2 hs hge) ?_; try with_reducible exact True.intro)
            refine c_Fail hσ ?_
            (refine gq28 ?_; try with_reducible exact True.intro)
            exact zeW (by simp [zgi, dmT, dm, dm1, zcg]) hl (zgB hlow) hK1
        · have hge : decide ((k : Int) ≥ (B.length : Int)) = false := by simp; omega
          have hkl : k < B.length := by omega
          have hx : (bcs B)[k]? = some [D.int .u8 (B[k]).toNat] := by simp [bcs, hkl, zbm]
          have hdk : B.drop k = B[k] :: B.drop (k + 1) := List.drop_eq_getElem_cons hkl
          have hbk := (B[k]).toNat_lt
          rw [hdk] at hinv
          rcases hc with rfl | ⟨t, rfl⟩
          all_goals
            (refine gq27 (gqc2 hs (gqc2 hge hx)) ?_; try with_reducible exact True.intro)
            rw [numStep hbk h9 hacc]
            refine ⟨by omega, by rw [zbJ (by omega) (by omega)]; omega, zaY (fun hbig => ?_) (fun hsm => ?_)⟩
            · (refine gq28 ?_; try with_reducible exact True.intro)
              simp only [decide_eq_true_eq] at hbig
              have hbig : (B[k]).toNat > 127 := by omega
              refine zds.next (by omega) ⟨rfl, (acc + (B[k]).toNat % 128 * 128 ^ k) % 18446744073709551616, ?_, ?_⟩
              · rw [zbJ (by omega) (by omega)]; rfl
              · by_cases hk9 : k = 9
                · right
                  refine ⟨by omega, ?_⟩
                  rw [hinv]
                  subst hk9
                  exact numR_nine (by omega)
                · left
                  have hf := numFit (x := (B[k]).toNat) h9 hacc (by omega)
                  rw [Nat.mod_eq_of_lt hf.2]
                  exact ⟨by omega, by omega, hf.1, by rw [hinv]; exact numR_big hbig (by omega)⟩
            · simp only [decide_eq_false_iff_not] at hsm
              have hsm : (B[k]).toNat < 128 := by omega
              have hbad := fun h => bad 11 (by omega) (hinv.trans (numR_bad (m := m) hsm h9 hacc h))
              have hgood := fun h0 h1 h => ok _ _ (hinv.trans (numR_good (m := m) hsm h9 hacc h0 h1 h))
              clear ok bad hinv
              have hw : IntKind.i64.wrap ((k : Int) + 1) = ((k + 1 : Nat) : Int) := by rw [zbJ (by omega) (by omega)]; rfl
              have htk : List.take B.length (bcs B) = bcs B := by rw [← zbg B]; exact List.take_length
              have hdr : List.drop (k + 1) (bcs B) = bcs (B.drop (k + 1)) := by simp [bcs]
              obtain ⟨V, hV⟩ : ∃ V, (acc + (B[k]).toNat % 128 * 128 ^ k) % 18446744073709551616 = V := ⟨_, rfl⟩
              rw [hV] at hbad hgood ⊢
              obtain ⟨X, hX⟩ : ∃ X, (B[k]).toNat = X := ⟨_, rfl⟩
              rw [hX] at hbad hgood ⊢
              repeat' first
                | (refine gq27 (gqc2 hs (gqc2 hw (gqc2 htk hdr))) ?_; try with_reducible exact True.intro)
                | (refine zaY (fun h => ?_) (fun h => ?_) <;> (try rw [h]))
                | refine c_Fail hσ ?_
                | ((with_reducible refine And.intro ?_ ?_); focus (first | omega | rfl | decide | exact zej))
              all_goals first
                | refine zeW (by simp [zgi, dmT, dm, dm1, zcg]) hl (zgB (.d _)) ?_
                | refine zeW (by simp [zgi, dmT, dm, dm1, zcg]) hl (zgB hlow) ?_
              all_goals (try simp only [decide_eq_true_eq, decide_eq_false_iff_not, beq_iff_eq, beq_eq_false_iff_ne] at *)
              all_goals first
                | exact hbad (by omega)
                | exact hgood (by omega) (by omega) (by omega)
      · simp at h
    · obtain ⟨h9, _⟩ | ⟨rfl, hinv⟩ := hinv
      · simp at h; omega
      · have hK1 := bad 11 (by omega) hinv
        refine c_Fail hσ ?_
        (refine gq28 ?_; try with_reducible exact True.intro)
        exact zeW (by simp [zgi, dmT, dm, dm1, zcg]) hl (zgB hlow) hK1
  · have hb : (e != 0) = true := by simp [h]
    have hK := hK c .rfl (by simp only [zaZ, if_neg h]; exact hc)
    simp only [zaZ, if_neg h] at hK
    rw [zmt hσ] at hK
    (refine gq29 hb ?_; try with_reducible exact True.intro)
    exact zeX (by simp [zgi, dmT, dm, dm1, zcg]) hl hK

theorem gq30 {P Q : Prop} (h : Q) (e : P = Q := by simp -dsimp only [↓zhM, ↓zbc, ↓zcw, ↓zhN, ↓zhF, ↓zhD, ↓zhG, ↓zhE, ↓zcB, ↓zcx, ↓zcC, ↓zcy, ↓zhH, ↓zcv, ↓zcD, ↓zcz, ↓zcE, ↓zcA, ↓zhC, ↓zhK, ↓zcu, ↓zcF, ↓zhu, ↓zht, ↓zhA, iN, bT, bF, eN, ↓zdW, ↓unC, ↓zW, ↓zP, ↓zQ, ↓zZ, ↓zax, ↓zbx, ↓zdD, ↓zan, ↓zcV, ↓zaD, ↓zn, ↓zp, ↓zca, ↓zh, ↓zak, ↓zN, ↓zbf, ↓zba, ↓ze, ↓zD, ↓zl, ↓zA, ↓zas, ↓zeB, ↓zeQ, ↓zaC, ↓zaP, ↓zaS, ↓zbs, ↓zbW, ↓zx, ↓zap, ↓zK, ↓zr, ↓zaw, zeM, zcl, zcd, unA, zeK, bnd, zfK, zae, zaj, zfy, dm, dm1, zV, zbo, zgx, zgw, keepO, Q0, Q1, Q2, Q3, Q4, Q5, zaz, zG, zi, zau, zY, Q6, Q7, Q8, Q9, Q10, Q11, Q12, Q13, Q14, Nat.reduceAdd, Q15, Int.reduceToNat, Q16, Q17, Q18, Q19, Q20, reduceIte, Q21, Q22, zu, rep, zR, zfV, toD, zab, Q23, Q24, Q25, Q26, Q27, Q28, Nat.reduceLeDiff, Q29, Nat.reduceSub, Q30, Q31, Q32, sc, Q33, Q34, Q35, List.set_set]; rfl) : P := e.mpr h
theorem c_rdBytes {σ : List zc} {id : Nat} {c : AV} {s : Rd} {m : Nat} (hm : m < 9223372036854775808) (hσ : σ[id]? = some (rdO c s.e)) (hc : Cell c s.b) (hB : s.b.length ≤ 1073741824) {K : AV → List zc → Prop}
    (hK : ∀ c', Nxt c c' → Cell c' (zbj false m s).2.b → K (.d (.slice (bcs (zbj false m s).1))) (σ.set id (rdO c' (zbj false m s).2.e))) : zt Try.prog zaX [.box id 0, .d (.int .i64 m)] σ K := by
  refine acE2 zhr fun hl => ?_
  have hlow := zkj hl hσ
  have hmax : (if (m : Int) > 0 then (m : Int) else 0) = (m : Int) := by split <;> omega
  simp only [zez, iN, bT, bF, eN]
  (refine gq29 hmax ?_; try with_reducible exact True.intro)
  rw [zfU (n := m) (by omega)]
  refine c_Num (by omega) hσ hc hB ?_
  intro c1 n1 hc1
  have hle := zcK false m s
  have hln := zmC m s
  have hw : IntKind.i64.wrap (((zaZ false m s).1 : Nat) : Int) = (((zaZ false m s).1 : Nat) : Int) := zbJ (by omega) (by omega)
  (refine gq29 hw ?_; try with_reducible exact True.intro)
  refine c_Take (by omega) (zjK hσ) hc1 (by omega) ?_
  intro c2 n2 hc2
  (refine gq30 ?_; try with_reducible exact True.intro)
  have := hK c2 (n1.trans n2) hc2
  exact zeW (by simp [zgi, dmT, dm, dm1, zcg]) hl (zgB ((n1.trans n2).low hlow)) this

theorem fail_e (s : Rd) (f : Int) : (s.fail false f).e = if s.e = 0 then f else s.e := by
  unfold Rd.fail
  by_cases h : s.e = 0 <;> by_cases h2 : f = 0 <;> simp [h, h2]
end Go.Proofs.Ytaocmalhjfakdaa
