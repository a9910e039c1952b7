/- Contracts: headers are read from bytes. -/
import Derived.Test.YthpnelbciibjeaaGreatBk1
import Derived.Test.YthpnelbciibjeaaGreatRd1
import Derived.Test.YthpnelbciibjeaaGreatSpRqP
set_option linter.all false
set_option maxRecDepth 100000
set_option linter.unusedSimpArgs false
set_option linter.unusedVariables false
namespace Go.Proofs.YthpnelbciibjeaaGreat
open Go.AW

theorem take_all {σ S : List zc} (h : ∀ (j : Nat) (x : zc), σ[j]? = some x → S[j]? = some x) : S.take σ.length = σ := by
  apply List.ext_getElem?
  intro i
  rw [List.getElem?_take]
  split
  · rename_i hi
    rw [h i _ (List.getElem?_eq_getElem hi), List.getElem?_eq_getElem hi]
  · rw [List.getElem?_eq_none (by omega)]
theorem zlv {σ S : List zc} {K : AV → List zc → Prop} {l : List AV} (h : S.take σ.length = σ) (h1 : Low σ.length (dmT (zbo l))) (hl : zeS σ.length σ) (hK : K (dmT (zbo l)) σ) : AW.Ends σ.length K (some l) S := by
  unfold AW.Ends
  rw [h]
  exact ⟨h1, hl, hK⟩
section

variable {σ : List zc} {K : AV → List zc → Prop}

theorem zjd {cid rid : Nat} {c : AV} {s : Rd} (h1 : σ[cid]? = some (.box [.box rid 0])) (hσ : σ[rid]? = some (rdO c s.e)) (hc : Cell c s.b) (hB : s.b.length ≤ 1073741824)
    (hK : ∀ c', Cell c' (zco false 9007199254740992 s).2.b → K (.d (.int .i64 (zco false 9007199254740992 s).1)) (σ.set rid (rdO c' (zco false 9007199254740992 s).2.e))) : zo Tryz.prog zbY [.box cid 0] σ K := by
  refine zhS znw fun hl => ?_
  simp only [ziF, iN, bT, bF, eN]
  have hlow := zmz hl hσ
  have hle := zjF false 9007199254740992 s
  have hw2 : IntKind.i64.wrap (((zco false 9007199254740992 s).1 : Nat) : Int) = (((zco false 9007199254740992 s).1 : Nat) : Int) := zaK (by omega) (by omega)
  refine gq2 h1 ?_
  refine c_Num (m := 9007199254740992) (by omega) hσ hc hB fun c' hn hc' => ?_
  refine gq2 hw2 ?_
  exact ends_wrote0 (by simp [zbM, dmT, dm, dm1, zbo]) hl (zhZ (hn.low hlow)) (hK c' hc')
theorem c_blParse {b : List UInt8} (hb : b.length ≤ 1073741824) (hK : K (.tup [znn (hdrP false b).1, .d (.int .i64 (hdrP false b).2)]) σ) : zo Tryz.prog zht [.d (.slice (bcs b))] σ K := by
  refine zhS zpZ fun hl => ?_
  simp only [zkV, iN, bT, bF, eN]
  refine gq1 ?_
  refine c_Read zbF (by rw [zat]; omega) ?_
  have e1 : ∀ A B : zc, (σ ++ [A] ++ [B]).length = σ.length + 2 := fun A B => by simp
  have e2 : ∀ A : zc, (σ ++ [A]).length = σ.length + 1 := fun A => by simp
  rw [e2]
  refine gq1 ?_
  refine c_Take (n := 1) (s := ⟨b, 0⟩) (by omega) (by rw [zp]; rfl) (.inr ⟨_, rfl⟩) hb fun c1 n1 hc1 => ?_
  have hT : (zbB false 1 ⟨b, 0⟩).2.b.length ≤ b.length := takeP_len 1 ⟨b, 0⟩
  have hp : hdrP false b = if ziu (hdrQ false (zbB false 1 ⟨b, 0⟩).2).2 ≠ 0 ∨ (zbB false 1 ⟨b, 0⟩).1 ≠ [3] then (⟨0, 0, 0, 0, 0⟩, 90) else ((hdrQ false (zbB false 1 ⟨b, 0⟩).2).1, 0) := rfl
  obtain ⟨k, hk⟩ : ∃ k, zbB false 1 ⟨b, 0⟩ = k := ⟨_, rfl⟩
  rw [hk] at hc1 hp hT ⊢
  have e3 : ∀ A B C : zc, (σ ++ [A] ++ [B, C]).length = σ.length + 3 := fun A B C => by simp
  rw [e3]
  have e4 : ∀ (A B C D X : zc), ((σ ++ [A, B, C, D]).set (σ.length + 2) X).length = σ.length + 4 := fun A B C D X => by simp
  have hq : hdrQ false k.2 = hdrQ false k.2 := rfl
  conv at hq => rhs; unfold hdrQ
  dsimp only at hq
  obtain ⟨q, hqq⟩ : ∃ q, hdrQ false k.2 = q := ⟨_, rfl⟩
  rw [hqq] at hp hq
  obtain ⟨M, hM⟩ : ∃ M : Nat, 9007199254740992 = M := ⟨_, rfl⟩
  have hl0 := zkp M k.2
  have hb0 := zjF false M k.2
  refine gq1 ?_
  refine c_Num (m := 9007199254740992) (s := k.2) (by omega) (by rw [zp]; rfl) hc1 (by omega) fun c2 n2 hc2 => ?_
  rw [hM] at hc2 hq ⊢
  obtain ⟨a0, h0⟩ : ∃ a, zco false M k.2 = a := ⟨_, rfl⟩
  rw [h0] at hc2 hq hl0 hb0 ⊢
  have hw2 : IntKind.i64.wrap ((a0.1 : Nat) : Int) = ((a0.1 : Nat) : Int) := zaK (by omega) (by omega)
  have hl1 := zkp M a0.2
  refine gq2 hw2 ?_
  refine zjd (rid := σ.length + 2) (s := a0.2) (by rw [zp]; rfl) (by rw [zp]; rfl) hc2 (by omega) fun c3 hc3 => ?_
  rw [e4]
  rw [hM] at hc3 ⊢
  obtain ⟨a1, h1⟩ : ∃ a, zco false M a0.2 = a := ⟨_, rfl⟩
  rw [h1] at hc3 hq hl1 ⊢
  have hl2 := zkp M a1.2
  refine gq1 ?_
  refine zjd (rid := σ.length + 2) (s := a1.2) (by rw [zp]; rfl) (by rw [zp]; rfl) hc3 (by omega) fun c4 hc4 => ?_
  rw [hM] at hc4 ⊢
  obtain ⟨a2, h2⟩ : ∃ a, zco false M a1.2 = a := ⟨_, rfl⟩
  rw [h2] at hc4 hq hl2 ⊢
  have hl3 := zkp M a2.2
  refine gq1 ?_
  refine zjd (rid := σ.length + 2) (s := a2.2) (by rw [zp]; rfl) (by rw [zp]; rfl) hc4 (by omega) fun c5 hc5 => ?_
  rw [hM] at hc5 ⊢
  obtain ⟨a3, h3⟩ : ∃ a, zco false M a2.2 = a := ⟨_, rfl⟩
  rw [h3] at hc5 hq hl3 ⊢
  have hl4 := zkp M a3.2
  refine gq1 ?_
  refine zjd (rid := σ.length + 2) (s := a3.2) (by rw [zp]; rfl) (by rw [zp]; rfl) hc5 (by omega) fun c6 hc6 => ?_
  rw [hM] at hc6 ⊢
  obtain ⟨a4, h4⟩ : ∃ a, zco false M a3.2 = a := ⟨_, rfl⟩
  rw [h4] at hc6 hq hl4 ⊢
  subst hq
  refine gq1 ?_
  refine c_Done (c := c6) (by rw [zp]; rfl) hc6 ?_
  have hd : (if a4.2.e = 0 ∧ 0 < a4.2.b.length then 12 else a4.2.e) = ziu a4.2 := rfl
  rw [hd]
  have fin : ∀ z, hdrP false b = z → ∀ τ, AW.Ends σ.length K (some [znn z.1, .d (.int .i64 z.2)]) (σ ++ τ) := fun z h τ => by
    rw [h] at hK
    exact zlv (by simp) (by simp [zbM, dmT, dm, dm1, zbo, zdx, zhD]) hl hK
  cases c1 : (ziu a4.2 != 0)
  · have d1 : ¬ ziu a4.2 ≠ 0 := by simpa using c1
    refine gq2 c1 ?_
    refine zhA (a := k.1) (b := [3]) ?_
    cases c2 : (k.1 == ([3] : List UInt8))
    · have d2 : k.1 ≠ [3] := by simpa using c2
      rw [if_pos (.inr d2)] at hp
      refine gq2 c2 ?_
      exact fin _ hp _
    · have d2 : k.1 = [3] := by simpa using c2
      rw [if_neg (by rintro (h | h); exact d1 h; exact h d2)] at hp
      refine gq2 c2 ?_
      exact fin _ hp _
  · have d1 : ziu a4.2 ≠ 0 := by simpa using c1
    rw [if_pos (.inl d1)] at hp
    refine gq2 c1 ?_
    exact fin _ hp _
theorem gq40 {A P Q : Prop} (a : A) (h : Q) (e : A → Hd Q → P := by intro a h; (repeat' first | simp -dsimp only [↓zgX, ↓zaP, ↓zca, ↓zgZ, ↓zgR, ↓zgP, ↓zgS, ↓zgQ, ↓zcf, ↓zcb, ↓zcg, ↓zcc, ↓zgT, ↓zbX, ↓zch, ↓zcd, ↓zci, ↓zce, ↓zgN, ↓zgW, ↓zbW, ↓zcm, ↓zgC, ↓zgB, ↓zgL, iN, bT, bF, eN, ↓zdH, ↓unC, ↓zR, ↓zN, ↓zO, ↓zP, ↓zan, ↓zba, ↓zcY, ↓zS, ↓zcj, ↓zao, ↓zt, ↓zj, ↓zbI, ↓zg, ↓zah, ↓zX, ↓zaZ, ↓zaU, ↓zd, ↓zH, ↓zl, ↓zy, ↓zar, ↓zdS, ↓zeg, ↓zZ, ↓zaH, ↓zaO, ↓zbn, ↓zbC, ↓zw, ↓zam, ↓zL, ↓zu, ↓zaj, zee, zbN, zbH, unA, zed, bnd, zeY, zad, zag, zeQ, dm, dm1, zE, zaI, zgc, zgb, zaf, Q0, Q1, Q2, Q3, Q4, Q5, zai, zp, zm, zac, zM, Q6, Q7, Q8, Q9, Q10, Q11, Q12, Q13, Q14, Nat.reduceAdd, Q15, Int.reduceToNat, Q16, Q17, Q18, Q19, Q20, reduceIte, Q21, Q22, zC, rep, zT, zfz, toD, zab, Q23, Q24, Q25, Q26, Q27, Q28, Nat.reduceLeDiff, Q29, Nat.reduceSub, Q30, Q31, Q32, sc, Q33, Q34, Q35, Q36, Q37, Q26, Q38, Q39, zpD, zpA, zpx, zpE, zhv, zpB, zpy, zpC, zpz, zhu, zhw, zpJ, zpK, Bool.not_true, Bool.not_false, List.length_map, List.map_cons, List.map_nil, bcs, zaQ, a] | with_reducible refine zqn ?_ | fail); exact h.go) : P := e a ⟨h⟩
theorem c_hrParse {b : List UInt8} (hb : b.length ≤ 1073741824) (hK : K (.tup [znn (hdrP true b).1, .d (.int .i64 (hdrP true b).2)]) σ) : zo Tryz.prog zjG [.d (.slice (bcs b))] σ K := by
  refine zhS e_r09_Parse fun hl => ?_
  simp only [znP, iN, bT, bF, eN]
  refine gq1 ?_
  refine c_rrRead ?_
  have e2 : ∀ A : zc, (σ ++ [A]).length = σ.length + 1 := fun A => by simp
  rw [e2]
  refine gq1 ?_
  refine c_rrTake (n := 1) (s := ⟨b, 0⟩) (c := .d (.slice (bcs b))) (by omega) (by rw [zp]; rfl) ⟨.inl rfl, fun h => absurd rfl h⟩ hb fun c1 hc1 => ?_
  have hT : (zbB true 1 ⟨b, 0⟩).2.b.length ≤ b.length := takeP_lenC true 1 ⟨b, 0⟩
  have hp : hdrP true b = if ziu (hdrQ true (zbB true 1 ⟨b, 0⟩).2).2 ≠ 0 ∨ (zbB true 1 ⟨b, 0⟩).1 ≠ [3] then (⟨0, 0, 0, 0, 0⟩, 90) else ((hdrQ true (zbB true 1 ⟨b, 0⟩).2).1, 0) := rfl
  have hf := hdr_first (c := true) (b := b)
  obtain ⟨k, hk⟩ : ∃ k, zbB true 1 ⟨b, 0⟩ = k := ⟨_, rfl⟩
  rw [hk] at hc1 hp hT hf ⊢
  have hq : hdrQ true k.2 = hdrQ true k.2 := rfl
  conv at hq => rhs; unfold hdrQ
  dsimp only at hq
  obtain ⟨q, hqq⟩ : ∃ q, hdrQ true k.2 = q := ⟨_, rfl⟩
  rw [hqq] at hp hq hf
  obtain ⟨M, hM⟩ : ∃ M : Nat, 9007199254740992 = M := ⟨_, rfl⟩
  have hl0 := zic true M k.2
  have hb0 := zjF true M k.2
  refine gq1 ?_
  refine znG (m := 9007199254740992) (s := k.2) (by omega) (by rw [zp]; rfl) hc1 (by omega) fun c2 hc2 => ?_
  rw [hM] at hc2 hq ⊢
  obtain ⟨a0, h0⟩ : ∃ a, zco true M k.2 = a := ⟨_, rfl⟩
  rw [h0] at hc2 hq hl0 hb0 ⊢
  have hw0 : IntKind.i64.wrap ((a0.1 : Nat) : Int) = ((a0.1 : Nat) : Int) := zaK (by omega) (by omega)
  have hl1 := zic true M a0.2
  have hb1 := zjF true M a0.2
  refine gq2 hw0 ?_
  refine znG (m := 9007199254740992) (s := a0.2) (by omega) (by rw [zp]; rfl) hc2 (by omega) fun c3 hc3 => ?_
  rw [hM] at hc3 ⊢
  obtain ⟨a1, h1⟩ : ∃ a, zco true M a0.2 = a := ⟨_, rfl⟩
  rw [h1] at hc3 hq hl1 hb1 ⊢
  have hw1 : IntKind.i64.wrap ((a1.1 : Nat) : Int) = ((a1.1 : Nat) : Int) := zaK (by omega) (by omega)
  have hl2 := zic true M a1.2
  have hb2 := zjF true M a1.2
  refine gq2 hw1 ?_
  have e4 : ∀ (A B X : zc), ((σ ++ [A, B]).set (σ.length + 1) X).length = σ.length + 2 := fun A B X => by simp
  rw [e4]
  refine znG (m := 9007199254740992) (s := a1.2) (by omega) (by rw [zp]; rfl) hc3 (by omega) fun c4 hc4 => ?_
  rw [hM] at hc4 ⊢
  obtain ⟨a2, h2⟩ : ∃ a, zco true M a1.2 = a := ⟨_, rfl⟩
  rw [h2] at hc4 hq hl2 hb2 ⊢
  have hw2 : IntKind.i64.wrap ((a2.1 : Nat) : Int) = ((a2.1 : Nat) : Int) := zaK (by omega) (by omega)
  have hl3 := zic true M a2.2
  have hb3 := zjF true M a2.2
  refine gq2 hw2 ?_
  refine znG (m := 9007199254740992) (s := a2.2) (by omega) (by rw [zp]; rfl) hc4 (by omega) fun c5 hc5 => ?_
  rw [hM] at hc5 ⊢
  obtain ⟨a3, h3⟩ : ∃ a, zco true M a2.2 = a := ⟨_, rfl⟩
  rw [h3] at hc5 hq hl3 hb3 ⊢
  have hw3 : IntKind.i64.wrap ((a3.1 : Nat) : Int) = ((a3.1 : Nat) : Int) := zaK (by omega) (by omega)
  have hl4 := zic true M a3.2
  have hb4 := zjF true M a3.2
  refine gq2 hw3 ?_
  refine znG (m := 9007199254740992) (s := a3.2) (by omega) (by rw [zp]; rfl) hc5 (by omega) fun c6 hc6 => ?_
  rw [hM] at hc6 ⊢
  obtain ⟨a4, h4⟩ : ∃ a, zco true M a3.2 = a := ⟨_, rfl⟩
  rw [h4] at hc6 hq hl4 hb4 ⊢
  have hw4 : IntKind.i64.wrap ((a4.1 : Nat) : Int) = ((a4.1 : Nat) : Int) := zaK (by omega) (by omega)
  subst hq
  refine gq2 hw4 ?_
  refine c_rrDone (c := c6) (by rw [zp]; rfl) hc6 ?_
  have hd : (if a4.2.e = 0 ∧ 0 < a4.2.b.length then 12 else a4.2.e) = ziu a4.2 := rfl
  rw [hd]
  have fin : ∀ z, hdrP true b = z → ∀ τ, AW.Ends σ.length K (some [znn z.1, .d (.int .i64 z.2)]) (σ ++ τ) := fun z h τ => by
    rw [h] at hK
    exact zlv (by simp) (by simp [zbM, dmT, dm, dm1, zbo, zdx, zhD]) hl hK
  cases c1 : (ziu a4.2 != 0)
  · have d1 : ¬ ziu a4.2 ≠ 0 := by simpa using c1
    obtain ⟨x, hx⟩ := hf (by simpa using c1)
    rw [hx] at hp ⊢
    cases c2 : ((x.toNat : Int) != 3)
    · have d2 : x = 3 := by
        have : x.toNat = 3 := by simp at c2; omega
        exact UInt8.toNat_inj.1 this
      rw [if_neg (by rintro (h | h); exact d1 h; exact h (by rw [d2]))] at hp
      refine gq40 (zh c1 c2) ?_
      exact fin _ hp _
    · have d2 : x ≠ 3 := fun e => by subst e; simp at c2
      rw [if_pos (.inr (by simpa using d2))] at hp
      refine gq40 (zh c1 c2) ?_
      exact fin _ hp _
  · have d1 : ziu a4.2 ≠ 0 := by simpa using c1
    rw [if_pos (.inl d1)] at hp
    refine gq2 c1 ?_
    exact fin _ hp _
end

end Go.Proofs.YthpnelbciibjeaaGreat
