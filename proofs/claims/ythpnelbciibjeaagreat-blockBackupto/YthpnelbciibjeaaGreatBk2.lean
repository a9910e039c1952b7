/- Contracts: headers are read from bytes. -/
import Derived.Test.YthpnelbciibjeaaGreatBk1
import Derived.Test.YthpnelbciibjeaaGreatRd1
import Derived.Test.YthpnelbciibjeaaGreatSpRqP
import Derived.Test.YthpnelbciibjeaaGreatSh
import Derived.Shelf.SlMaps.Clone
import Derived.Ground.SlmcProg
import Derived.Test.YthpnelbciibjeaaGreatAwFun
import Derived.Test.YthpnelbciibjeaaGreatAwSndR
import Derived.Test.YthpnelbciibjeaaGreatKs2
set_option linter.all false
set_option maxRecDepth 100000
set_option linter.unusedSimpArgs false
set_option linter.unusedVariables false
namespace Go.Proofs.YthpnelbciibjeaaGreat
open Go.AW

theorem take_all {σ S : List zc} (h : ∀ (j : Nat) (x : zc), σ[j]? = some x → S[j]? = some x) : S.take σ.length = σ := by
  apply List.ext_getElem?
  intro i
  rw [List.getElem?_take]
  split
  · rename_i hi
    rw [h i _ (List.getElem?_eq_getElem hi), List.getElem?_eq_getElem hi]
  · rw [List.getElem?_eq_none (by omega)]
theorem znN {σ S : List zc} {K : AV → List zc → Prop} {l : List AV} (h : S.take σ.length = σ) (h1 : Low σ.length (dmT (zbz l))) (hl : zeZ σ.length σ) (hK : K (dmT (zbz l)) σ) : AW.Ends σ.length K (some l) S := by
  unfold AW.Ends
  rw [h]
  exact ⟨h1, hl, hK⟩
section

variable {σ : List zc} {K : AV → List zc → Prop}

theorem zia {cid rid : Nat} {c : AV} {s : Rd} (h1 : σ[cid]? = some (.box [.box rid 0])) (hσ : σ[rid]? = some (rdO c s.e)) (hc : Cell c s.b) (hB : s.b.length ≤ 1073741824)
    (hK : ∀ c', Cell c' (zcM false 9007199254740992 s).2.b → K (.d (.int .i64 (zcM false 9007199254740992 s).1)) (σ.set rid (rdO c' (zcM false 9007199254740992 s).2.e))) : zt Tryz.prog zbG [.box cid 0] σ K := by
  refine ziI zmA fun hl => ?_
  simp only [zhB, iN, bT, bF, eN]
  have hlow := zlA hl hσ
  have hle := ziQ false 9007199254740992 s
  have hw2 : IntKind.i64.wrap (((zcM false 9007199254740992 s).1 : Nat) : Int) = (((zcM false 9007199254740992 s).1 : Nat) : Int) := zbb (by omega) (by omega)
  refine gq2 h1 ?_
  refine c_Num (m := 9007199254740992) (by omega) hσ hc hB fun c' hn hc' => ?_
  refine gq2 hw2 ?_
  exact ends_wrote0 (by simp [zdq, dmT, dm, dm1, zbz]) hl (zhc (hn.low hlow)) (hK c' hc')
theorem c_blParse {b : List UInt8} (hb : b.length ≤ 1073741824) (hK : K (.tup [hdrA (hdrP false b).1, .d (.int .i64 (hdrP false b).2)]) σ) : zt Tryz.prog zdH [.d (.slice (bcs b))] σ K := by
  refine ziI zoJ fun hl => ?_
  simp only [zkh, iN, bT, bF, eN]
  refine gq1 ?_
  refine c_Read zdo (by rw [zaN]; omega) ?_
  have e1 : ∀ A B : zc, (σ ++ [A] ++ [B]).length = σ.length + 2 := fun A B => by simp
  have e2 : ∀ A : zc, (σ ++ [A]).length = σ.length + 1 := fun A => by simp
  rw [e2]
  refine gq1 ?_
  refine c_Take (n := 1) (s := ⟨b, 0⟩) (by omega) (by rw [zy]; rfl) (.inr ⟨_, rfl⟩) hb fun c1 n1 hc1 => ?_
  have hT : (zdh false 1 ⟨b, 0⟩).2.b.length ≤ b.length := takeP_len 1 ⟨b, 0⟩
  have hp : hdrP false b = if zjP (hdrQ false (zdh false 1 ⟨b, 0⟩).2).2 ≠ 0 ∨ (zdh false 1 ⟨b, 0⟩).1 ≠ [3] then (⟨0, 0, 0, 0, 0⟩, 90) else ((hdrQ false (zdh false 1 ⟨b, 0⟩).2).1, 0) := rfl
  obtain ⟨k, hk⟩ : ∃ k, zdh false 1 ⟨b, 0⟩ = k := ⟨_, rfl⟩
  rw [hk] at hc1 hp hT ⊢
  have e3 : ∀ A B C : zc, (σ ++ [A] ++ [B, C]).length = σ.length + 3 := fun A B C => by simp
  rw [e3]
  have e4 : ∀ (A B C D X : zc), ((σ ++ [A, B, C, D]).set (σ.length + 2) X).length = σ.length + 4 := fun A B C D X => by simp
  have hq : hdrQ false k.2 = hdrQ false k.2 := rfl
  conv at hq => rhs; unfold hdrQ
  dsimp only at hq
  obtain ⟨q, hqq⟩ : ∃ q, hdrQ false k.2 = q := ⟨_, rfl⟩
  rw [hqq] at hp hq
  obtain ⟨M, hM⟩ : ∃ M : Nat, 9007199254740992 = M := ⟨_, rfl⟩
  have hl0 := zjz M k.2
  have hb0 := ziQ false M k.2
  refine gq1 ?_
  refine c_Num (m := 9007199254740992) (s := k.2) (by omega) (by rw [zy]; rfl) hc1 (by omega) fun c2 n2 hc2 => ?_
  rw [hM] at hc2 hq ⊢
  obtain ⟨a0, h0⟩ : ∃ a, zcM false M k.2 = a := ⟨_, rfl⟩
  rw [h0] at hc2 hq hl0 hb0 ⊢
  have hw2 : IntKind.i64.wrap ((a0.1 : Nat) : Int) = ((a0.1 : Nat) : Int) := zbb (by omega) (by omega)
  have hl1 := zjz M a0.2
  refine gq2 hw2 ?_
  refine zia (rid := σ.length + 2) (s := a0.2) (by rw [zy]; rfl) (by rw [zy]; rfl) hc2 (by omega) fun c3 hc3 => ?_
  rw [e4]
  rw [hM] at hc3 ⊢
  obtain ⟨a1, h1⟩ : ∃ a, zcM false M a0.2 = a := ⟨_, rfl⟩
  rw [h1] at hc3 hq hl1 ⊢
  have hl2 := zjz M a1.2
  refine gq1 ?_
  refine zia (rid := σ.length + 2) (s := a1.2) (by rw [zy]; rfl) (by rw [zy]; rfl) hc3 (by omega) fun c4 hc4 => ?_
  rw [hM] at hc4 ⊢
  obtain ⟨a2, h2⟩ : ∃ a, zcM false M a1.2 = a := ⟨_, rfl⟩
  rw [h2] at hc4 hq hl2 ⊢
  have hl3 := zjz M a2.2
  refine gq1 ?_
  refine zia (rid := σ.length + 2) (s := a2.2) (by rw [zy]; rfl) (by rw [zy]; rfl) hc4 (by omega) fun c5 hc5 => ?_
  rw [hM] at hc5 ⊢
  obtain ⟨a3, h3⟩ : ∃ a, zcM false M a2.2 = a := ⟨_, rfl⟩
  rw [h3] at hc5 hq hl3 ⊢
  have hl4 := zjz M a3.2
  refine gq1 ?_
  refine zia (rid := σ.length + 2) (s := a3.2) (by rw [zy]; rfl) (by rw [zy]; rfl) hc5 (by omega) fun c6 hc6 => ?_
  rw [hM] at hc6 ⊢
  obtain ⟨a4, h4⟩ : ∃ a, zcM false M a3.2 = a := ⟨_, rfl⟩
  rw [h4] at hc6 hq hl4 ⊢
  subst hq
  refine gq1 ?_
  refine c_Done (c := c6) (by rw [zy]; rfl) hc6 ?_
  have hd : (if a4.2.e = 0 ∧ 0 < a4.2.b.length then 12 else a4.2.e) = zjP a4.2 := rfl
  rw [hd]
  have fin : ∀ z, hdrP false b = z → ∀ τ, AW.Ends σ.length K (some [hdrA z.1, .d (.int .i64 z.2)]) (σ ++ τ) := fun z h τ => by
    rw [h] at hK
    exact znN (by simp) (by simp [zdq, dmT, dm, dm1, zbz, zfF, zkN]) hl hK
  cases c1 : (zjP a4.2 != 0)
  · have d1 : ¬ zjP a4.2 ≠ 0 := by simpa using c1
    refine gq2 c1 ?_
    refine zgK (a := k.1) (b := [3]) ?_
    cases c2 : (k.1 == ([3] : List UInt8))
    · have d2 : k.1 ≠ [3] := by simpa using c2
      rw [if_pos (.inr d2)] at hp
      refine gq2 c2 ?_
      exact fin _ hp _
    · have d2 : k.1 = [3] := by simpa using c2
      rw [if_neg (by rintro (h | h); exact d1 h; exact h d2)] at hp
      refine gq2 c2 ?_
      exact fin _ hp _
  · have d1 : zjP a4.2 ≠ 0 := by simpa using c1
    rw [if_pos (.inl d1)] at hp
    refine gq2 c1 ?_
    exact fin _ hp _
end

open Go.Shelf Go.Proofs
def cloneM_ren : Go.Shelf.Ren := ⟨fun | 5 => 70 | 7 => 87 | n => n, fun | 23 => 128 | 25 => 9 | 3 => 2 | 4 => 4 | 20 => 20 | n => n, fun | n => n⟩
theorem cloneM : Go.Proofs.SlLaysW.n5 Tryz.prog cloneM_ren := {
  mixed := by kernel_rfl
  f5 := ⟨Tryz.f70.name, by decide, Tryz.func70.trans (congrArg some (by kernel_rfl))⟩
  f7 := Tryz.func87.trans (congrArg some (by kernel_rfl))
  t4 := Tryz.underlying4
  a4 := Tryz.isAgg4
  z4 := Tryz.sizeOf4
  v4 := Tryz.zeroValue4
  t20 := Tryz.underlying20
  a20 := Tryz.isAgg20
  z20 := Tryz.sizeOf20
  v20 := Tryz.zeroValue20
  t23 := Tryz.underlying128
  a23 := Tryz.isAgg128
  z23 := Tryz.sizeOf128
  v23 := Tryz.zeroValue128 }
end Go.Proofs.YthpnelbciibjeaaGreat

/- A MAP IS CLONED: the kit's contract of maps.Clone, told in the own logic. -/
set_option linter.unusedSimpArgs false
set_option linter.unusedVariables false
namespace Go.AW

def CloneC (P : Program) (f : FuncId) : Prop := ∀ (b : Nat) (es : Array MapEntry) (clock : Nat) (w : World), w.heap[b]? = some (.map es clock) →
  Calls P f #[.map (some b)] w fun e w' => e = .returned (.map (some w.heap.size)) ∧ w' = w.alloc (.map es clock)
theorem znl {P : Program} {f : FuncId} (hok : zlc P f = true) (hc : CloneC P f) {σ : List zc} {id : Nat} {es : List (AV × AV)} (hσ : σ[id]? = some (.map es)) {K : AV → List zc → Prop}
    (hK : K (.map σ.length) (σ ++ [.map es])) : zt P f [.map id] σ K := by
  refine ⟨hok, fun L w vs S hv => ?_⟩
  obtain ⟨hv1, hv2⟩ := hv
  obtain ⟨v, rfl⟩ : ∃ v, vs = [v] := by
    match vs, hv1 with
    | [v], _ => exact ⟨v, rfl⟩
  have hv3 := hv2 0 _ _ rfl rfl
  obtain ⟨rfl, _⟩ := hv3.map_inv
  obtain ⟨ms, clock, h1, h2, h3, h4⟩ := map_block' S hσ
  refine (hc _ ms clock w h1).mono ?_
  rintro e w' ⟨rfl, rfl⟩
  have hf : ∀ b c, zbE { a := ⟨w.heap.size, 0, none⟩ } (.map es) b c → b = w.heap.size := fun b c h => h
  have st := zbr L σ (.map ms clock) { a := ⟨w.heap.size, 0, none⟩ } (.map es) hf
  have S' := zch S (.map ms clock) { a := ⟨w.heap.size, 0, none⟩ } (.map es) hf ⟨ms, clock, by
    show (w.heap.push _)[w.heap.size]? = _
    simp, by simpa using h2, fun j e m he hm => (h3 j e m he (by simpa using hm)).mono st, h4⟩
  refine ⟨_, _, .map σ.length, st, S', ?_, hK⟩
  have := RV.map (w := w.alloc (.map ms clock)) (L := zeR L σ.length { a := ⟨w.heap.size, 0, none⟩ }) (σ := σ ++ [.map es]) σ.length ⟨.map es, by simp, by simp [zc.kind]⟩
  rw [zw] at this
  exact this
end Go.AW

/- Contracts: the document's topics: bounds, records, what was committed; placed records that are the same. -/
set_option maxRecDepth 100000
set_option linter.unusedSimpArgs false
set_option linter.unusedVariables false
namespace Go.Proofs.YthpnelbciibjeaaGreat
open Go.AW

section
variable {σ : List zc} {id t g : Nat} {T : zao} {K : AV → List zc → Prop}
end

end Go.Proofs.YthpnelbciibjeaaGreat
