/- Contracts: a client that is begun. -/
import Derived.Test.YtdgcepphjnoalaaGreatPq5
set_option linter.all false
set_option maxRecDepth 100000
set_option linter.unusedSimpArgs false
set_option linter.unusedVariables false
namespace Go.Proofs.YtdgcepphjnoalaaGreat
open Go.AW

def bOp : TOp := ⟨1, [116], [], 0, []⟩
def bX : zt := ⟨2, 0 + 1, bOp, 0, 0⟩
def bL1 : List (List UInt8) := sealL [] bX
def bG1 : List zS := sealG [] [] bX
def bS : zt := zle [] bX
def bR1 : MakeR := zgS bL1 bG1 (repM 0 3)
def bR2 : MakeR := zgS bR1.L bR1.G (repM 1 4)
def bR3 : MakeR := zgS bR2.L bR2.G (repM 0 3)
def bR4 : MakeR := zgS bR3.L bR3.G (repM 2 3)
theorem b_ok : sealE [] bX = 0 := by decide +kernel
theorem b_op : zdm zjk bOp = 0 := by decide +kernel
theorem b_e1 : bR1.e = 0 := by decide +kernel
theorem b_e2 : bR2.e = 0 := by decide +kernel
theorem b_e3 : bR3.e = 0 := by decide +kernel
theorem b_e4 : bR4.e = 0 := by decide +kernel
theorem b_v1 : zkc bR1.L bR1.G bR1.m = true := by decide +kernel
theorem b_v2 : zkc bR2.L bR2.G bR2.m = true := by decide +kernel
theorem b_v3 : zkc bR3.L bR3.G bR3.m = true := by decide +kernel
theorem b_v4 : zkc bR4.L bR4.G bR4.m = true := by decide +kernel
theorem b_t0 : znL bL1 := ⟨by decide +kernel, by decide +kernel, by decide +kernel⟩
theorem b_t1 : znL bR1.L := ⟨by decide +kernel, by decide +kernel, by decide +kernel⟩
theorem b_t2 : znL bR2.L := ⟨by decide +kernel, by decide +kernel, by decide +kernel⟩
theorem b_t3 : znL bR3.L := ⟨by decide +kernel, by decide +kernel, by decide +kernel⟩
theorem b_t4 : znL bR4.L := ⟨by decide +kernel, by decide +kernel, by decide +kernel⟩
theorem b_g0 : bG1.length ≤ 1000000 := by decide +kernel
theorem b_g1 : bR1.G.length ≤ 1000000 := by decide +kernel
theorem b_g2 : bR2.G.length ≤ 1000000 := by decide +kernel
theorem b_g3 : bR3.G.length ≤ 1000000 := by decide +kernel
theorem b_g4 : bR4.G.length ≤ 1000000 := by decide +kernel
theorem b_o : okO bOp := ⟨by decide, by decide, by decide, by simp [bOp]⟩
theorem b_so : bS.op = bOp := by decide +kernel
def y1 : List (Int × Int × Int) := zfB [] 0 0 3
def y2 : List (Int × Int × Int) := zfB y1 1 0 4
def y3 : List (Int × Int × Int) := zfB y2 0 0 3
theorem bn1 : (zqD (zfB [] 0 0 3) 0 3 : Int) < 2 := by decide
theorem bn2 : (zqD (zfB y1 1 0 4) 0 4 : Int) < 2 := by decide
theorem bn3 : (zqD (zfB y2 0 0 3) 0 3 : Int) < 2 := by decide
theorem bn4 : ¬ (zqD (zfB y3 2 0 3) 0 3 : Int) < 2 := by decide
theorem take_keep {σ S : List zc} (h : ∀ (j : Nat) (y : zc), σ[j]? = some y → S[j]? = some y) : S.take σ.length = σ := by
  apply List.ext_getElem?
  intro j
  rw [List.getElem?_take]
  split
  · rename_i hj
    rw [h j _ (List.getElem?_eq_getElem hj), List.getElem?_eq_getElem hj]
  · rw [List.getElem?_eq_none (by omega)]
theorem TG.keep {i : TGi} {σ S : List zc} {L : List (List UInt8)} {G : List zS} (h : TG i σ L G) (hk : ∀ (j : Nat) (y : zc), σ[j]? = some y → S[j]? = some y) : TG i S L G :=
  ⟨⟨hk _ _ h.tab.box, hk _ _ h.tab.map, hk _ _ h.tab.tok⟩, ⟨hk _ _ h.led.box, hk _ _ h.led.map, hk _ _ h.led.tok⟩, h.n1, h.n2⟩
theorem c_begun24 {σ : List zc} {K : AV → List zc → Prop} (hK : K (.d (.bool true)) σ) : zl Tryz.prog zkC [] σ K := by
  refine acE0 e_l24_begun fun hl => ?_
  simp only [zoU, iN, bT, bF, eN, zl0, zl1]
  refine zaP ?_
  refine zmA ?_
  refine zaP ?_
  refine ziA ?_
  refine zaP ?_
  obtain ⟨i, hi⟩ : ∃ i : TGi, (⟨σ.length + 1, σ.length, σ.length + 2, σ.length + 4, σ.length + 3, σ.length + 5⟩ : TGi) = i := ⟨_, rfl⟩
  have i1 : σ.length + 1 = i.id := by rw [← hi]
  have i2 : σ.length + 4 = i.id2 := by rw [← hi]
  obtain ⟨S0, hS0⟩ : ∃ S0, σ ++ [zc.map (tabM []), zc.box [AV.own (σ.length + 2) [], AV.map σ.length], zc.tok 1 0, zc.map (zpV []), zc.box [AV.own (σ.length + 5) [], AV.map (σ.length + 3)], zc.tok 2 0, zc.box [AV.box (σ.length + 1) 0], zc.box [AV.box (σ.length + 4) 0]] = S0 := ⟨_, rfl⟩
  have hT0 : TG i S0 [] [] := by
    rw [← hS0, ← hi]
    exact ⟨⟨by rw [zw]; rfl, by rw [zu]; rfl, by rw [zw]; rfl⟩, ⟨by rw [zw]; rfl, by rw [zw]; rfl, by rw [zw]; rfl⟩, by simp, by simp⟩
  have c0 : S0[σ.length + 6]? = some (.box [.box i.id 0]) := by rw [← hS0, zw, ← i1]; rfl
  have d0 : S0[σ.length + 7]? = some (.box [.box i.id2 0]) := by rw [← hS0, zw, ← i2]; rfl
  have l0 : S0.length = σ.length + 8 := by rw [← hS0]; simp
  have p0 : ∀ (j : Nat) (y : zc), σ[j]? = some y → S0[j]? = some y := fun j y hy => by rw [← hS0]; exact zy hy
  have out : ∀ j, j < σ.length ∨ σ.length + 6 ≤ j → (j ≠ i.id ∧ j ≠ i.m ∧ j ≠ i.t ∧ j ≠ i.id2 ∧ j ≠ i.m2 ∧ j ≠ i.t2) := fun j hj => by rw [← hi]; simp only; omega
  rw [hS0, i1, i2]
  refine c_pNew (f := 1) (cl := 2) hT0 znL.nil (by simp) rfl (by omega) (by omega) fun S1 q hq1 hq2 o1 => ?_
  have hT1 := hT0.keep o1
  have ql := zbR hq2
  refine zbi (zj hq2 (show ((0 : Int) != 0) = false from rfl)) ?_
  obtain ⟨m, hm⟩ : ∃ m, S1.length = m := ⟨_, rfl⟩
  obtain ⟨S2, hS2⟩ : ∃ S2, S1 ++ [zc.box [.box q 0]] = S2 := ⟨_, rfl⟩
  have o2 : ∀ (j : Nat) (y : zc), S1[j]? = some y → S2[j]? = some y := fun j y hy => by rw [← hS2]; exact zy hy
  have m2 : S2[m]? = some (.box [.box q 0]) := by rw [← hS2, ← hm, zu]; rfl
  have l2 : S2.length = m + 1 := by rw [← hS2, ← hm]; simp
  rw [hS2, hm]
  refine c_pAsk (o := bOp) (time := 0) (hT1.keep o2) znL.nil (by simp) (o2 _ _ hq2) (out q (by omega)) (by decide) b_o b_op (by omega) b_ok fun S3 n r hr q3 n3 T3 nq nl o3 => ?_
  have hbS : zle [] bX = bS := rfl
  have q3' : S3[q]? = some (.box (zlT 1 2 i.id i.id2 1 [bS] (.map n) 0 [] 0)) := q3
  have T3' : TG i S3 bL1 bG1 := T3
  have kc : ∀ (S : List zc), (∀ (j : Nat) (y : zc), j ≠ q → j ≠ n → (j ≠ i.id ∧ j ≠ i.m ∧ j ≠ i.t ∧ j ≠ i.id2 ∧ j ≠ i.m2 ∧ j ≠ i.t2) → S3[j]? = some y → S[j]? = some y) →
      S[σ.length + 6]? = some (.box [.box i.id 0]) ∧ S[σ.length + 7]? = some (.box [.box i.id2 0]) ∧ S[m]? = some (.box [.box q 0]) ∧ ∀ (j : Nat) (y : zc), σ[j]? = some y → S[j]? = some y := fun S hk => by
    have g : ∀ (j : Nat) (y : zc), j ≠ q → j ≠ n → (j ≠ i.id ∧ j ≠ i.m ∧ j ≠ i.t ∧ j ≠ i.id2 ∧ j ≠ i.m2 ∧ j ≠ i.t2) → S2[j]? = some y → S[j]? = some y := fun j y h1 h2 h3 hy =>
      hk j y h1 h2 h3 (o3 j y h1 h3.1 h3.2.1 h3.2.2.1 h3.2.2.2.1 h3.2.2.2.2.1 h3.2.2.2.2.2 hy)
    exact ⟨g _ _ (by omega) (by omega) (out _ (by omega)) (o2 _ _ (o1 _ _ c0)), g _ _ (by omega) (by omega) (out _ (by omega)) (o2 _ _ (o1 _ _ d0)), g _ _ (by omega) (by omega) (out _ (by omega)) m2,
      fun j y hy => g _ _ (by have := zbR hy; omega) (by have := zbR hy; omega) (out _ (by have := zbR hy; omega)) (o2 _ _ (o1 _ _ (p0 _ _ hy)))⟩
  have oc := out (σ.length + 6) (by omega)
  have od := out (σ.length + 7) (by omega)
  have om := out m (by omega)
  have oq := out q (by omega)
  have on := out n (by omega)
  have hr1 : r.length + 1 = 31 := by omega
  obtain ⟨a1, a2, a3, _⟩ := kc S3 fun _ _ _ _ _ h => h
  refine gq39 (zj (show ((0 : Int) != 0) = false from rfl) (zj (show (((1 : Nat) : Int) != 1) = false from rfl) (zj (show ((1 : Int) != 1) = false from rfl) (zj (show ((-1 : Int) != -1) = false from rfl) (show (false == false) = true from rfl))))) ?_
  refine c_b1 (i := i) (sy := []) (a := 0) (n := 3) T3' b_t0 b_g0 a1 a2 a3 q3' n3 (by simp) (by omega) (by omega) oc od om oq on b_e1 b_t1 b_g1 b_v1 (fun _ S4 T4 q4 n4' k4 => ?_) fun hn => absurd bn1 hn
  obtain ⟨a1, a2, a3, _⟩ := kc S4 k4
  refine gq39 (zj (show ((0 : Int) != 0) = false from rfl) (zj (show (((1 : Nat) : Int) != 1) = false from rfl) (zj (show ((1 : Int) != 1) = false from rfl) (zj (show ((-1 : Int) != -1) = false from rfl) (show (false == false) = true from rfl))))) ?_
  have kt : ∀ (S S' : List zc), (∀ (j : Nat) (y : zc), j ≠ q → j ≠ n → (j ≠ i.id ∧ j ≠ i.m ∧ j ≠ i.t ∧ j ≠ i.id2 ∧ j ≠ i.m2 ∧ j ≠ i.t2) → S3[j]? = some y → S[j]? = some y) → (∀ (j : Nat) (y : zc), j ≠ q → j ≠ n → (j ≠ i.id ∧ j ≠ i.m ∧ j ≠ i.t ∧ j ≠ i.id2 ∧ j ≠ i.m2 ∧ j ≠ i.t2) → S[j]? = some y → S'[j]? = some y) →
      (∀ (j : Nat) (y : zc), j ≠ q → j ≠ n → (j ≠ i.id ∧ j ≠ i.m ∧ j ≠ i.t ∧ j ≠ i.id2 ∧ j ≠ i.m2 ∧ j ≠ i.t2) → S3[j]? = some y → S'[j]? = some y) := fun S S' h1 h2 j y b1 b2 b3 hy => h2 j y b1 b2 b3 (h1 j y b1 b2 b3 hy)
  refine c_b1 (i := i) (sy := y1) (a := 1) (n := 4) T4 b_t1 b_g1 a1 a2 a3 q4 n4' (by decide) (by omega) (by omega) oc od om oq on b_e2 b_t2 b_g2 b_v2 (fun _ S5 T5 q5 n5' k5 => ?_) fun hn => absurd bn2 hn
  have k5 := kt _ _ k4 k5
  obtain ⟨a1, a2, a3, _⟩ := kc S5 k5
  refine gq39 (zj (show ((0 : Int) != 0) = false from rfl) (zj (show (((1 : Nat) : Int) != 1) = false from rfl) (zj (show ((1 : Int) != 1) = false from rfl) (zj (show ((-1 : Int) != -1) = false from rfl) (zj (show (false == false) = true from rfl) (show (true == true) = true from rfl)))))) ?_
  refine c_b1 (i := i) (sy := y2) (a := 0) (n := 3) T5 b_t2 b_g2 a1 a2 a3 q5 n5' (by decide) (by omega) (by omega) oc od om oq on b_e3 b_t3 b_g3 b_v3 (fun _ S6 T6 q6 n6' k6 => ?_) fun hn => absurd bn3 hn
  have k6 := kt _ _ k5 k6
  obtain ⟨a1, a2, a3, _⟩ := kc S6 k6
  refine gq39 (zj (show ((0 : Int) != 0) = false from rfl) (zj (show (((1 : Nat) : Int) != 1) = false from rfl) (zj (show ((1 : Int) != 1) = false from rfl) (zj (show ((-1 : Int) != -1) = false from rfl) (zj (show (false == false) = true from rfl) (show (true == true) = true from rfl)))))) ?_
  refine c_b1 (i := i) (sy := y3) (a := 2) (n := 3) T6 b_t3 b_g3 a1 a2 a3 q6 n6' (by decide) (by omega) (by omega) oc od om oq on b_e4 b_t4 b_g4 b_v4 (fun hn => absurd hn bn4) fun _ S7 q7 k7 => ?_
  have k7 := kt _ _ k6 k7
  obtain ⟨a1, a2, a3, a4⟩ := kc S7 k7
  refine gq39 (zj (show ((0 : Int) != 0) = false from rfl) (zj (show (((1 : Nat) : Int) != 1) = false from rfl) (zj (show ((1 : Int) != 1) = false from rfl) (zj (show ((-1 : Int) != -1) = false from rfl) (zj (show (false == false) = true from rfl) (zj (show (true == true) = true from rfl) a3)))))) ?_
  refine c_pLast (s := bS) q7 (by rw [b_so]; decide) (by rw [b_so]; simp [bOp]) ?_
  have a3' : ∀ τ, (S7 ++ τ)[m]? = some (.box [.box q 0]) := fun τ => zy a3
  have q7' : ∀ τ, (S7 ++ τ)[q]? = _ := fun τ => zy q7
  refine zbi (zj (show (true == true) = true from rfl) (zj (show ((3 : Int) == 3) = true from rfl) (zj (show ((1 : Int) == 1) = true from rfl) (zj (show ((0 + 1 : Int)) = 1 from rfl) a3')))) ?_
  refine c_pMany (q7' _) ?_
  refine zbi (zj (show (true == true) = true from rfl) (zj (show ((3 : Int) == 3) = true from rfl) (zj (show ((1 : Int) == 1) = true from rfl) (zj (show ((0 + 1 : Int)) = 1 from rfl) a3')))) ?_
  refine c_pTime (q7' _) ?_
  refine zbi (zj (show (true == true) = true from rfl) (zj (show ((3 : Int) == 3) = true from rfl) (zj (show ((1 : Int) == 1) = true from rfl) (zj (show ((0 + 1 : Int)) = 1 from rfl) a3')))) ?_
  exact zmq (take_keep fun j y hy => zy (a4 j y hy)) (by simp [zhZ, dmT, dm, dm1, zdg]) hl hK
end Go.Proofs.YtdgcepphjnoalaaGreat
