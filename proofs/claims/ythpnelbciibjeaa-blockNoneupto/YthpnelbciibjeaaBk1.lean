/- Contracts: blocks: digests of headers and topics; the first header. -/
import Derived.Test.YthpnelbciibjeaaHd2
import Derived.Test.YthpnelbciibjeaaKs4
import Derived.Test.YthpnelbciibjeaaKs2
import Derived.Test.YthpnelbciibjeaaMk1
import Derived.Test.YthpnelbciibjeaaSpUtf
import Derived.Test.YthpnelbciibjeaaSpNum
import Derived.Test.YthpnelbciibjeaaCodec1
import Derived.Test.YthpnelbciibjeaaSpTake
import Derived.Test.YthpnelbciibjeaaOp1
import Derived.Test.YthpnelbciibjeaaAwFrz
set_option linter.all false
set_option maxRecDepth 100000
set_option linter.unusedSimpArgs false
set_option linter.unusedVariables false
namespace Go.Proofs.Ythpnelbciibjeaa
open Go.AW

section
variable {σ : List zc} {id m t : Nat} {L : List (List UInt8)} {K : AV → List zc → Prop}
def givE (d : Int) : Int := if d = 0 then 6 else 0
theorem zhn {d : Int} (hK : K (.tup [.d (.int .i64 d), .d (.int .i64 (givE d))]) σ) : zj Try.prog zbX [.d (.int .i64 d)] σ K := by
  refine zhr znW fun hl => ?_
  simp only [zjH, iN, bT, bF, eN]
  cases h : (d == 0)
  · have h0 : ¬ d = 0 := by simpa using h
    rw [givE, if_neg h0] at hK
    refine gq2 h ?_
    refine zbD hl ?_
    exact hK
  · have h0 : d = 0 := by simpa using h
    subst h0
    rw [givE, if_pos rfl] at hK
    refine gq2 h ?_
    refine zbD hl ?_
    exact hK
theorem c_blDigest {h : zfc} (hT : zbr σ id m t L) (hI : TabI L) (hK : K (.tup [.d (.int .i64 (hdigD L h)), .d (.int .i64 (hdigE L h))]) (putTab σ id m t (zhV L h))) : zj Try.prog zcV [.box id 0, hdrA h] σ K := by
  refine zla zit fun hl => ?_
  simp only [zfN, iN, bT, bF, eN, hdrA]
  refine gq1 ?_
  refine zkX (hT.app _) hI ?_
  refine gq1 ?_
  refine c_blBytes (h := h) ?_
  cases hc : (zbd h == 0)
  · have hc' : (zbd h != 0) = true := by simpa using hc
    have hc0 : zbd h ≠ 0 := by simpa using hc
    simp only [hdigE, hdigD, zhV, if_pos hc0] at hK
    rw [hT.self] at hK
    refine gq2 hc' ?_
    refine zbD hl ?_
    exact hK
  have hc0 : zbd h = 0 := by simpa using hc
  have hbl := hdrB_len (zgd.1 hc0)
  simp only [hdigE, hdigD, zhV, hc0, ne_eq, not_true_eq_false, if_false] at hK
  rw [hdrBF_ok hc0, hc0]
  refine gq2 (show ((0 : Int) != 0) = false from rfl) ?_
  refine zkD (hT.app _) (by omega) hI.len ?_
  rw [zfV hT]
  have hl1 := hT.lows hl (zfP L (hdrB h))
  have hs1 := zaN σ id m t (zfP L (hdrB h))
  obtain ⟨S1, hS1⟩ : ∃ S1, putTab σ id m t (zfP L (hdrB h)) = S1 := ⟨_, rfl⟩
  rw [hS1] at hK hs1 hl1 ⊢
  refine gq1 ?_
  refine zhn ?_
  refine gq1 ?_
  refine zkV hs1 ?_ hl1 hK
  simp [zfO, dmT, dm, dm1, zdg, zhv, zmm]
theorem znh {h : Nat} {T : zaq} {O : Nat → Prop} (hT : zbr σ id m t L) (hI : L.length ≤ 1048576) (hP : zeB σ h T O) (hTI : zdQ T) (hL : zmn T.last)
    (hK : K (.d (.int .i64 (ziB L (zcQ T)))) (putTab σ id m t (zfP L (zcQ T)))) : zj Try.prog zbs [.box h 0, .box id 0] σ K := by
  refine zla zgR fun hl => ?_
  obtain ⟨mm, hb, h8⟩ := hP.box
  have := topsB_len hTI hL h8
  simp only [zdZ, iN, bT, bF, eN]
  refine gq1 ?_
  refine zhO hb ?_
  refine gq1 ?_
  refine c_tpBytes hP hTI hL ?_
  refine gq1 ?_
  refine zkD hT (by omega) hI ?_
  refine gq1 ?_
  exact zdE (zaN ..) (by simp [zfO, dmT, dm, dm1, zdg]) (hT.lows hl _) hK
theorem c_blGenesis (hT : zbr σ id m t L) (hI : TabI L) (hK : K (.tup [hdrA (genF L).1, .d (.int .i64 (genF L).2.1)]) (putTab σ id m t (genF L).2.2)) : zj Try.prog zcw [.box id 0] σ K := by
  refine zhr zhm fun hl => ?_
  simp only [zfv, iN, bT, bF, eN]
  refine gq1 ?_
  refine zkX (hT.app _) hI ?_
  refine gq1 ?_
  refine c_mkRoot (l := []) (hT.app _) hI.len (by simp) (by simp) ?_
  rw [zfV hT]
  obtain ⟨r, hr⟩ : ∃ r, zdi L [] = r := ⟨_, rfl⟩
  rw [hr]
  have hr2 : r.2.length ≤ 1048576 := by rw [← hr]; exact (zfS 0 (Nat.le_refl _) hI.len).1
  have hT1 := hT.put r.2
  have hs1 := zaN σ id m t r.2
  have hpp : ∀ l', putTab (putTab σ id m t r.2) id m t l' = putTab σ id m t l' := fun l' => zjU hT ..
  obtain ⟨S, hS⟩ : ∃ S, putTab σ id m t r.2 = S := ⟨_, rfl⟩
  rw [hS] at hT1 hs1 hpp ⊢
  refine gq1 ?_
  refine zhn ?_
  refine gq1 ?_
  refine zoe fun hP => ?_
  have e2 : ∀ A : zc, (S ++ [A]).length = S.length + 1 := fun A => by simp
  rw [e2] at hP
  rw [List.append_assoc] at hP
  refine gq1 ?_
  have hLast : zmn zcI.last := fun a ha => by
    have := List.eq_of_mem_replicate ha
    subst this
    simp
  have hg : genF L = if r.1 = 0 ∨ ziB r.2 (zcQ zcI) = 0 then (zmp, 6, zfP r.2 (zcQ zcI)) else (⟨0, 0, 0, r.1, ziB r.2 (zcQ zcI)⟩, 0, zfP r.2 (zcQ zcI)) := by rw [genF, hr]
  refine znh (hT1.app _) hr2 hP .none hLast ?_
  rw [zfV hT1, hpp]
  have hl1 := hT.lows hl (zfP r.2 (zcQ zcI))
  have hs2 := zaN σ id m t (zfP r.2 (zcQ zcI))
  obtain ⟨d, hd⟩ : ∃ d, ziB r.2 (zcQ zcI) = d := ⟨_, rfl⟩
  obtain ⟨L2, hL2⟩ : ∃ L2, zfP r.2 (zcQ zcI) = L2 := ⟨_, rfl⟩
  rw [hd, hL2] at hg
  rw [hL2] at hl1 hs2 ⊢
  rw [hd]
  obtain ⟨S2, hS2⟩ : ∃ S2, putTab σ id m t L2 = S2 := ⟨_, rfl⟩
  rw [hS2] at hl1 hs2 ⊢
  have fin : ∀ z, genF L = z → z.2.2 = L2 → ∀ τ, AW.Ends σ.length K (some [hdrA z.1, .d (.int .i64 z.2.1)]) (S2 ++ τ) := fun z h h2 τ => by
    rw [h, h2, hS2] at hK
    exact zkV hs2 (by simp [zfO, dmT, dm, dm1, zdg, zhv, zmm]) hl1 hK
  have x0 : ∀ a τ, (S2 ++ a :: τ)[σ.length]? = some a := fun a τ => by rw [← hs2]; exact zr ..
  have x1 : ∀ a τ Y, (S2 ++ a :: τ).set σ.length Y = S2 ++ Y :: τ := fun a τ Y => by rw [← hs2]; exact zW ..
  refine gq1 ?_
  refine zhn ?_
  by_cases c1 : r.1 = 0
  · rw [if_pos (.inl c1)] at hg
    have k1 : (givE r.1 != 0) = true := by rw [givE, if_pos c1]; rfl
    refine gq2 (zg k1 (zg x0 x1)) ?_
    exact fin _ hg rfl _
  have k1 : (givE r.1 != 0) = false := by rw [givE, if_neg c1]; rfl
  by_cases c2 : d = 0
  · rw [if_pos (.inr c2)] at hg
    have k2 : (givE d != 0) = true := by rw [givE, if_pos c2]; rfl
    refine gq2 (zg k1 (zg k2 (zg x0 x1))) ?_
    exact fin _ hg rfl _
  · rw [if_neg (by rintro (h | h); exact c1 h; exact c2 h)] at hg
    have k2 : (givE d != 0) = false := by rw [givE, if_neg c2]; rfl
    refine gq2 (zg k1 (zg k2 (zg x0 x1))) ?_
    exact fin _ hg rfl _
end

end Go.Proofs.Ythpnelbciibjeaa

/- One byte of a number, as a loop over at most ten reads it. No program in sight. -/
/- A number's next seven bits. No program in sight. -/
set_option linter.unusedSimpArgs false
namespace Go.AW
open Go


end Go.AW

/- Contracts: the reader's small methods. -/
set_option maxRecDepth 100000
set_option linter.unusedSimpArgs false
namespace Go.Proofs.Ythpnelbciibjeaa
open Go.AW

def Cell (c : AV) (B : List UInt8) : Prop := c = .d (.slice (bcs B)) ∨ ∃ t, c = .own t (bcs B)

open Go.AW




end Go.Proofs.Ythpnelbciibjeaa
