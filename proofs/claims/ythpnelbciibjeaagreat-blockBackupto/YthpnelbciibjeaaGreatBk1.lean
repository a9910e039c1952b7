/- Contracts: blocks: digests of headers and topics; the first header. -/
import Derived.Test.YthpnelbciibjeaaGreatHd2
import Derived.Test.YthpnelbciibjeaaGreatKs4
import Derived.Test.YthpnelbciibjeaaGreatKs2
import Derived.Test.YthpnelbciibjeaaGreatMk1
import Derived.Test.YthpnelbciibjeaaGreatSpUtf
import Derived.Test.YthpnelbciibjeaaGreatSpNum
set_option linter.all false
set_option maxRecDepth 100000
set_option linter.unusedSimpArgs false
set_option linter.unusedVariables false
namespace Go.Proofs.YthpnelbciibjeaaGreat
open Go.AW

section
variable {σ : List zc} {id m t : Nat} {L : List (List UInt8)} {K : AV → List zc → Prop}
def givE (d : Int) : Int := if d = 0 then 6 else 0
theorem zhs {d : Int} (hK : K (.tup [.d (.int .i64 d), .d (.int .i64 (givE d))]) σ) : zt Tryz.prog zbW [.d (.int .i64 d)] σ K := by
  refine ziI zoI fun hl => ?_
  simp only [zkg, iN, bT, bF, eN]
  cases h : (d == 0)
  · have h0 : ¬ d = 0 := by simpa using h
    rw [givE, if_neg h0] at hK
    refine gq2 h ?_
    refine zcg hl ?_
    exact hK
  · have h0 : d = 0 := by simpa using h
    subst h0
    rw [givE, if_pos rfl] at hK
    refine gq2 h ?_
    refine zcg hl ?_
    exact hK
theorem c_blDigest {h : zfg} (hT : zby σ id m t L) (hI : TabI L) (hK : K (.tup [.d (.int .i64 (hdigD L h)), .d (.int .i64 (hdigE L h))]) (putTab σ id m t (zih L h))) : zt Tryz.prog zga [.box id 0, hdrA h] σ K := by
  refine zlh zni fun hl => ?_
  simp only [ziM, iN, bT, bF, eN, hdrA]
  refine gq1 ?_
  refine zlF (hT.app _) hI ?_
  refine gq1 ?_
  refine zjR (h := h) ?_
  cases hc : (zaJ h == 0)
  · have hc' : (zaJ h != 0) = true := by simpa using hc
    have hc0 : zaJ h ≠ 0 := by simpa using hc
    simp only [hdigE, hdigD, zih, if_pos hc0] at hK
    rw [hT.self] at hK
    refine gq2 hc' ?_
    refine zcg hl ?_
    exact hK
  have hc0 : zaJ h = 0 := by simpa using hc
  have hbl := zox (zdO.1 hc0)
  simp only [hdigE, hdigD, zih, hc0, ne_eq, not_true_eq_false, if_false] at hK
  rw [zlC hc0, hc0]
  refine gq2 (show ((0 : Int) != 0) = false from rfl) ?_
  refine zld (hT.app _) (by omega) hI.len ?_
  rw [zgi hT]
  have hl1 := hT.lows hl (zge L (znd h))
  have hs1 := zaL σ id m t (zge L (znd h))
  obtain ⟨S1, hS1⟩ : ∃ S1, putTab σ id m t (zge L (znd h)) = S1 := ⟨_, rfl⟩
  rw [hS1] at hK hs1 hl1 ⊢
  refine gq1 ?_
  refine zhs ?_
  refine gq1 ?_
  refine zlD hs1 ?_ hl1 hK
  simp [zdq, dmT, dm, dm1, zbz, zfF, zkN]
theorem znQ {h : Nat} {T : zao} {O : Nat → Prop} (hT : zby σ id m t L) (hI : L.length ≤ 1048576) (hP : zeC σ h T O) (hTI : zdT T) (hL : zmT T.last)
    (hK : K (.d (.int .i64 (ziN L (zdc T)))) (putTab σ id m t (zge L (zdc T)))) : zt Tryz.prog zbs [.box h 0, .box id 0] σ K := by
  refine zlh zgY fun hl => ?_
  obtain ⟨mm, hb, h8⟩ := hP.box
  have := topsB_len hTI hL h8
  simp only [zeb, iN, bT, bF, eN]
  refine gq1 ?_
  refine zhY hb ?_
  refine gq1 ?_
  refine c_tpBytes hP hTI hL ?_
  refine gq1 ?_
  refine zld hT (by omega) hI ?_
  refine gq1 ?_
  exact zdK (zaL ..) (by simp [zdq, dmT, dm, dm1, zbz]) (hT.lows hl _) hK
theorem c_blGenesis (hT : zby σ id m t L) (hI : TabI L) (hK : K (.tup [hdrA (genF L).1, .d (.int .i64 (genF L).2.1)]) (putTab σ id m t (genF L).2.2)) : zt Tryz.prog zfm [.box id 0] σ K := by
  refine ziI zmB fun hl => ?_
  simp only [zhC, iN, bT, bF, eN]
  refine gq1 ?_
  refine zlF (hT.app _) hI ?_
  refine gq1 ?_
  refine c_mkRoot (l := []) (hT.app _) hI.len (by simp) (by simp) ?_
  rw [zgi hT]
  obtain ⟨r, hr⟩ : ∃ r, zdi L [] = r := ⟨_, rfl⟩
  rw [hr]
  have hr2 : r.2.length ≤ 1048576 := by rw [← hr]; exact (zgg 0 (Nat.le_refl _) hI.len).1
  have hT1 := hT.put r.2
  have hs1 := zaL σ id m t r.2
  have hpp : ∀ l', putTab (putTab σ id m t r.2) id m t l' = putTab σ id m t l' := fun l' => zkt hT ..
  obtain ⟨S, hS⟩ : ∃ S, putTab σ id m t r.2 = S := ⟨_, rfl⟩
  rw [hS] at hT1 hs1 hpp ⊢
  refine gq1 ?_
  refine zhs ?_
  refine gq1 ?_
  refine c_tpNew fun hP => ?_
  have e2 : ∀ A : zc, (S ++ [A]).length = S.length + 1 := fun A => by simp
  rw [e2] at hP
  rw [List.append_assoc] at hP
  refine gq1 ?_
  have hLast : zmT zcI.last := fun a ha => by
    have := List.eq_of_mem_replicate ha
    subst this
    simp
  have hg : genF L = if r.1 = 0 ∨ ziN r.2 (zdc zcI) = 0 then (zmU, 6, zge r.2 (zdc zcI)) else (⟨0, 0, 0, r.1, ziN r.2 (zdc zcI)⟩, 0, zge r.2 (zdc zcI)) := by rw [genF, hr]
  refine znQ (hT1.app _) hr2 hP .none hLast ?_
  rw [zgi hT1, hpp]
  have hl1 := hT.lows hl (zge r.2 (zdc zcI))
  have hs2 := zaL σ id m t (zge r.2 (zdc zcI))
  obtain ⟨d, hd⟩ : ∃ d, ziN r.2 (zdc zcI) = d := ⟨_, rfl⟩
  obtain ⟨L2, hL2⟩ : ∃ L2, zge r.2 (zdc zcI) = L2 := ⟨_, rfl⟩
  rw [hd, hL2] at hg
  rw [hL2] at hl1 hs2 ⊢
  rw [hd]
  obtain ⟨S2, hS2⟩ : ∃ S2, putTab σ id m t L2 = S2 := ⟨_, rfl⟩
  rw [hS2] at hl1 hs2 ⊢
  have fin : ∀ z, genF L = z → z.2.2 = L2 → ∀ τ, AW.Ends σ.length K (some [hdrA z.1, .d (.int .i64 z.2.1)]) (S2 ++ τ) := fun z h h2 τ => by
    rw [h, h2, hS2] at hK
    exact zlD hs2 (by simp [zdq, dmT, dm, dm1, zbz, zfF, zkN]) hl1 hK
  have x0 : ∀ a τ, (S2 ++ a :: τ)[σ.length]? = some a := fun a τ => by rw [← hs2]; exact zq ..
  have x1 : ∀ a τ Y, (S2 ++ a :: τ).set σ.length Y = S2 ++ Y :: τ := fun a τ Y => by rw [← hs2]; exact zU ..
  refine gq1 ?_
  refine zhs ?_
  by_cases c1 : r.1 = 0
  · rw [if_pos (.inl c1)] at hg
    have k1 : (givE r.1 != 0) = true := by rw [givE, if_pos c1]; rfl
    refine gq2 (zg k1 (zg x0 x1)) ?_
    exact fin _ hg rfl _
  have k1 : (givE r.1 != 0) = false := by rw [givE, if_neg c1]; rfl
  by_cases c2 : d = 0
  · rw [if_pos (.inr c2)] at hg
    have k2 : (givE d != 0) = true := by rw [givE, if_pos c2]; rfl
    refine gq2 (zg k1 (zg k2 (zg x0 x1))) ?_
    exact fin _ hg rfl _
  · rw [if_neg (by rintro (h | h); exact c1 h; exact c2 h)] at hg
    have k2 : (givE d != 0) = false := by rw [givE, if_neg c2]; rfl
    refine gq2 (zg k1 (zg k2 (zg x0 x1))) ?_
    exact fin _ hg rfl _
end

end Go.Proofs.YthpnelbciibjeaaGreat

/- One byte of a number, as a loop over at most ten reads it. No program in sight. -/
/- A number's next seven bits. No program in sight. -/
set_option linter.unusedSimpArgs false
namespace Go.AW
open Go

theorem wrap64m (n : Nat) : IntKind.u64.wrap (n : Int) = ((n % 18446744073709551616 : Nat) : Int) := by
  simp [IntKind.wrap, IntKind.signed, IntKind.bits]
theorem zjx (n : Nat) : (BitVec.ofInt IntKind.u64.bits (n : Int)).toNat = n % 18446744073709551616 := by
  rw [BitVec.toNat_ofInt]
  have : ((2 ^ IntKind.u64.bits : Nat) : Int) = 18446744073709551616 := by decide
  rw [this]; omega
theorem zkT (n : Nat) : (BitVec.ofInt IntKind.u8.bits (n : Int)).toNat = n % 256 := by
  rw [BitVec.toNat_ofInt]
  have : ((2 ^ IntKind.u8.bits : Nat) : Int) = 256 := by decide
  rw [this]; omega
theorem andLow (x : Nat) (hx : x < 256) : IntKind.u8.wrap ↑(BitVec.ofInt IntKind.u8.bits (x : Int) &&& BitVec.ofInt IntKind.u8.bits 127).toNat = ((x % 128 : Nat) : Int) := by
  have e : (127 : Int) = ((127 : Nat) : Int) := rfl
  rw [BitVec.toNat_and, zkT, e, zkT, Nat.mod_eq_of_lt hx, show 127 % 256 = 2 ^ 7 - 1 from rfl, Nat.and_two_pow_sub_one_eq_mod]
  rw [znZ (by omega)]
theorem pow128 (k : Nat) : 128 ^ k = 2 ^ (7 * k) := by rw [Nat.pow_mul]
theorem numStep {acc k x : Nat} (hx : x < 256) (hk : k ≤ 9) (ha : acc < 128 ^ k) :
    IntKind.u64.wrap ↑(BitVec.ofInt IntKind.u64.bits (acc : Int) ||| BitVec.ofInt IntKind.u64.bits (IntKind.u64.wrap (IntKind.u64.wrap (IntKind.u8.wrap ↑(BitVec.ofInt IntKind.u8.bits (x : Int) &&& BitVec.ofInt IntKind.u8.bits 127).toNat) * 2 ^ min (IntKind.i64.wrap (7 * (k : Int))).toNat IntKind.u64.bits))).toNat
      = (((acc + x % 128 * 128 ^ k) % 18446744073709551616 : Nat) : Int) := by
  have h63 : 128 ^ k ≤ 128 ^ 9 := Nat.pow_le_pow_right (by omega) hk
  have h63' : (128 : Nat) ^ 9 = 9223372036854775808 := rfl
  have e1 : min (IntKind.i64.wrap (7 * (k : Int))).toNat IntKind.u64.bits = 7 * k := by
    rw [zbb (by omega) (by omega)]
    have : IntKind.u64.bits = 64 := rfl
    omega
  have e2 : ((x % 128 : Nat) : Int) * 2 ^ (7 * k) = ((x % 128 * 2 ^ (7 * k) : Nat) : Int) := by simp
  rw [andLow x hx, zbP (n := x % 128) (by omega), e1, e2, wrap64m (x % 128 * 2 ^ (7 * k)), BitVec.toNat_or, zjx, zjx, Nat.mod_mod, Nat.mod_eq_of_lt (by omega : acc < 18446744073709551616)]
  rw [pow128 k] at ha ⊢
  have e3 : 18446744073709551616 = 2 ^ (7 * k) * 2 ^ (64 - 7 * k) := by
    rw [← Nat.pow_add, show 7 * k + (64 - 7 * k) = 64 by omega]
  have e4 : x % 128 * 2 ^ (7 * k) % 18446744073709551616 = 2 ^ (7 * k) * (x % 128 % 2 ^ (64 - 7 * k)) := by
    rw [Nat.mul_comm, e3, Nat.mul_mod_mul_left]
  have e5 : acc ||| 2 ^ (7 * k) * (x % 128 % 2 ^ (64 - 7 * k)) = 2 ^ (7 * k) * (x % 128 % 2 ^ (64 - 7 * k)) + acc := by
    rw [Nat.or_comm, Nat.two_pow_add_eq_or_of_lt ha]
  have hr : 2 ^ (7 * k) * (x % 128 % 2 ^ (64 - 7 * k)) + acc < 18446744073709551616 := by
    have hz : x % 128 % 2 ^ (64 - 7 * k) < 2 ^ (64 - 7 * k) := Nat.mod_lt _ (Nat.two_pow_pos _)
    calc 2 ^ (7 * k) * (x % 128 % 2 ^ (64 - 7 * k)) + acc < 2 ^ (7 * k) * (x % 128 % 2 ^ (64 - 7 * k)) + 2 ^ (7 * k) := by omega
      _ = 2 ^ (7 * k) * (x % 128 % 2 ^ (64 - 7 * k) + 1) := by rw [Nat.mul_add, Nat.mul_one]
      _ ≤ 2 ^ (7 * k) * 2 ^ (64 - 7 * k) := Nat.mul_le_mul_left _ hz
      _ = 18446744073709551616 := e3.symm
  rw [e4, e5, zbP hr]
  have e6 : (acc + x % 128 * 2 ^ (7 * k)) % 18446744073709551616 = (acc + x % 128 * 2 ^ (7 * k) % 18446744073709551616) % 18446744073709551616 := by omega
  rw [e6, e4, Nat.add_comm acc, Nat.mod_eq_of_lt hr]

theorem numFit {acc k x : Nat} (hk : k ≤ 9) (ha : acc < 128 ^ k) (h : ¬ (k = 9 ∧ x > 1)) : acc + x % 128 * 128 ^ k < 128 ^ (k + 1) ∧ acc + x % 128 * 128 ^ k < 18446744073709551616 := by
  have h1 : x % 128 * 128 ^ k ≤ 127 * 128 ^ k := Nat.mul_le_mul_right _ (by omega)
  have h2 : 128 ^ (k + 1) = 128 ^ k * 128 := Nat.pow_succ ..
  refine ⟨by omega, ?_⟩
  by_cases h9 : k = 9
  · subst h9
    have h3 : x % 128 * 128 ^ 9 ≤ 1 * 128 ^ 9 := Nat.mul_le_mul_right _ (by omega)
    have h4 : (128 : Nat) ^ 9 = 9223372036854775808 := rfl
    omega
  · have h3 : 128 ^ (k + 1) ≤ 128 ^ 9 := Nat.pow_le_pow_right (by omega) (by omega)
    have h4 : (128 : Nat) ^ 9 = 9223372036854775808 := rfl
    omega
theorem numR_big {m k acc : Nat} {c : UInt8} {r : List UInt8} (hc : c.toNat > 127) (hk : k < 9) : zjm m k acc (c :: r) = zjm m (k + 1) (acc + c.toNat % 128 * 128 ^ k) r := by
  rw [zjm, if_neg (by omega), if_neg (by omega)]
theorem numR_nine {m acc : Nat} {c : UInt8} {r : List UInt8} (hc : c.toNat > 1) : zjm m 9 acc (c :: r) = .error 11 := by
  rw [zjm, if_pos ⟨rfl, hc⟩]
theorem numR_bad {m k acc : Nat} {c : UInt8} {r : List UInt8} (hc : c.toNat < 128) (hk : k ≤ 9) (ha : acc < 128 ^ k) (h : (k > 0 ∧ c.toNat = 0) ∨ (k = 9 ∧ c.toNat > 1) ∨ (acc + c.toNat % 128 * 128 ^ k) % 18446744073709551616 > m) : zjm m k acc (c :: r) = .error 11 := by
  rw [zjm]
  by_cases h1 : k = 9 ∧ c.toNat > 1
  · rw [if_pos h1]
  · have hf := (numFit hk ha h1).2
    rw [Nat.mod_eq_of_lt hf, Nat.mod_eq_of_lt hc] at h
    rw [if_neg h1, if_pos hc, if_pos (by rcases h with h | h | h; exact .inl h; exact absurd h h1; exact .inr h)]
theorem numR_good {m k acc : Nat} {c : UInt8} {r : List UInt8} (hc : c.toNat < 128) (hk : k ≤ 9) (ha : acc < 128 ^ k) (h0 : ¬ (k > 0 ∧ c.toNat = 0)) (h1 : ¬ (k = 9 ∧ c.toNat > 1)) (h : ¬ ((acc + c.toNat % 128 * 128 ^ k) % 18446744073709551616 > m)) : zjm m k acc (c :: r) = .ok ((acc + c.toNat % 128 * 128 ^ k) % 18446744073709551616, r) := by
  have hf := (numFit hk ha h1).2
  rw [Nat.mod_eq_of_lt hf] at h ⊢
  rw [Nat.mod_eq_of_lt hc] at h ⊢
  rw [zjm, if_neg h1, if_pos hc, if_neg (by rintro (h' | h'); exact h0 h'; exact h h')]
end Go.AW
