/- Contracts: blocks: digests of headers and topics; the first header. -/
import Derived.Test.YthpnelbciibjeaaGreatHd2
import Derived.Test.YthpnelbciibjeaaGreatKs4
import Derived.Test.YthpnelbciibjeaaGreatKs2
import Derived.Test.YthpnelbciibjeaaGreatMk1
import Derived.Test.YthpnelbciibjeaaGreatSpUtf
import Derived.Test.YthpnelbciibjeaaGreatCl1
set_option linter.all false
set_option maxRecDepth 100000
set_option linter.unusedSimpArgs false
set_option linter.unusedVariables false
namespace Go.Proofs.YthpnelbciibjeaaGreat
open Go.AW

section
variable {σ : List zc} {id m t : Nat} {L : List (List UInt8)} {K : AV → List zc → Prop}
def givE (d : Int) : Int := if d = 0 then 6 else 0
theorem ziv {d : Int} (hK : K (.tup [.d (.int .i64 d), .d (.int .i64 (givE d))]) σ) : zo Tryz.prog zcx [.d (.int .i64 d)] σ K := by
  refine zhS zpY fun hl => ?_
  simp only [zkU, iN, bT, bF, eN]
  cases h : (d == 0)
  · have h0 : ¬ d = 0 := by simpa using h
    rw [givE, if_neg h0] at hK
    refine gq2 h ?_
    refine zbx hl ?_
    exact hK
  · have h0 : d = 0 := by simpa using h
    subst h0
    rw [givE, if_pos rfl] at hK
    refine gq2 h ?_
    refine zbx hl ?_
    exact hK
theorem zoT {h : zfs} (hT : zbO σ id m t L) (hI : TabI L) (hK : K (.tup [.d (.int .i64 (hdigD L h)), .d (.int .i64 (hdigE L h))]) (putTab σ id m t (zgy L h))) : zo Tryz.prog zey [.box id 0, znn h] σ K := by
  refine zjy zoi fun hl => ?_
  simp only [zjC, iN, bT, bF, eN, znn]
  refine gq1 ?_
  refine zmD (hT.app _) hI ?_
  refine gq1 ?_
  refine znI (h := h) ?_
  cases hc : (zaE h == 0)
  · have hc' : (zaE h != 0) = true := by simpa using hc
    have hc0 : zaE h ≠ 0 := by simpa using hc
    simp only [hdigE, hdigD, zgy, if_pos hc0] at hK
    rw [hT.self] at hK
    refine gq2 hc' ?_
    refine zbx hl ?_
    exact hK
  have hc0 : zaE h = 0 := by simpa using hc
  have hbl := zpL (zeH.1 hc0)
  simp only [hdigE, hdigD, zgy, hc0, ne_eq, not_true_eq_false, if_false] at hK
  rw [zpM hc0, hc0]
  refine gq2 (show ((0 : Int) != 0) = false from rfl) ?_
  refine zmc (hT.app _) (by omega) hI.len ?_
  rw [zgH hT]
  have hl1 := hT.lows hl (zfA L (zoD h))
  have hs1 := zaS σ id m t (zfA L (zoD h))
  obtain ⟨S1, hS1⟩ : ∃ S1, putTab σ id m t (zfA L (zoD h)) = S1 := ⟨_, rfl⟩
  rw [hS1] at hK hs1 hl1 ⊢
  refine gq1 ?_
  refine ziv ?_
  refine gq1 ?_
  refine ziY hs1 ?_ hl1 hK
  simp [zbM, dmT, dm, dm1, zbo, zdx, zhD]
theorem zoS {h : Nat} {T : zaz} {O : Nat → Prop} (hT : zbO σ id m t L) (hI : L.length ≤ 1048576) (hP : zeR σ h T O) (hTI : zef T) (hL : znU T.last)
    (hK : K (.d (.int .i64 (zhT L (zdm T)))) (putTab σ id m t (zfA L (zdm T)))) : zo Tryz.prog zbz [.box h 0, .box id 0] σ K := by
  refine zjy zhR fun hl => ?_
  obtain ⟨mm, hb, h8⟩ := hP.box
  have := topsB_len hTI hL h8
  simp only [zep, iN, bT, bF, eN]
  refine gq1 ?_
  refine zjb hb ?_
  refine gq1 ?_
  refine c_tpBytes hP hTI hL ?_
  refine gq1 ?_
  refine zmc hT (by omega) hI ?_
  refine gq1 ?_
  exact zdV (zaS ..) (by simp [zbM, dmT, dm, dm1, zbo]) (hT.lows hl _) hK
theorem c_blGenesis (hT : zbO σ id m t L) (hI : TabI L) (hK : K (.tup [znn (genF L).1, .d (.int .i64 (genF L).2.1)]) (putTab σ id m t (genF L).2.2)) : zo Tryz.prog zfJ [.box id 0] σ K := by
  refine zhS znx fun hl => ?_
  simp only [ziG, iN, bT, bF, eN]
  refine gq1 ?_
  refine zmD (hT.app _) hI ?_
  refine gq1 ?_
  refine c_mkRoot (l := []) (hT.app _) hI.len (by simp) (by simp) ?_
  rw [zgH hT]
  obtain ⟨r, hr⟩ : ∃ r, zdp L [] = r := ⟨_, rfl⟩
  rw [hr]
  have hr2 : r.2.length ≤ 1048576 := by rw [← hr]; exact (zgF 0 (Nat.le_refl _) hI.len).1
  have hT1 := hT.put r.2
  have hs1 := zaS σ id m t r.2
  have hpp : ∀ l', putTab (putTab σ id m t r.2) id m t l' = putTab σ id m t l' := fun l' => zlh hT ..
  obtain ⟨S, hS⟩ : ∃ S, putTab σ id m t r.2 = S := ⟨_, rfl⟩
  rw [hS] at hT1 hs1 hpp ⊢
  refine gq1 ?_
  refine ziv ?_
  refine gq1 ?_
  refine c_tpNew fun hP => ?_
  have e2 : ∀ A : zc, (S ++ [A]).length = S.length + 1 := fun A => by simp
  rw [e2] at hP
  rw [List.append_assoc] at hP
  refine gq1 ?_
  have hLast : znU zdg.last := fun a ha => by
    have := List.eq_of_mem_replicate ha
    subst this
    simp
  have hg : genF L = if r.1 = 0 ∨ zhT r.2 (zdm zdg) = 0 then (znW, 6, zfA r.2 (zdm zdg)) else (⟨0, 0, 0, r.1, zhT r.2 (zdm zdg)⟩, 0, zfA r.2 (zdm zdg)) := by rw [genF, hr]
  refine zoS (hT1.app _) hr2 hP .none hLast ?_
  rw [zgH hT1, hpp]
  have hl1 := hT.lows hl (zfA r.2 (zdm zdg))
  have hs2 := zaS σ id m t (zfA r.2 (zdm zdg))
  obtain ⟨d, hd⟩ : ∃ d, zhT r.2 (zdm zdg) = d := ⟨_, rfl⟩
  obtain ⟨L2, hL2⟩ : ∃ L2, zfA r.2 (zdm zdg) = L2 := ⟨_, rfl⟩
  rw [hd, hL2] at hg
  rw [hL2] at hl1 hs2 ⊢
  rw [hd]
  obtain ⟨S2, hS2⟩ : ∃ S2, putTab σ id m t L2 = S2 := ⟨_, rfl⟩
  rw [hS2] at hl1 hs2 ⊢
  have fin : ∀ z, genF L = z → z.2.2 = L2 → ∀ τ, AW.Ends σ.length K (some [znn z.1, .d (.int .i64 z.2.1)]) (S2 ++ τ) := fun z h h2 τ => by
    rw [h, h2, hS2] at hK
    exact ziY hs2 (by simp [zbM, dmT, dm, dm1, zbo, zdx, zhD]) hl1 hK
  have x0 : ∀ a τ, (S2 ++ a :: τ)[σ.length]? = some a := fun a τ => by rw [← hs2]; exact zm ..
  have x1 : ∀ a τ Y, (S2 ++ a :: τ).set σ.length Y = S2 ++ Y :: τ := fun a τ Y => by rw [← hs2]; exact zM ..
  refine gq1 ?_
  refine ziv ?_
  by_cases c1 : r.1 = 0
  · rw [if_pos (.inl c1)] at hg
    have k1 : (givE r.1 != 0) = true := by rw [givE, if_pos c1]; rfl
    refine gq2 (zh k1 (zh x0 x1)) ?_
    exact fin _ hg rfl _
  have k1 : (givE r.1 != 0) = false := by rw [givE, if_neg c1]; rfl
  by_cases c2 : d = 0
  · rw [if_pos (.inr c2)] at hg
    have k2 : (givE d != 0) = true := by rw [givE, if_pos c2]; rfl
    refine gq2 (zh k1 (zh k2 (zh x0 x1))) ?_
    exact fin _ hg rfl _
  · rw [if_neg (by rintro (h | h); exact c1 h; exact c2 h)] at hg
    have k2 : (givE d != 0) = false := by rw [givE, if_neg c2]; rfl
    refine gq2 (zh k1 (zh k2 (zh x0 x1))) ?_
    exact fin _ hg rfl _
end

end Go.Proofs.YthpnelbciibjeaaGreat

/- One byte of a number, as a loop over at most ten reads it. No program in sight. -/
/- A number's next seven bits. No program in sight. -/
set_option linter.unusedSimpArgs false
namespace Go.AW
open Go

theorem wrap64m (n : Nat) : IntKind.u64.wrap (n : Int) = ((n % 18446744073709551616 : Nat) : Int) := by
  simp [IntKind.wrap, IntKind.signed, IntKind.bits]
theorem zko (n : Nat) : (BitVec.ofInt IntKind.u64.bits (n : Int)).toNat = n % 18446744073709551616 := by
  rw [BitVec.toNat_ofInt]
  have : ((2 ^ IntKind.u64.bits : Nat) : Int) = 18446744073709551616 := by decide
  rw [this]; omega
theorem zlQ (n : Nat) : (BitVec.ofInt IntKind.u8.bits (n : Int)).toNat = n % 256 := by
  rw [BitVec.toNat_ofInt]
  have : ((2 ^ IntKind.u8.bits : Nat) : Int) = 256 := by decide
  rw [this]; omega
theorem andLow (x : Nat) (hx : x < 256) : IntKind.u8.wrap ↑(BitVec.ofInt IntKind.u8.bits (x : Int) &&& BitVec.ofInt IntKind.u8.bits 127).toNat = ((x % 128 : Nat) : Int) := by
  have e : (127 : Int) = ((127 : Nat) : Int) := rfl
  rw [BitVec.toNat_and, zlQ, e, zlQ, Nat.mod_eq_of_lt hx, show 127 % 256 = 2 ^ 7 - 1 from rfl, Nat.and_two_pow_sub_one_eq_mod]
  rw [zkc (by omega)]
theorem pow128 (k : Nat) : 128 ^ k = 2 ^ (7 * k) := by rw [Nat.pow_mul]
theorem numStep {acc k x : Nat} (hx : x < 256) (hk : k ≤ 9) (ha : acc < 128 ^ k) :
    IntKind.u64.wrap ↑(BitVec.ofInt IntKind.u64.bits (acc : Int) ||| BitVec.ofInt IntKind.u64.bits (IntKind.u64.wrap (IntKind.u64.wrap (IntKind.u8.wrap ↑(BitVec.ofInt IntKind.u8.bits (x : Int) &&& BitVec.ofInt IntKind.u8.bits 127).toNat) * 2 ^ min (IntKind.i64.wrap (7 * (k : Int))).toNat IntKind.u64.bits))).toNat
      = (((acc + x % 128 * 128 ^ k) % 18446744073709551616 : Nat) : Int) := by
  have h63 : 128 ^ k ≤ 128 ^ 9 := Nat.pow_le_pow_right (by omega) hk
  have h63' : (128 : Nat) ^ 9 = 9223372036854775808 := rfl
  have e1 : min (IntKind.i64.wrap (7 * (k : Int))).toNat IntKind.u64.bits = 7 * k := by
    rw [zaK (by omega) (by omega)]
    have : IntKind.u64.bits = 64 := rfl
    omega
  have e2 : ((x % 128 : Nat) : Int) * 2 ^ (7 * k) = ((x % 128 * 2 ^ (7 * k) : Nat) : Int) := by simp
  rw [andLow x hx, zbe (n := x % 128) (by omega), e1, e2, wrap64m (x % 128 * 2 ^ (7 * k)), BitVec.toNat_or, zko, zko, Nat.mod_mod, Nat.mod_eq_of_lt (by omega : acc < 18446744073709551616)]
  rw [pow128 k] at ha ⊢
  have e3 : 18446744073709551616 = 2 ^ (7 * k) * 2 ^ (64 - 7 * k) := by
    rw [← Nat.pow_add, show 7 * k + (64 - 7 * k) = 64 by omega]
  have e4 : x % 128 * 2 ^ (7 * k) % 18446744073709551616 = 2 ^ (7 * k) * (x % 128 % 2 ^ (64 - 7 * k)) := by
    rw [Nat.mul_comm, e3, Nat.mul_mod_mul_left]
  have e5 : acc ||| 2 ^ (7 * k) * (x % 128 % 2 ^ (64 - 7 * k)) = 2 ^ (7 * k) * (x % 128 % 2 ^ (64 - 7 * k)) + acc := by
    rw [Nat.or_comm, Nat.two_pow_add_eq_or_of_lt ha]
  have hr : 2 ^ (7 * k) * (x % 128 % 2 ^ (64 - 7 * k)) + acc < 18446744073709551616 := by
    have hz : x % 128 % 2 ^ (64 - 7 * k) < 2 ^ (64 - 7 * k) := Nat.mod_lt _ (Nat.two_pow_pos _)
    calc 2 ^ (7 * k) * (x % 128 % 2 ^ (64 - 7 * k)) + acc < 2 ^ (7 * k) * (x % 128 % 2 ^ (64 - 7 * k)) + 2 ^ (7 * k) := by omega
      _ = 2 ^ (7 * k) * (x % 128 % 2 ^ (64 - 7 * k) + 1) := by rw [Nat.mul_add, Nat.mul_one]
      _ ≤ 2 ^ (7 * k) * 2 ^ (64 - 7 * k) := Nat.mul_le_mul_left _ hz
      _ = 18446744073709551616 := e3.symm
  rw [e4, e5, zbe hr]
  have e6 : (acc + x % 128 * 2 ^ (7 * k)) % 18446744073709551616 = (acc + x % 128 * 2 ^ (7 * k) % 18446744073709551616) % 18446744073709551616 := by omega
  rw [e6, e4, Nat.add_comm acc, Nat.mod_eq_of_lt hr]

theorem numFit {acc k x : Nat} (hk : k ≤ 9) (ha : acc < 128 ^ k) (h : ¬ (k = 9 ∧ x > 1)) : acc + x % 128 * 128 ^ k < 128 ^ (k + 1) ∧ acc + x % 128 * 128 ^ k < 18446744073709551616 := by
  have h1 : x % 128 * 128 ^ k ≤ 127 * 128 ^ k := Nat.mul_le_mul_right _ (by omega)
  have h2 : 128 ^ (k + 1) = 128 ^ k * 128 := Nat.pow_succ ..
  refine ⟨by omega, ?_⟩
  by_cases h9 : k = 9
  · subst h9
    have h3 : x % 128 * 128 ^ 9 ≤ 1 * 128 ^ 9 := Nat.mul_le_mul_right _ (by omega)
    have h4 : (128 : Nat) ^ 9 = 9223372036854775808 := rfl
    omega
  · have h3 : 128 ^ (k + 1) ≤ 128 ^ 9 := Nat.pow_le_pow_right (by omega) (by omega)
    have h4 : (128 : Nat) ^ 9 = 9223372036854775808 := rfl
    omega
theorem zpv {m k acc : Nat} {c : UInt8} {r : List UInt8} (hc : c.toNat > 127) (hk : k < 9) : ziR m k acc (c :: r) = ziR m (k + 1) (acc + c.toNat % 128 * 128 ^ k) r := by
  rw [ziR, if_neg (by omega), if_neg (by omega)]
theorem numR_nine {m acc : Nat} {c : UInt8} {r : List UInt8} (hc : c.toNat > 1) : ziR m 9 acc (c :: r) = .error 11 := by
  rw [ziR, if_pos ⟨rfl, hc⟩]
theorem numR_bad {m k acc : Nat} {c : UInt8} {r : List UInt8} (hc : c.toNat < 128) (hk : k ≤ 9) (ha : acc < 128 ^ k) (h : (k > 0 ∧ c.toNat = 0) ∨ (k = 9 ∧ c.toNat > 1) ∨ (acc + c.toNat % 128 * 128 ^ k) % 18446744073709551616 > m) : ziR m k acc (c :: r) = .error 11 := by
  rw [ziR]
  by_cases h1 : k = 9 ∧ c.toNat > 1
  · rw [if_pos h1]
  · have hf := (numFit hk ha h1).2
    rw [Nat.mod_eq_of_lt hf, Nat.mod_eq_of_lt hc] at h
    rw [if_neg h1, if_pos hc, if_pos (by rcases h with h | h | h; exact .inl h; exact absurd h h1; exact .inr h)]
theorem numR_good {m k acc : Nat} {c : UInt8} {r : List UInt8} (hc : c.toNat < 128) (hk : k ≤ 9) (ha : acc < 128 ^ k) (h0 : ¬ (k > 0 ∧ c.toNat = 0)) (h1 : ¬ (k = 9 ∧ c.toNat > 1)) (h : ¬ ((acc + c.toNat % 128 * 128 ^ k) % 18446744073709551616 > m)) : ziR m k acc (c :: r) = .ok ((acc + c.toNat % 128 * 128 ^ k) % 18446744073709551616, r) := by
  have hf := (numFit hk ha h1).2
  rw [Nat.mod_eq_of_lt hf] at h ⊢
  rw [Nat.mod_eq_of_lt hc] at h ⊢
  rw [ziR, if_neg h1, if_pos hc, if_neg (by rintro (h' | h'); exact h0 h'; exact h h')]
end Go.AW
