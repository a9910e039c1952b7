/- Contracts: checkpoints' certificates, on both sides. -/
import Derived.Test.YtpgahkdjkanblaaGreatAu2
import Derived.Test.YtpgahkdjkanblaaGreatQu1
import Derived.Test.YtpgahkdjkanblaaGreatPr4
import Derived.Test.YtpgahkdjkanblaaGreatKr6
import Derived.Test.YtpgahkdjkanblaaGreatRc1
set_option linter.all false
set_option maxRecDepth 100000
set_option linter.unusedSimpArgs false
set_option linter.unusedVariables false
namespace Go.Proofs.YtpgahkdjkanblaaGreat
open Go.AW

theorem c_ptZero {σ : List zf} {c : zek} {K : KT} (hK : K (.d (.bool (zqf c))) σ) : zm Tryz.prog zmi [zgQ c] σ K := by
  refine zc zrl.is rfl fun hl _ => zrl.goes ?_
  have hlen : (zas c.signs).length = c.signs.length := List.length_map ..
  have fin : ∀ z, zqf c = z → K (.d (.bool z)) σ := fun z h => h ▸ hK
  clear hK
  simp only [zrw, iN, bT, bF, eN, zgQ]
  cases h1 : (c.seq == 0)
  · refine zH h1 ?_
    refine zq hl ?_
    exact fin _ (by simp [zqf, h1])
  cases h2 : (c.dig == 0)
  · refine zH (zB h1 h2) ?_
    refine zq hl ?_
    exact fin _ (by simp [zqf, h1, h2])
  refine zH (zB h1 (zB h2 hlen)) ?_
  refine zq hl ?_
  exact fin _ (by simp [zqf, h1, h2])
theorem c_r14Zero {σ : List zf} {c : zek} {K : KT} (hK : K (.d (.bool (zqf c))) σ) : zm Tryz.prog zqn [zgQ c] σ K := by
  refine zc zuK.is rfl fun hl _ => zuK.goes ?_
  have hlen : (zas c.signs).length = c.signs.length := List.length_map ..
  have fin : ∀ z, zqf c = z → K (.d (.bool z)) σ := fun z h => h ▸ hK
  clear hK
  simp only [zvr, iN, bT, bF, eN, zgQ]
  cases h1 : (c.seq == 0)
  · refine zH h1 ?_
    refine zq hl ?_
    exact fin _ (by simp [zqf, h1])
  cases h2 : (c.dig == 0)
  · refine zH (zB h1 h2) ?_
    refine zq hl ?_
    exact fin _ (by simp [zqf, h1, h2])
  refine zH (zB h1 (zB h2 hlen)) ?_
  refine zq hl ?_
  exact fin _ (by simp [zqf, h1, h2])
theorem c_ptMay {σ : List zf} {id : Nat} {f seq d key : Int} {cs : List AV} (hσ : σ[id]? = some (.box (.d (.int .i64 f) :: cs))) {K : KT} (hK : K (.d (.bool (zjb f seq d key))) σ) :
    zm Tryz.prog zfQ [.box id 0, .d (.int .i64 seq), .d (.int .i64 d), .d (.int .i64 key)] σ K := by
  refine zc zjn.is rfl fun hl _ => zjn.goes ?_
  have fin : ∀ z, zjb f seq d key = z → K (.d (.bool z)) σ := fun z h => h ▸ hK
  clear hK
  have e4 : ((4 : Int) == 0) = false := rfl
  simp only [zjC, iN, bT, bF, eN]
  cases h1 : decide (seq ≥ 1)
  · refine zH h1 ?_
    refine zq hl ?_
    exact fin _ (by rw [zjb, h1]; rfl)
  cases h2 : decide (seq ≤ 9007199254740992)
  · refine zH (zB h1 h2) ?_
    refine zq hl ?_
    exact fin _ (by rw [zjb, h1, h2]; rfl)
  cases h3 : (seq.tmod 4 == 0)
  · refine zH (zB h1 (zB h2 (zB e4 h3))) ?_
    refine zq hl ?_
    exact fin _ (by rw [zjb, h1, h2, h3]; rfl)
  cases h4 : decide (d ≥ 1)
  · refine zH (zB h1 (zB h2 (zB e4 (zB h3 h4)))) ?_
    refine zq hl ?_
    exact fin _ (by rw [zjb, h1, h2, h3, h4]; rfl)
  cases h5 : decide (d ≤ 9007199254740992)
  · refine zH (zB h1 (zB h2 (zB e4 (zB h3 (zB h4 h5))))) ?_
    refine zq hl ?_
    exact fin _ (by rw [zjb, h1, h2, h3, h4, h5]; rfl)
  cases h6 : decide (key ≥ 0)
  · refine zH (zB h1 (zB h2 (zB e4 (zB h3 (zB h4 (zB h5 h6)))))) ?_
    refine zq hl ?_
    exact fin _ (by rw [zjb, h1, h2, h3, h4, h5, h6]; rfl)
  refine zH (zB h1 (zB h2 (zB e4 (zB h3 (zB h4 (zB h5 (zB h6 hσ))))))) ?_
  refine ziM ?_
  refine zao ?_
  refine zq hl ?_
  exact fin _ (by rw [zjb, h1, h2, h3, h4, h5, h6]; rfl)
theorem c_r14May {σ : List zf} {id : Nat} {f seq d key : Int} {cs : List AV} (hσ : σ[id]? = some (.box (.d (.int .i64 f) :: cs))) {K : KT} (hK : K (.d (.bool (zjb f seq d key))) σ) :
    zm Tryz.prog zhw [.box id 0, .d (.int .i64 seq), .d (.int .i64 d), .d (.int .i64 key)] σ K := by
  refine zc zlj.is rfl fun hl _ => zlj.goes ?_
  have fin : ∀ z, zjb f seq d key = z → K (.d (.bool z)) σ := fun z h => h ▸ hK
  clear hK
  have e4 : ((4 : Int) == 0) = false := rfl
  simp only [zlB, iN, bT, bF, eN]
  cases h1 : decide (seq ≥ 1)
  · refine zH h1 ?_
    refine zq hl ?_
    exact fin _ (by rw [zjb, h1]; rfl)
  cases h2 : decide (seq ≤ 9007199254740992)
  · refine zH (zB h1 h2) ?_
    refine zq hl ?_
    exact fin _ (by rw [zjb, h1, h2]; rfl)
  cases h3 : (seq.tmod 4 == 0)
  · refine zH (zB h1 (zB h2 (zB e4 h3))) ?_
    refine zq hl ?_
    exact fin _ (by rw [zjb, h1, h2, h3]; rfl)
  cases h4 : decide (d ≥ 1)
  · refine zH (zB h1 (zB h2 (zB e4 (zB h3 h4)))) ?_
    refine zq hl ?_
    exact fin _ (by rw [zjb, h1, h2, h3, h4]; rfl)
  cases h5 : decide (d ≤ 9007199254740992)
  · refine zH (zB h1 (zB h2 (zB e4 (zB h3 (zB h4 h5))))) ?_
    refine zq hl ?_
    exact fin _ (by rw [zjb, h1, h2, h3, h4, h5]; rfl)
  cases h6 : decide (key ≥ 0)
  · refine zH (zB h1 (zB h2 (zB e4 (zB h3 (zB h4 (zB h5 h6)))))) ?_
    refine zq hl ?_
    exact fin _ (by rw [zjb, h1, h2, h3, h4, h5, h6]; rfl)
  refine zH (zB h1 (zB h2 (zB e4 (zB h3 (zB h4 (zB h5 (zB h6 hσ))))))) ?_
  refine znn ?_
  refine zao ?_
  refine zq hl ?_
  exact fin _ (by rw [zjb, h1, h2, h3, h4, h5, h6]; rfl)
theorem zgT {l : List zP} {k : Nat} {s : zP} (h : l[k]? = some s) : aheadS l (k + 1) = some s := h
abbrev certO (c : zek) : zf := .box [.d (.int .i64 c.seq), .d (.int .i64 c.dig), .d (.slice (zas c.signs))]
theorem c_ptMayCert {σ : List zf} {id : Nat} {f : Int} {c : zek} {cs : List AV} (hσ : σ[id]? = some (.box (.d (.int .i64 f) :: cs))) (hl0 : c.signs.length ≤ 1073741824) {K : KT} (hK : K (.d (.bool (zdQ f c))) σ) :
    zm Tryz.prog zeh [.box id 0, zgQ c] σ K := by
  refine zc zgl.is rfl fun hl _ => zgl.goes ?_
  have fin : ∀ z, zdQ f c = z → K (.d (.bool z)) σ := fun z h => h ▸ hK
  clear hK
  have hlen : (zas c.signs).length = c.signs.length := List.length_map ..
  have hS : ∀ τ, (σ ++ τ)[id]? = some (.box (.d (.int .i64 f) :: cs)) := fun τ => zx hσ
  simp only [zgv, iN, bT, bF, eN, zgQ]
  refine zao ?_
  refine c_ptZero (c := c) ?_
  cases hz : zqf c
  rotate_left
  · refine zao ?_
    refine zq hl ?_
    exact fin _ (by rw [zdQ, hz]; rfl)
  refine zH hlen ?_
  refine zl c.signs.length (fun k vs s => vs = [.d (.int .i64 k)] ∧ (∃ T, s = σ ++ certO c :: T) ∧ zvZ f c.seq c.dig none c.signs = zvZ f c.seq c.dig (aheadS c.signs k) (c.signs.drop k)) ⟨rfl, ⟨[], rfl⟩, rfl⟩ ?_
  rintro k vs s hk ⟨rfl, ⟨T, rfl⟩, hpf⟩
  have no : zvZ f c.seq c.dig none c.signs = false → zdQ f c = false := fun h => by rw [zdQ, hz, h, Bool.and_false]; rfl
  by_cases hlt : k < c.signs.length
  · have hd : decide ((k : Int) < (c.signs.length : Int)) = true := by simp; omega
    have hx : c.signs[k]? = some c.signs[k] := by simp [hlt]
    have hgx := zQ (f := zeS) hx
    obtain ⟨x, hxe⟩ : ∃ x, c.signs[k] = x := ⟨_, rfl⟩
    rw [hxe] at hx hgx
    rw [zuz hx] at hpf
    refine zjk (zB hd hgx) ?_
    refine c_ptMay (hS _) ?_
    cases h1 : zjb f c.seq c.dig x.key
    · refine zao ?_
      refine zq hl ?_
      exact fin _ (no (by rw [hpf, h1]; rfl))
    rw [h1, Bool.true_and] at hpf
    cases k with
    | zero =>
      refine zH (zB (show decide (((0 : Nat) : Int) > 0) = false from rfl) (wkc 0 (by omega))) ?_
      exact zaG.next hlt ⟨rfl, ⟨_, rfl⟩, by rw [hpf, zgT hx]; rfl⟩
    | succ j =>
      have hz1 : decide (((j + 1 : Nat) : Int) > 0) = true := decide_eq_true (by omega)
      have hw1 : IntKind.i64.wrap (((j + 1 : Nat) : Int) - 1) = (j : Int) := by rw [zat (by omega) (by omega)]; omega
      have hy : c.signs[j]? = some c.signs[j] := by simp [show j < c.signs.length by omega]
      have hgy := zQ (f := zeS) hy
      obtain ⟨y, hye⟩ : ∃ y, c.signs[j] = y := ⟨_, rfl⟩
      rw [hye] at hy hgy
      rw [zgT hy] at hpf
      simp only at hpf
      cases h2 : decide (x.key ≤ y.key)
      · refine zjk (zB hz1 (zB hw1 (zB hgx (zB hgy (zB h2 (wkc (j + 1) (by omega))))))) ?_
        exact zaG.next hlt ⟨rfl, ⟨_, rfl⟩, by rw [hpf, h2, zgT hx]; simp⟩
      · refine zjk (zB hz1 (zB hw1 (zB hgx (zB hgy h2)))) ?_
        refine zq hl ?_
        exact fin _ (no (by rw [hpf, h2]; rfl))
  · have hd : decide ((k : Int) < (c.signs.length : Int)) = false := by simp; omega
    rw [List.drop_eq_nil_of_le (by omega)] at hpf
    refine zH (zB hd (zB hlen hS)) ?_
    refine c_quBig ?_
    refine zao ?_
    refine zq hl ?_
    exact fin _ (by rw [zdQ, hz, hpf]; simp [zvZ])
theorem c_r14MayCert {σ : List zf} {id : Nat} {f : Int} {c : zek} {cs : List AV} (hσ : σ[id]? = some (.box (.d (.int .i64 f) :: cs))) (hl0 : c.signs.length ≤ 1073741824) {K : KT} (hK : K (.d (.bool (zdQ f c))) σ) :
    zm Tryz.prog zeX [.box id 0, zgQ c] σ K := by
  refine zc zhM.is rfl fun hl _ => zhM.goes ?_
  have fin : ∀ z, zdQ f c = z → K (.d (.bool z)) σ := fun z h => h ▸ hK
  clear hK
  have hlen : (zas c.signs).length = c.signs.length := List.length_map ..
  have hS : ∀ τ, (σ ++ τ)[id]? = some (.box (.d (.int .i64 f) :: cs)) := fun τ => zx hσ
  simp only [zhU, iN, bT, bF, eN, zgQ]
  refine zao ?_
  refine c_r14Zero (c := c) ?_
  cases hz : zqf c
  rotate_left
  · refine zao ?_
    refine zq hl ?_
    exact fin _ (by rw [zdQ, hz]; rfl)
  refine zH (zB hlen hS) ?_
  refine c_rBig ?_
  cases hb : decide ((c.signs.length : Int) < zcJ 2 f)
  rotate_left
  · refine zH hb ?_
    refine zq hl ?_
    refine fin _ ?_
    have : decide ((c.signs.length : Int) ≥ zcJ 2 f) = false := by simp at hb ⊢; omega
    rw [zdQ, hz, this]; rfl
  have hb2 : decide ((c.signs.length : Int) ≥ zcJ 2 f) = true := by simp at hb ⊢; omega
  refine zH hb ?_
  refine zl c.signs.length (fun k vs s => vs = [.d (.int .i64 k)] ∧ s = σ ++ [certO c] ∧ zdQ f c = zvZ f c.seq c.dig (aheadS c.signs k) (c.signs.drop k)) ⟨rfl, rfl, by rw [zdQ, hz, hb2]; rfl⟩ ?_
  rintro k vs s hk ⟨rfl, rfl, hpf⟩
  by_cases hlt : k < c.signs.length
  · have hd : decide ((k : Int) < (c.signs.length : Int)) = true := by simp; omega
    have hx : c.signs[k]? = some c.signs[k] := by simp [hlt]
    have hgx := zQ (f := zeS) hx
    obtain ⟨x, hxe⟩ : ∃ x, c.signs[k] = x := ⟨_, rfl⟩
    rw [hxe] at hx hgx
    rw [zuz hx] at hpf
    refine zjk (zB hd (zB hgx hlen)) ?_
    refine c_r14May (hS _) ?_
    cases h1 : zjb f c.seq c.dig x.key
    · refine zao ?_
      refine zq hl ?_
      exact fin _ (by rw [hpf, h1]; rfl)
    rw [h1, Bool.true_and] at hpf
    cases k with
    | zero =>
      refine zH (zB (show decide (((0 : Nat) : Int) > 0) = false from rfl) (wkc 0 (by omega))) ?_
      exact zaG.next hlt ⟨rfl, rfl, by rw [hpf, zgT hx]; rfl⟩
    | succ j =>
      have hz1 : decide (((j + 1 : Nat) : Int) > 0) = true := decide_eq_true (by omega)
      have hw1 : IntKind.i64.wrap (((j + 1 : Nat) : Int) - 1) = (j : Int) := by rw [zat (by omega) (by omega)]; omega
      have hy : c.signs[j]? = some c.signs[j] := by simp [show j < c.signs.length by omega]
      have hgy := zQ (f := zeS) hy
      obtain ⟨y, hye⟩ : ∃ y, c.signs[j] = y := ⟨_, rfl⟩
      rw [hye] at hy hgy
      rw [zgT hy] at hpf
      simp only at hpf
      cases h2 : decide (x.key ≤ y.key)
      · refine zjk (zB hz1 (zB hw1 (zB hgx (zB hgy (zB h2 (wkc (j + 1) (by omega))))))) ?_
        exact zaG.next hlt ⟨rfl, rfl, by rw [hpf, h2, zgT hx]; simp⟩
      · refine zjk (zB hz1 (zB hw1 (zB hgx (zB hgy h2)))) ?_
        refine zq hl ?_
        exact fin _ (by rw [hpf, h2]; rfl)
  · have hd : decide ((k : Int) < (c.signs.length : Int)) = false := by simp; omega
    rw [List.drop_eq_nil_of_le (by omega)] at hpf
    refine zH (zB hd hlen) ?_
    refine zq hl ?_
    exact fin _ (by rw [hpf]; rfl)
theorem c_ptNew {σ : List zf} {f : Int} {K : KT} (hN : zbK f ≠ 0 → K (.tup [.d .nilp, .d (.int .i64 (zbK f))]) σ)
    (hY : zbK f = 0 → K (.tup [.box (σ.length + 1) 0, .d (.int .i64 0)]) (σ ++ [.map [], .box [.d (.int .i64 f), .d (.int .i64 0), .d (.int .i64 0), .exact [], .map σ.length, .exact []]])) : zm Tryz.prog zom [.d (.int .i64 f)] σ K := by
  refine zcl zsU.is rfl (fun s => if s.length = σ.length then [] else List.range' σ.length 2) fun hl _ => zsU.goes ?_
  simp only [ztK, iN, bT, bF, eN]
  refine zao ?_
  refine zks ?_
  cases h : (zbK f != 0)
  · have h0 : zbK f = 0 := by simpa using h
    refine zH h ?_
    refine zfW (os := [.map [], .box [.d (.int .i64 f), .d (.int .i64 0), .d (.int .i64 0), .exact [], .map σ.length, .exact []]]) rfl (by simp) hl ?_ ?_ (hY h0)
    · intro x hx
      simp only [List.mem_cons, List.not_mem_nil, or_false] at hx
      rcases hx with rfl | rfl
      · intro e he; simp at he
      · intro c hc
        simp only [List.mem_cons, List.not_mem_nil, or_false] at hc
        rcases hc with rfl | rfl | rfl | rfl | rfl | rfl
        · exact .d _
        · exact .d _
        · exact .d _
        · exact .exact _
        · exact .map _ (by simp)
        · exact .exact _
    · simp [zdF, zcV, Low_box, ztP]
  · refine zH h ?_
    exact zsB (by simp) hl (by simp [zdF, zdt, zjV]) (hN (by simpa using h))
end Go.Proofs.YtpgahkdjkanblaaGreat
