/- Contracts: votes, the document's. -/
import Derived.Test.YtcappjcojggehaaGreatRq5
import Derived.Test.YtcappjcojggehaaGreatSpVote
set_option linter.all false
set_option maxRecDepth 100000
set_option linter.unusedSimpArgs false
set_option linter.unusedVariables false
namespace Go.Proofs.YtcappjcojggehaaGreat
open Go.AW

theorem zoy {σ : List zb} {x : Int} {K : AV → List zb → Prop} (hK : K (.d (.bool (zev x))) σ) : zN Tryz.prog zfH [.d (.int .i64 x)] σ K := by
  refine zk e_r11_num.is rfl fun hl _ => e_r11_num.goes ?_
  have fin : ∀ z, zev x = z → K (.d (.bool z)) σ := fun z h => h ▸ hK
  clear hK
  simp only [S_r11_num, iN, bT, bF, eN]
  cases h1 : decide (x ≥ 0)
  · (repeat' first | refine gq2 h1 ?_ | with_reducible first | exact ⟨⟩ | refine zA ?_ | fail)
    (first | refine zar hl ?_ | refine zaq hl ?_)
    exact fin _ (by simp at h1; simp [zev]; omega)
  · (repeat' first | refine gq2 h1 ?_ | with_reducible first | exact ⟨⟩ | refine zA ?_ | fail)
    (first | refine zar hl ?_ | refine zaq hl ?_)
    exact fin _ (by simp at h1; simp [zev]; omega)
theorem c_raMay {σ : List zb} {a b c d : Int} {K : AV → List zb → Prop} (hK : K (.d (.bool (zjW a b c d))) σ) :
    zN Tryz.prog zlx [.d (.int .i64 a), .d (.int .i64 b), .d (.int .i64 c), .d (.int .i64 d)] σ K := by
  refine zk e_r11_may.is rfl fun hl _ => e_r11_may.goes ?_
  have fin : ∀ z, zjW a b c d = z → K (.d (.bool z)) σ := fun z h => h ▸ hK
  clear hK
  simp only [S_r11_may, iN, bT, bF, eN]
  (repeat' first | refine gq1 ?_ | with_reducible first | exact ⟨⟩ | refine zA ?_ | fail)
  refine zoy ?_
  cases h1 : zev a
  · (repeat' first | refine gq1 ?_ | with_reducible first | exact ⟨⟩ | refine zA ?_ | fail)
    (first | refine zar hl ?_ | refine zaq hl ?_)
    exact fin _ (by simp [zjW, h1])
  (repeat' first | refine gq1 ?_ | with_reducible first | exact ⟨⟩ | refine zA ?_ | fail)
  refine zoy ?_
  cases h2 : zev b
  · (repeat' first | refine gq1 ?_ | with_reducible first | exact ⟨⟩ | refine zA ?_ | fail)
    (first | refine zar hl ?_ | refine zaq hl ?_)
    exact fin _ (by simp [zjW, h1, h2])
  (repeat' first | refine gq1 ?_ | with_reducible first | exact ⟨⟩ | refine zA ?_ | fail)
  refine zoy ?_
  cases h3 : zev c
  · (repeat' first | refine gq1 ?_ | with_reducible first | exact ⟨⟩ | refine zA ?_ | fail)
    (first | refine zar hl ?_ | refine zaq hl ?_)
    exact fin _ (by simp [zjW, h1, h2, h3])
  (repeat' first | refine gq1 ?_ | with_reducible first | exact ⟨⟩ | refine zA ?_ | fail)
  refine zoy ?_
  (repeat' first | refine gq1 ?_ | with_reducible first | exact ⟨⟩ | refine zA ?_ | fail)
  (first | refine zar hl ?_ | refine zaq hl ?_)
  exact fin _ (by simp [zjW, h1, h2, h3])
theorem zox {σ : List zb} {b : List UInt8} {x : Int} (hb : b.length ≤ 1000000) (h0 : 0 ≤ x) (h1 : x ≤ 9007199254740992) {K : AV → List zb → Prop} (hK : K (.d (.slice (bcs (b ++ zct x.toNat)))) σ) :
    zN Tryz.prog zfG [.d (.slice (bcs b)), .d (.int .i64 x)] σ K := by
  refine zk e_r11_put.is rfl fun hl _ => e_r11_put.goes ?_
  have hm1 : (if 0 > x then 0 else x) = x := by split <;> omega
  have hm2 : (if x < 0 then 0 else x) = x := by split <;> omega
  have hw : IntKind.u64.wrap x = ((x.toNat : Nat) : Int) := by
    rw [show x = ((x.toNat : Nat) : Int) by omega, zbV (by omega)]; rfl
  simp only [S_r11_put, iN, bT, bF, eN]
  (repeat' first | refine gq2 (zu hm1 (zu hm2 hw)) ?_ | with_reducible first | exact ⟨⟩ | refine zA ?_ | fail)
  refine zdv (by omega) (by omega) ?_
  (repeat' first | refine gq1 ?_ | with_reducible first | exact ⟨⟩ | refine zA ?_ | fail)
  (first | refine zar hl ?_ | refine zaq hl ?_)
  exact hK
theorem zow {σ : List zb} {a b c d : Int} (h : zjW a b c d = true) {K : AV → List zb → Prop} (hK : K (.d (.slice (bcs (zeT a b c d)))) σ) :
    zN Tryz.prog zey [.d (.int .i64 a), .d (.int .i64 b), .d (.int .i64 c), .d (.int .i64 d)] σ K := by
  refine zk zhy.is rfl fun hl _ => zhy.goes ?_
  simp only [zjW, Bool.and_eq_true, ziT] at h
  obtain ⟨⟨a0, a1⟩, ⟨b0, b1⟩, ⟨c0, c1⟩, ⟨d0, d1⟩⟩ := h
  have l1 := zX (n := a.toNat) (by omega)
  have l2 := zX (n := b.toNat) (by omega)
  have l3 := zX (n := c.toNat) (by omega)
  simp only [zhJ, iN, bT, bF, eN]
  (repeat' first | refine gq1 ?_ | with_reducible first | exact ⟨⟩ | refine zA ?_ | fail)
  refine zox (b := [4]) (by simp) a0 a1 ?_
  obtain ⟨B1, hB1⟩ : ∃ B, [4] ++ zct a.toNat = B := ⟨_, rfl⟩
  have n1 : B1.length ≤ 11 := by rw [← hB1]; simp; omega
  rw [hB1]
  (repeat' first | refine gq1 ?_ | with_reducible first | exact ⟨⟩ | refine zA ?_ | fail)
  refine zox (by omega) b0 b1 ?_
  obtain ⟨B2, hB2⟩ : ∃ B, B1 ++ zct b.toNat = B := ⟨_, rfl⟩
  have n2 : B2.length ≤ 21 := by rw [← hB2]; simp; omega
  rw [hB2]
  (repeat' first | refine gq1 ?_ | with_reducible first | exact ⟨⟩ | refine zA ?_ | fail)
  refine zox (by omega) c0 c1 ?_
  obtain ⟨B3, hB3⟩ : ∃ B, B2 ++ zct c.toNat = B := ⟨_, rfl⟩
  have n3 : B3.length ≤ 31 := by rw [← hB3]; simp; omega
  rw [hB3]
  (repeat' first | refine gq1 ?_ | with_reducible first | exact ⟨⟩ | refine zA ?_ | fail)
  refine zox (by omega) d0 d1 ?_
  (repeat' first | refine gq1 ?_ | with_reducible first | exact ⟨⟩ | refine zA ?_ | fail)
  (first | refine zar hl ?_ | refine zaq hl ?_)
  rw [show B3 ++ zct d.toNat = zeT a b c d by rw [← hB3, ← hB2, ← hB1]; simp [zeT, zix]]
  exact hK
def sgnE (L : List (List UInt8)) (key : Int) (b : List UInt8) : Int := if zgg L b = 0 then 6 else zcV key (zgg L b)
def sgnS (L : List (List UInt8)) (key : Int) (b : List UInt8) : zR := if zgg L b = 0 then ⟨0, 0⟩ else signR key (zgg L b)
def sgnG (L : List (List UInt8)) (G : List zR) (key : Int) (b : List UInt8) : List zR := if zgg L b = 0 then G else zdW G key (zgg L b)
theorem c_raSign {σ : List zb} {id id2 : Nat} {L : List (List UInt8)} {G : List zR} {key : Int} {b : List UInt8} (hT : σ[id]? = some (rtO L)) (hG : σ[id2]? = some (rlO G)) (h1 : id ≠ id2) (hbl : b.length ≤ 1073741824) (hl0 : L.length ≤ 1048576) (hg : G.length ≤ 1073741824)
    {K : AV → List zb → Prop}
    (hK : K (.tup [zlo (sgnS L key b), .d (.int .i64 (sgnE L key b))]) ((σ.set id (rtO (zhQ L b))).set id2 (rlO (sgnG L G key b)))) :
    zN Tryz.prog zjM [.box id 0, .box id2 0, .d (.int .i64 key), .d (.slice (bcs b))] σ K := by
  refine zk znr.is rfl fun hl _ => znr.goes ?_
  simp only [znN, iN, bT, bF, eN]
  (repeat' first | refine gq1 ?_ | with_reducible first | exact ⟨⟩ | refine zA ?_ | fail)
  refine c_rtSum (zaa hT) hbl hl0 ?_
  rw [zbR hT]
  have hl1 : zfy σ.length (σ.set id (rtO (zhQ L b))) := hl.setO (zlp _ _)
  have hs1 : (σ.set id (rtO (zhQ L b))).length = σ.length := by simp
  have hG1 : (σ.set id (rtO (zhQ L b)))[id2]? = some (rlO G) := by rw [List.getElem?_set_ne h1]; exact hG
  obtain ⟨S1, hS1⟩ : ∃ S1, σ.set id (rtO (zhQ L b)) = S1 := ⟨_, rfl⟩
  rw [hS1] at hK hG1 hs1 hl1 ⊢
  have r1 : σ.length = S1.length := hs1.symm
  rw [r1] at hl1
  by_cases hz : zgg L b = 0
  · have hq : (zgg L b == 0) = true := by simpa using hz
    simp only [sgnE, sgnS, sgnG, if_pos hz, zlo] at hK
    rw [zbF hG1] at hK
    (repeat' first | refine gq2 (zu hq r1) ?_ | with_reducible first | exact ⟨⟩ | refine zA ?_ | fail)
    refine zfm rfl ?_ hl1 ?_
    · simp [zhi, dmT, dm, dm1, zcW, zec, zgB]
    · exact hK
  · have hq : (zgg L b == 0) = false := by simpa using hz
    simp only [sgnE, sgnS, sgnG, if_neg hz] at hK
    (repeat' first | refine gq2 (zu hq r1) ?_ | with_reducible first | exact ⟨⟩ | refine zA ?_ | fail)
    refine c_rgSign (zaa hG1) hg ?_
    rw [zbR hG1]
    have hl2 : zfy S1.length (S1.set id2 (rlO (zdW G key (zgg L b)))) := hl1.setO (zog _ _)
    have hs2 : (S1.set id2 (rlO (zdW G key (zgg L b)))).length = S1.length := by simp
    obtain ⟨S2, hS2⟩ : ∃ S2, S1.set id2 (rlO (zdW G key (zgg L b))) = S2 := ⟨_, rfl⟩
    rw [hS2] at hK hs2 hl2 ⊢
    have r3 : S1.length = S2.length := hs2.symm
    have r2 : σ.length = S2.length := r1.trans r3
    rw [r3] at hl2
    simp only [zlo] at hK ⊢
    (repeat' first | refine gq2 (zu r2 r3) ?_ | with_reducible first | exact ⟨⟩ | refine zA ?_ | fail)
    refine zfm rfl ?_ hl2 ?_
    · simp [zhi, dmT, dm, dm1, zcW, zec, zgB]
    · exact hK
def votE (L : List (List UInt8)) (key a b c d : Int) : Int := if zjW a b c d = true then sgnE L key (zeT a b c d) else 1
def votS (L : List (List UInt8)) (key a b c d : Int) : zR := if zjW a b c d = true then sgnS L key (zeT a b c d) else ⟨0, 0⟩
def votL (L : List (List UInt8)) (a b c d : Int) : List (List UInt8) := if zjW a b c d = true then zhQ L (zeT a b c d) else L
def votG (L : List (List UInt8)) (G : List zR) (key a b c d : Int) : List zR := if zjW a b c d = true then sgnG L G key (zeT a b c d) else G
theorem c_raVote {σ : List zb} {id id2 : Nat} {L : List (List UInt8)} {G : List zR} {key a b c d : Int} (hT : σ[id]? = some (rtO L)) (hG : σ[id2]? = some (rlO G)) (h1 : id ≠ id2) (hl0 : L.length ≤ 1048576) (hg : G.length ≤ 1073741824)
    {K : AV → List zb → Prop}
    (hK : K (.tup [zlo (votS L key a b c d), .d (.int .i64 (votE L key a b c d))]) ((σ.set id (rtO (votL L a b c d))).set id2 (rlO (votG L G key a b c d)))) :
    zN Tryz.prog zhS [.box id 0, .box id2 0, .d (.int .i64 key), .d (.int .i64 a), .d (.int .i64 b), .d (.int .i64 c), .d (.int .i64 d)] σ K := by
  refine zk zns.is rfl fun hl _ => zns.goes ?_
  simp only [znO, iN, bT, bF, eN]
  (repeat' first | refine gq1 ?_ | with_reducible first | exact ⟨⟩ | refine zA ?_ | fail)
  refine c_raMay ?_
  cases hm : zjW a b c d
  · simp only [votS, votE, votL, votG, hm, Bool.false_eq_true, if_false, zlo] at hK
    rw [zbF hT, zbF hG] at hK
    (repeat' first | refine gq1 ?_ | with_reducible first | exact ⟨⟩ | refine zA ?_ | fail)
    (first | refine zar hl ?_ | refine zaq hl ?_)
    exact hK
  · simp only [votS, votE, votL, votG, hm, if_true] at hK
    have hbl := voteB_len hm
    (repeat' first | refine gq1 ?_ | with_reducible first | exact ⟨⟩ | refine zA ?_ | fail)
    refine zow hm ?_
    (repeat' first | refine gq1 ?_ | with_reducible first | exact ⟨⟩ | refine zA ?_ | fail)
    refine c_raSign (zaa hT) (zaa hG) h1 (by omega) hl0 hg ?_
    rw [zbR hT, zbR (by rw [List.getElem?_set_ne h1]; exact hG)]
    have hl2 : zfy σ.length ((σ.set id (rtO (zhQ L (zeT a b c d)))).set id2 (rlO (sgnG L G key (zeT a b c d)))) := (hl.setO (zlp _ _)).setO (zog _ _)
    have hs2 : ((σ.set id (rtO (zhQ L (zeT a b c d)))).set id2 (rlO (sgnG L G key (zeT a b c d)))).length = σ.length := by simp
    obtain ⟨S2, hS2⟩ : ∃ S2, (σ.set id (rtO (zhQ L (zeT a b c d)))).set id2 (rlO (sgnG L G key (zeT a b c d))) = S2 := ⟨_, rfl⟩
    rw [hS2] at hK hs2 hl2 ⊢
    have r3 : σ.length = S2.length := hs2.symm
    rw [r3] at hl2
    simp only [zlo] at hK ⊢
    (repeat' first | refine gq2 r3 ?_ | with_reducible first | exact ⟨⟩ | refine zA ?_ | fail)
    refine zfm rfl ?_ hl2 ?_
    · simp [zhi, dmT, dm, dm1, zcW, zec, zgB]
    · exact hK
end Go.Proofs.YtcappjcojggehaaGreat
