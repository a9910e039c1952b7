/- Contracts: votes, the document's. -/
import Derived.Test.YtcappjcojggehaaGreatRq5
import Derived.Test.YtcappjcojggehaaGreatSpVote
set_option linter.all false
set_option maxRecDepth 100000
set_option linter.unusedSimpArgs false
set_option linter.unusedVariables false
namespace Go.Proofs.YtcappjcojggehaaGreat
open Go.AW

theorem zoq {σ : List AObj} {x : Int} {K : AV → List AObj → Prop} (hK : K (.d (.bool (numOk x))) σ) : ACall Tryz.prog zeI [.d (.int .i64 x)] σ K := by
  refine zo isA_r11_num rfl fun hl _ => s_r11_num ?_
  have fin : ∀ z, numOk x = z → K (.d (.bool z)) σ := fun z h => h ▸ hK
  clear hK
  simp only [S_r11_num]
  cases h1 : decide (x ≥ 0)
  · (repeat' (first | (refine gq2 h1 ?_; try with_reducible exact True.intro) | ((with_reducible refine And.intro ?_ ?_); focus (first | omega | rfl | decide | (simp; done)))))
    (first | refine zg (by simp [Low_d, dmT, dm, dm1, pack, zd, ze, zb]) hl ?_ | refine zf (by simp [Low_d, dmT, dm, dm1, pack, zd, ze, zb]) hl ?_)
    exact fin _ (by simp at h1; simp [numOk]; omega)
  · (repeat' (first | (refine gq2 h1 ?_; try with_reducible exact True.intro) | ((with_reducible refine And.intro ?_ ?_); focus (first | omega | rfl | decide | (simp; done)))))
    (first | refine zg (by simp [Low_d, dmT, dm, dm1, pack, zd, ze, zb]) hl ?_ | refine zf (by simp [Low_d, dmT, dm, dm1, pack, zd, ze, zb]) hl ?_)
    exact fin _ (by simp at h1; simp [numOk]; omega)
theorem c_raMay {σ : List AObj} {a b c d : Int} {K : AV → List AObj → Prop} (hK : K (.d (.bool (mayV a b c d))) σ) :
    ACall Tryz.prog ziq [.d (.int .i64 a), .d (.int .i64 b), .d (.int .i64 c), .d (.int .i64 d)] σ K := by
  refine zo isA_r11_may rfl fun hl _ => s_r11_may ?_
  have fin : ∀ z, mayV a b c d = z → K (.d (.bool z)) σ := fun z h => h ▸ hK
  clear hK
  simp only [S_r11_may]
  (repeat' (first | (refine gq1 ?_; try with_reducible exact True.intro) | ((with_reducible refine And.intro ?_ ?_); focus (first | omega | rfl | decide | (simp; done)))))
  refine zoq ?_
  cases h1 : numOk a
  · (repeat' (first | (refine gq1 ?_; try with_reducible exact True.intro) | ((with_reducible refine And.intro ?_ ?_); focus (first | omega | rfl | decide | (simp; done)))))
    (first | refine zg (by simp [Low_d, dmT, dm, dm1, pack, zd, ze, zb]) hl ?_ | refine zf (by simp [Low_d, dmT, dm, dm1, pack, zd, ze, zb]) hl ?_)
    exact fin _ (by simp [mayV, h1])
  (repeat' (first | (refine gq1 ?_; try with_reducible exact True.intro) | ((with_reducible refine And.intro ?_ ?_); focus (first | omega | rfl | decide | (simp; done)))))
  refine zoq ?_
  cases h2 : numOk b
  · (repeat' (first | (refine gq1 ?_; try with_reducible exact True.intro) | ((with_reducible refine And.intro ?_ ?_); focus (first | omega | rfl | decide | (simp; done)))))
    (first | refine zg (by simp [Low_d, dmT, dm, dm1, pack, zd, ze, zb]) hl ?_ | refine zf (by simp [Low_d, dmT, dm, dm1, pack, zd, ze, zb]) hl ?_)
    exact fin _ (by simp [mayV, h1, h2])
  (repeat' (first | (refine gq1 ?_; try with_reducible exact True.intro) | ((with_reducible refine And.intro ?_ ?_); focus (first | omega | rfl | decide | (simp; done)))))
  refine zoq ?_
  cases h3 : numOk c
  · (repeat' (first | (refine gq1 ?_; try with_reducible exact True.intro) | ((with_reducible refine And.intro ?_ ?_); focus (first | omega | rfl | decide | (simp; done)))))
    (first | refine zg (by simp [Low_d, dmT, dm, dm1, pack, zd, ze, zb]) hl ?_ | refine zf (by simp [Low_d, dmT, dm, dm1, pack, zd, ze, zb]) hl ?_)
    exact fin _ (by simp [mayV, h1, h2, h3])
  (repeat' (first | (refine gq1 ?_; try with_reducible exact True.intro) | ((with_reducible refine And.intro ?_ ?_); focus (first | omega | rfl | decide | (simp; done)))))
  refine zoq ?_
  (repeat' (first | (refine gq1 ?_; try with_reducible exact True.intro) | ((with_reducible refine And.intro ?_ ?_); focus (first | omega | rfl | decide | (simp; done)))))
  (first | refine zg (by simp [Low_d, dmT, dm, dm1, pack, zd, ze, zb]) hl ?_ | refine zf (by simp [Low_d, dmT, dm, dm1, pack, zd, ze, zb]) hl ?_)
  exact fin _ (by simp [mayV, h1, h2, h3])
theorem zop {σ : List AObj} {b : List UInt8} {x : Int} (hb : b.length ≤ 1000000) (h0 : 0 ≤ x) (h1 : x ≤ 9007199254740992) {K : AV → List AObj → Prop} (hK : K (.d (.slice (bcs (b ++ numB x.toNat)))) σ) :
    ACall Tryz.prog zeH [.d (.slice (bcs b)), .d (.int .i64 x)] σ K := by
  refine zo isA_r11_put rfl fun hl _ => s_r11_put ?_
  have hm1 : (if 0 > x then 0 else x) = x := by split <;> omega
  have hm2 : (if x < 0 then 0 else x) = x := by split <;> omega
  have hw : IntKind.u64.wrap x = ((x.toNat : Nat) : Int) := by
    rw [show x = ((x.toNat : Nat) : Int) by omega, zbf (by omega)]; rfl
  simp only [S_r11_put]
  (repeat' (first | (refine gq2 (gqc0 hm1 (gqc0 hm2 hw)) ?_; try with_reducible exact True.intro) | ((with_reducible refine And.intro ?_ ?_); focus (first | omega | rfl | decide | (simp; done)))))
  refine zcz (by omega) (by omega) ?_
  (repeat' (first | (refine gq1 ?_; try with_reducible exact True.intro) | ((with_reducible refine And.intro ?_ ?_); focus (first | omega | rfl | decide | (simp; done)))))
  (first | refine zg (by simp [Low_d, dmT, dm, dm1, pack, zd, ze, zb]) hl ?_ | refine zf (by simp [Low_d, dmT, dm, dm1, pack, zd, ze, zb]) hl ?_)
  exact hK
theorem ziL {σ : List AObj} {a b c d : Int} (h : mayV a b c d = true) {K : AV → List AObj → Prop} (hK : K (.d (.slice (bcs (voteB a b c d)))) σ) :
    ACall Tryz.prog zct [.d (.int .i64 a), .d (.int .i64 b), .d (.int .i64 c), .d (.int .i64 d)] σ K := by
  refine zo zjF rfl fun hl _ => zlo ?_
  simp only [mayV, Bool.and_eq_true, zlv] at h
  obtain ⟨⟨a0, a1⟩, ⟨b0, b1⟩, ⟨c0, c1⟩, ⟨d0, d1⟩⟩ := h
  have l1 := zS (n := a.toNat) (by omega)
  have l2 := zS (n := b.toNat) (by omega)
  have l3 := zS (n := c.toNat) (by omega)
  simp only [zgz]
  (repeat' (first | (refine gq1 ?_; try with_reducible exact True.intro) | ((with_reducible refine And.intro ?_ ?_); focus (first | omega | rfl | decide | (simp; done)))))
  refine zop (b := [4]) (by simp) a0 a1 ?_
  obtain ⟨B1, hB1⟩ : ∃ B, [4] ++ numB a.toNat = B := ⟨_, rfl⟩
  have n1 : B1.length ≤ 11 := by rw [← hB1]; simp; omega
  rw [hB1]
  (repeat' (first | (refine gq1 ?_; try with_reducible exact True.intro) | ((with_reducible refine And.intro ?_ ?_); focus (first | omega | rfl | decide | (simp; done)))))
  refine zop (by omega) b0 b1 ?_
  obtain ⟨B2, hB2⟩ : ∃ B, B1 ++ numB b.toNat = B := ⟨_, rfl⟩
  have n2 : B2.length ≤ 21 := by rw [← hB2]; simp; omega
  rw [hB2]
  (repeat' (first | (refine gq1 ?_; try with_reducible exact True.intro) | ((with_reducible refine And.intro ?_ ?_); focus (first | omega | rfl | decide | (simp; done)))))
  refine zop (by omega) c0 c1 ?_
  obtain ⟨B3, hB3⟩ : ∃ B, B2 ++ numB c.toNat = B := ⟨_, rfl⟩
  have n3 : B3.length ≤ 31 := by rw [← hB3]; simp; omega
  rw [hB3]
  (repeat' (first | (refine gq1 ?_; try with_reducible exact True.intro) | ((with_reducible refine And.intro ?_ ?_); focus (first | omega | rfl | decide | (simp; done)))))
  refine zop (by omega) d0 d1 ?_
  (repeat' (first | (refine gq1 ?_; try with_reducible exact True.intro) | ((with_reducible refine And.intro ?_ ?_); focus (first | omega | rfl | decide | (simp; done)))))
  (first | refine zg (by simp [Low_d, dmT, dm, dm1, pack, zd, ze, zb]) hl ?_ | refine zf (by simp [Low_d, dmT, dm, dm1, pack, zd, ze, zb]) hl ?_)
  rw [show B3 ++ numB d.toNat = voteB a b c d by rw [← hB3, ← hB2, ← hB1]; simp [voteB, numsB]]
  exact hK
def sgnE (L : List (List UInt8)) (key : Int) (b : List UInt8) : Int := if sumN L b = 0 then 6 else signF key (sumN L b)
def sgnS (L : List (List UInt8)) (key : Int) (b : List UInt8) : TSign := if sumN L b = 0 then ⟨0, 0⟩ else signR key (sumN L b)
def sgnG (L : List (List UInt8)) (G : List TSign) (key : Int) (b : List UInt8) : List TSign := if sumN L b = 0 then G else signG G key (sumN L b)
theorem c_raSign {σ : List AObj} {id id2 : Nat} {L : List (List UInt8)} {G : List TSign} {key : Int} {b : List UInt8} (hT : σ[id]? = some (rtO L)) (hG : σ[id2]? = some (rlO G)) (h1 : id ≠ id2) (hbl : b.length ≤ 1073741824) (hl0 : L.length ≤ 1048576) (hg : G.length ≤ 1073741824)
    {K : AV → List AObj → Prop}
    (hK : K (.tup [signA (sgnS L key b), .d (.int .i64 (sgnE L key b))]) ((σ.set id (rtO (sumL L b))).set id2 (rlO (sgnG L G key b)))) :
    ACall Tryz.prog zjk [.box id 0, .box id2 0, .d (.int .i64 key), .d (.slice (bcs b))] σ K := by
  refine zo isA_r11_sign rfl fun hl _ => s_r11_sign ?_
  simp only [znp]
  (repeat' (first | (refine gq1 ?_; try with_reducible exact True.intro) | ((with_reducible refine And.intro ?_ ?_); focus (first | omega | rfl | decide | (simp; done)))))
  refine c_rtSum (zI hT) hbl hl0 ?_
  rw [zbb hT]
  have hl1 : Lows σ.length (σ.set id (rtO (sumL L b))) := hl.setO (zls _ _)
  have hs1 : (σ.set id (rtO (sumL L b))).length = σ.length := by simp
  have hG1 : (σ.set id (rtO (sumL L b)))[id2]? = some (rlO G) := by rw [List.getElem?_set_ne h1]; exact hG
  obtain ⟨S1, hS1⟩ : ∃ S1, σ.set id (rtO (sumL L b)) = S1 := ⟨_, rfl⟩
  rw [hS1] at hK hG1 hs1 hl1 ⊢
  have r1 : σ.length = S1.length := hs1.symm
  rw [r1] at hl1
  by_cases hz : sumN L b = 0
  · have hq : (sumN L b == 0) = true := by simpa using hz
    simp only [sgnE, sgnS, sgnG, if_pos hz, signA] at hK
    rw [zaX hG1] at hK
    (repeat' (first | (refine gq2 (gqc0 hq r1) ?_; try with_reducible exact True.intro) | ((with_reducible refine And.intro ?_ ?_); focus (first | omega | rfl | decide | (simp; done)))))
    refine zeo rfl ?_ hl1 ?_
    · simp [Low_d, dmT, dm, dm1, pack, zd, ze]
    · exact hK
  · have hq : (sumN L b == 0) = false := by simpa using hz
    simp only [sgnE, sgnS, sgnG, if_neg hz] at hK
    (repeat' (first | (refine gq2 (gqc0 hq r1) ?_; try with_reducible exact True.intro) | ((with_reducible refine And.intro ?_ ?_); focus (first | omega | rfl | decide | (simp; done)))))
    refine c_rgSign (zI hG1) hg ?_
    rw [zbb hG1]
    have hl2 : Lows S1.length (S1.set id2 (rlO (signG G key (sumN L b)))) := hl1.setO (znP _ _)
    have hs2 : (S1.set id2 (rlO (signG G key (sumN L b)))).length = S1.length := by simp
    obtain ⟨S2, hS2⟩ : ∃ S2, S1.set id2 (rlO (signG G key (sumN L b))) = S2 := ⟨_, rfl⟩
    rw [hS2] at hK hs2 hl2 ⊢
    have r3 : S1.length = S2.length := hs2.symm
    have r2 : σ.length = S2.length := r1.trans r3
    rw [r3] at hl2
    simp only [signA] at hK ⊢
    (repeat' (first | (refine gq2 (gqc0 r2 r3) ?_; try with_reducible exact True.intro) | ((with_reducible refine And.intro ?_ ?_); focus (first | omega | rfl | decide | (simp; done)))))
    refine zeo rfl ?_ hl2 ?_
    · simp [Low_d, dmT, dm, dm1, pack, zd, ze]
    · exact hK
/-- what comes of a vote -/
def votE (L : List (List UInt8)) (key a b c d : Int) : Int := if mayV a b c d = true then sgnE L key (voteB a b c d) else 1
def votS (L : List (List UInt8)) (key a b c d : Int) : TSign := if mayV a b c d = true then sgnS L key (voteB a b c d) else ⟨0, 0⟩
def votL (L : List (List UInt8)) (a b c d : Int) : List (List UInt8) := if mayV a b c d = true then sumL L (voteB a b c d) else L
def votG (L : List (List UInt8)) (G : List TSign) (key a b c d : Int) : List TSign := if mayV a b c d = true then sgnG L G key (voteB a b c d) else G
theorem c_raVote {σ : List AObj} {id id2 : Nat} {L : List (List UInt8)} {G : List TSign} {key a b c d : Int} (hT : σ[id]? = some (rtO L)) (hG : σ[id2]? = some (rlO G)) (h1 : id ≠ id2) (hl0 : L.length ≤ 1048576) (hg : G.length ≤ 1073741824)
    {K : AV → List AObj → Prop}
    (hK : K (.tup [signA (votS L key a b c d), .d (.int .i64 (votE L key a b c d))]) ((σ.set id (rtO (votL L a b c d))).set id2 (rlO (votG L G key a b c d)))) :
    ACall Tryz.prog zgQ [.box id 0, .box id2 0, .d (.int .i64 key), .d (.int .i64 a), .d (.int .i64 b), .d (.int .i64 c), .d (.int .i64 d)] σ K := by
  refine zo isA_r11_Vote rfl fun hl _ => s_r11_Vote ?_
  simp only [znq]
  (repeat' (first | (refine gq1 ?_; try with_reducible exact True.intro) | ((with_reducible refine And.intro ?_ ?_); focus (first | omega | rfl | decide | (simp; done)))))
  refine c_raMay ?_
  cases hm : mayV a b c d
  · simp only [votS, votE, votL, votG, hm, Bool.false_eq_true, if_false, signA] at hK
    rw [zaX hT, zaX hG] at hK
    (repeat' (first | (refine gq1 ?_; try with_reducible exact True.intro) | ((with_reducible refine And.intro ?_ ?_); focus (first | omega | rfl | decide | (simp; done)))))
    (first | refine zg (by simp [Low_d, dmT, dm, dm1, pack, zd, ze, zb]) hl ?_ | refine zf (by simp [Low_d, dmT, dm, dm1, pack, zd, ze, zb]) hl ?_)
    exact hK
  · simp only [votS, votE, votL, votG, hm, if_true] at hK
    have hbl := voteB_len hm
    (repeat' (first | (refine gq1 ?_; try with_reducible exact True.intro) | ((with_reducible refine And.intro ?_ ?_); focus (first | omega | rfl | decide | (simp; done)))))
    refine ziL hm ?_
    (repeat' (first | (refine gq1 ?_; try with_reducible exact True.intro) | ((with_reducible refine And.intro ?_ ?_); focus (first | omega | rfl | decide | (simp; done)))))
    refine c_raSign (zI hT) (zI hG) h1 (by omega) hl0 hg ?_
    rw [zbb hT, zbb (by rw [List.getElem?_set_ne h1]; exact hG)]
    have hl2 : Lows σ.length ((σ.set id (rtO (sumL L (voteB a b c d)))).set id2 (rlO (sgnG L G key (voteB a b c d)))) := (hl.setO (zls _ _)).setO (znP _ _)
    have hs2 : ((σ.set id (rtO (sumL L (voteB a b c d)))).set id2 (rlO (sgnG L G key (voteB a b c d)))).length = σ.length := by simp
    obtain ⟨S2, hS2⟩ : ∃ S2, (σ.set id (rtO (sumL L (voteB a b c d)))).set id2 (rlO (sgnG L G key (voteB a b c d))) = S2 := ⟨_, rfl⟩
    rw [hS2] at hK hs2 hl2 ⊢
    have r3 : σ.length = S2.length := hs2.symm
    rw [r3] at hl2
    simp only [signA] at hK ⊢
    (repeat' (first | (refine gq2 r3 ?_; try with_reducible exact True.intro) | ((with_reducible refine And.intro ?_ ?_); focus (first | omega | rfl | decide | (simp; done)))))
    refine zeo rfl ?_ hl2 ?_
    · simp [Low_d, dmT, dm, dm1, pack, zd, ze]
    · exact hK
end Go.Proofs.YtcappjcojggehaaGreat
