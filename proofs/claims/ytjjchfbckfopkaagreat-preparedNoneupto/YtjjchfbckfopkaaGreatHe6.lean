/- Contracts: the document's lists that are kept as they are; puts; gets; slides. -/
import Derived.Test.YtjjchfbckfopkaaGreatCk1
import Derived.Test.YtjjchfbckfopkaaGreatRq5
import Derived.Test.YtjjchfbckfopkaaGreatId5
set_option linter.all false
set_option maxRecDepth 100000
set_option linter.unusedSimpArgs false
set_option linter.unusedVariables false
namespace Go.Proofs.YtjjchfbckfopkaaGreat
open Go.AW

section

variable {σ : List zb} {K : AV → List zb → Prop}

end


theorem zoH {σ : List zb} {x : Int} {K : AV → List zb → Prop} (hK : K (.d (.bool (zfh x))) σ) : zn Tryz.prog zfI [.d (.int .i64 x)] σ K := by
  refine zfz e_r11_num fun hl => ?_
  have fin : ∀ z, zfh x = z → K (.d (.bool z)) σ := fun z h => h ▸ hK
  clear hK
  simp only [S_r11_num, iN, bT, bF, eN]
  cases h1 : decide (x ≥ 0)
  · refine gq2 h1 ?_
    refine zam hl ?_
    exact fin _ (by simp at h1; simp [zfh]; omega)
  · refine gq2 h1 ?_
    refine zam hl ?_
    exact fin _ (by simp at h1; simp [zfh]; omega)
theorem c_raMay {σ : List zb} {a b c d : Int} {K : AV → List zb → Prop} (hK : K (.d (.bool (zmH a b c d))) σ) :
    zn Tryz.prog zlL [.d (.int .i64 a), .d (.int .i64 b), .d (.int .i64 c), .d (.int .i64 d)] σ K := by
  refine acE4 e_r11_may fun hl => ?_
  have fin : ∀ z, zmH a b c d = z → K (.d (.bool z)) σ := fun z h => h ▸ hK
  clear hK
  simp only [S_r11_may, iN, bT, bF, eN]
  refine gq1 ?_
  refine zoH ?_
  cases h1 : zfh a
  · refine gq1 ?_
    refine zam hl ?_
    exact fin _ (by simp [zmH, h1])
  refine gq1 ?_
  refine zoH ?_
  cases h2 : zfh b
  · refine gq1 ?_
    refine zam hl ?_
    exact fin _ (by simp [zmH, h1, h2])
  refine gq1 ?_
  refine zoH ?_
  cases h3 : zfh c
  · refine gq1 ?_
    refine zam hl ?_
    exact fin _ (by simp [zmH, h1, h2, h3])
  refine gq1 ?_
  refine zoH ?_
  refine gq1 ?_
  refine zam hl ?_
  exact fin _ (by simp [zmH, h1, h2, h3])
theorem zoG {σ : List zb} {b : List UInt8} {x : Int} (hb : b.length ≤ 1000000) (h0 : 0 ≤ x) (h1 : x ≤ 9007199254740992) {K : AV → List zb → Prop} (hK : K (.d (.slice (bcs (b ++ zcr x.toNat)))) σ) :
    zn Tryz.prog zfH [.d (.slice (bcs b)), .d (.int .i64 x)] σ K := by
  refine zia e_r11_put fun hl => ?_
  have hm1 : (if 0 > x then 0 else x) = x := by split <;> omega
  have hm2 : (if x < 0 then 0 else x) = x := by split <;> omega
  have hw : IntKind.u64.wrap x = ((x.toNat : Nat) : Int) := by
    rw [show x = ((x.toNat : Nat) : Int) by omega, zbU (by omega)]; rfl
  simp only [S_r11_put, iN, bT, bF, eN]
  refine gq2 (zo hm1 (zo hm2 hw)) ?_
  refine zdy (by omega) (by omega) ?_
  refine gq1 ?_
  refine zam hl ?_
  exact hK
theorem zoF {σ : List zb} {a b c d : Int} (h : zmH a b c d = true) {K : AV → List zb → Prop} (hK : K (.d (.slice (bcs (zgQ a b c d)))) σ) :
    zn Tryz.prog zeR [.d (.int .i64 a), .d (.int .i64 b), .d (.int .i64 c), .d (.int .i64 d)] σ K := by
  refine acE4 zmj fun hl => ?_
  simp only [zmH, Bool.and_eq_true, zlJ] at h
  obtain ⟨⟨a0, a1⟩, ⟨b0, b1⟩, ⟨c0, c1⟩, ⟨d0, d1⟩⟩ := h
  have l1 := zL (n := a.toNat) (by omega)
  have l2 := zL (n := b.toNat) (by omega)
  have l3 := zL (n := c.toNat) (by omega)
  simp only [zhq, iN, bT, bF, eN]
  refine gq1 ?_
  refine zoG (b := [4]) (by simp) a0 a1 ?_
  obtain ⟨B1, hB1⟩ : ∃ B, [4] ++ zcr a.toNat = B := ⟨_, rfl⟩
  have n1 : B1.length ≤ 11 := by rw [← hB1]; simp; omega
  rw [hB1]
  refine gq1 ?_
  refine zoG (by omega) b0 b1 ?_
  obtain ⟨B2, hB2⟩ : ∃ B, B1 ++ zcr b.toNat = B := ⟨_, rfl⟩
  have n2 : B2.length ≤ 21 := by rw [← hB2]; simp; omega
  rw [hB2]
  refine gq1 ?_
  refine zoG (by omega) c0 c1 ?_
  obtain ⟨B3, hB3⟩ : ∃ B, B2 ++ zcr c.toNat = B := ⟨_, rfl⟩
  have n3 : B3.length ≤ 31 := by rw [← hB3]; simp; omega
  rw [hB3]
  refine gq1 ?_
  refine zoG (by omega) d0 d1 ?_
  refine gq1 ?_
  refine zam hl ?_
  rw [show B3 ++ zcr d.toNat = zgQ a b c d by rw [← hB3, ← hB2, ← hB1]; simp [zgQ, ziL]]
  exact hK
def sgnE (L : List (List UInt8)) (key : Int) (b : List UInt8) : Int := if zgO L b = 0 then 6 else zdm key (zgO L b)
def sgnS (L : List (List UInt8)) (key : Int) (b : List UInt8) : zO := if zgO L b = 0 then ⟨0, 0⟩ else signR key (zgO L b)
def sgnG (L : List (List UInt8)) (G : List zO) (key : Int) (b : List UInt8) : List zO := if zgO L b = 0 then G else zeP G key (zgO L b)
theorem c_raSign {σ : List zb} {id id2 : Nat} {L : List (List UInt8)} {G : List zO} {key : Int} {b : List UInt8} (hT : σ[id]? = some (rtO L)) (hG : σ[id2]? = some (rlO G)) (h1 : id ≠ id2) (hbl : b.length ≤ 1073741824) (hl0 : L.length ≤ 1048576) (hg : G.length ≤ 1073741824)
    {K : AV → List zb → Prop}
    (hK : K (.tup [zly (sgnS L key b), .d (.int .i64 (sgnE L key b))]) ((σ.set id (rtO (ziG L b))).set id2 (rlO (sgnG L G key b)))) :
    zn Tryz.prog zjx [.box id 0, .box id2 0, .d (.int .i64 key), .d (.slice (bcs b))] σ K := by
  refine acE4 e_r11_sign fun hl => ?_
  simp only [znF, iN, bT, bF, eN]
  refine gq1 ?_
  refine c_rtSum (zk hT) hbl hl0 ?_
  rw [zbR hT]
  have hl1 : zdW σ.length (σ.set id (rtO (ziG L b))) := hl.setO (zlz _ _)
  have hs1 : (σ.set id (rtO (ziG L b))).length = σ.length := by simp
  have hG1 : (σ.set id (rtO (ziG L b)))[id2]? = some (rlO G) := by rw [List.getElem?_set_ne h1]; exact hG
  obtain ⟨S1, hS1⟩ : ∃ S1, σ.set id (rtO (ziG L b)) = S1 := ⟨_, rfl⟩
  rw [hS1] at hK hG1 hs1 hl1 ⊢
  have r1 : σ.length = S1.length := hs1.symm
  rw [r1] at hl1
  by_cases hz : zgO L b = 0
  · have hq : (zgO L b == 0) = true := by simpa using hz
    simp only [sgnE, sgnS, sgnG, if_pos hz, zly] at hK
    rw [zbH hG1] at hK
    refine gq2 (zo hq r1) ?_
    refine zfp rfl ?_ hl1 ?_
    · simp [zfj, dmT, dm, dm1, zcm, zdS, zfA]
    · exact hK
  · have hq : (zgO L b == 0) = false := by simpa using hz
    simp only [sgnE, sgnS, sgnG, if_neg hz] at hK
    refine gq2 (zo hq r1) ?_
    refine c_rgSign (zk hG1) hg ?_
    rw [zbR hG1]
    have hl2 : zdW S1.length (S1.set id2 (rlO (zeP G key (zgO L b)))) := hl1.setO (zoa _ _)
    have hs2 : (S1.set id2 (rlO (zeP G key (zgO L b)))).length = S1.length := by simp
    obtain ⟨S2, hS2⟩ : ∃ S2, S1.set id2 (rlO (zeP G key (zgO L b))) = S2 := ⟨_, rfl⟩
    rw [hS2] at hK hs2 hl2 ⊢
    have r3 : S1.length = S2.length := hs2.symm
    have r2 : σ.length = S2.length := r1.trans r3
    rw [r3] at hl2
    simp only [zly] at hK ⊢
    refine gq2 (zo r2 r3) ?_
    refine zfp rfl ?_ hl2 ?_
    · simp [zfj, dmT, dm, dm1, zcm, zdS, zfA]
    · exact hK
def votE (L : List (List UInt8)) (key a b c d : Int) : Int := if zmH a b c d = true then sgnE L key (zgQ a b c d) else 1
def votS (L : List (List UInt8)) (key a b c d : Int) : zO := if zmH a b c d = true then sgnS L key (zgQ a b c d) else ⟨0, 0⟩
def votL (L : List (List UInt8)) (a b c d : Int) : List (List UInt8) := if zmH a b c d = true then ziG L (zgQ a b c d) else L
def votG (L : List (List UInt8)) (G : List zO) (key a b c d : Int) : List zO := if zmH a b c d = true then sgnG L G key (zgQ a b c d) else G
theorem c_raVote {σ : List zb} {id id2 : Nat} {L : List (List UInt8)} {G : List zO} {key a b c d : Int} (hT : σ[id]? = some (rtO L)) (hG : σ[id2]? = some (rlO G)) (h1 : id ≠ id2) (hl0 : L.length ≤ 1048576) (hg : G.length ≤ 1073741824)
    {K : AV → List zb → Prop}
    (hK : K (.tup [zly (votS L key a b c d), .d (.int .i64 (votE L key a b c d))]) ((σ.set id (rtO (votL L a b c d))).set id2 (rlO (votG L G key a b c d)))) :
    zn Tryz.prog zhA [.box id 0, .box id2 0, .d (.int .i64 key), .d (.int .i64 a), .d (.int .i64 b), .d (.int .i64 c), .d (.int .i64 d)] σ K := by
  refine acE7 e_r11_Vote fun hl => ?_
  simp only [znG, iN, bT, bF, eN]
  refine gq1 ?_
  refine c_raMay ?_
  cases hm : zmH a b c d
  · simp only [votS, votE, votL, votG, hm, Bool.false_eq_true, if_false, zly] at hK
    rw [zbH hT, zbH hG] at hK
    refine gq1 ?_
    refine zam hl ?_
    exact hK
  · simp only [votS, votE, votL, votG, hm, if_true] at hK
    have hbl := voteB_len hm
    refine gq1 ?_
    refine zoF hm ?_
    refine gq1 ?_
    refine c_raSign (zk hT) (zk hG) h1 (by omega) hl0 hg ?_
    rw [zbR hT, zbR (by rw [List.getElem?_set_ne h1]; exact hG)]
    have hl2 : zdW σ.length ((σ.set id (rtO (ziG L (zgQ a b c d)))).set id2 (rlO (sgnG L G key (zgQ a b c d)))) := (hl.setO (zlz _ _)).setO (zoa _ _)
    have hs2 : ((σ.set id (rtO (ziG L (zgQ a b c d)))).set id2 (rlO (sgnG L G key (zgQ a b c d)))).length = σ.length := by simp
    obtain ⟨S2, hS2⟩ : ∃ S2, (σ.set id (rtO (ziG L (zgQ a b c d)))).set id2 (rlO (sgnG L G key (zgQ a b c d))) = S2 := ⟨_, rfl⟩
    rw [hS2] at hK hs2 hl2 ⊢
    have r3 : σ.length = S2.length := hs2.symm
    rw [r3] at hl2
    simp only [zly] at hK ⊢
    refine gq2 r3 ?_
    refine zfp rfl ?_ hl2 ?_
    · simp [zfj, dmT, dm, dm1, zcm, zdS, zfA]
    · exact hK
end Go.Proofs.YtjjchfbckfopkaaGreat
