/- Contracts: votes, the document's. -/
import Derived.Test.YtjjchfbckfopkaaGreatRq4
import Derived.Test.YtjjchfbckfopkaaGreatId5
set_option linter.all false
set_option maxRecDepth 100000
set_option linter.unusedSimpArgs false
set_option linter.unusedVariables false
namespace Go.Proofs.YtjjchfbckfopkaaGreat
open Go.AW

theorem zqb {σ : List zb} {x : Int} {K : AV → List zb → Prop} (hK : K (.d (.bool (zfM x))) σ) : zt Tryz.prog zgq [.d (.int .i64 x)] σ K := by
  refine ziC e_r11_num fun hl => ?_
  have fin : ∀ z, zfM x = z → K (.d (.bool z)) σ := fun z h => h ▸ hK
  clear hK
  simp only [S_r11_num, iN, bT, bF, eN]
  cases h1 : decide (x ≥ 0)
  · refine gq2 h1 ?_
    refine zam hl ?_
    exact fin _ (by simp at h1; simp [zfM]; omega)
  · refine gq2 h1 ?_
    refine zam hl ?_
    exact fin _ (by simp at h1; simp [zfM]; omega)
theorem c_raMay {σ : List zb} {a b c d : Int} {K : AV → List zb → Prop} (hK : K (.d (.bool (znU a b c d))) σ) :
    zt Tryz.prog zmU [.d (.int .i64 a), .d (.int .i64 b), .d (.int .i64 c), .d (.int .i64 d)] σ K := by
  refine acE4 e_r11_may fun hl => ?_
  have fin : ∀ z, znU a b c d = z → K (.d (.bool z)) σ := fun z h => h ▸ hK
  clear hK
  simp only [S_r11_may, iN, bT, bF, eN]
  refine gq1 ?_
  refine zqb ?_
  cases h1 : zfM a
  · refine gq1 ?_
    refine zam hl ?_
    exact fin _ (by simp [znU, h1])
  refine gq1 ?_
  refine zqb ?_
  cases h2 : zfM b
  · refine gq1 ?_
    refine zam hl ?_
    exact fin _ (by simp [znU, h1, h2])
  refine gq1 ?_
  refine zqb ?_
  cases h3 : zfM c
  · refine gq1 ?_
    refine zam hl ?_
    exact fin _ (by simp [znU, h1, h2, h3])
  refine gq1 ?_
  refine zqb ?_
  refine gq1 ?_
  refine zam hl ?_
  exact fin _ (by simp [znU, h1, h2, h3])
theorem zqa {σ : List zb} {b : List UInt8} {x : Int} (hb : b.length ≤ 1000000) (h0 : 0 ≤ x) (h1 : x ≤ 9007199254740992) {K : AV → List zb → Prop} (hK : K (.d (.slice (bcs (b ++ zcG x.toNat)))) σ) :
    zt Tryz.prog zgp [.d (.slice (bcs b)), .d (.int .i64 x)] σ K := by
  refine zhh e_r11_put fun hl => ?_
  have hm1 : (if 0 > x then 0 else x) = x := by split <;> omega
  have hm2 : (if x < 0 then 0 else x) = x := by split <;> omega
  have hw : IntKind.u64.wrap x = ((x.toNat : Nat) : Int) := by
    rw [show x = ((x.toNat : Nat) : Int) by omega, zca (by omega)]; rfl
  simp only [S_r11_put, iN, bT, bF, eN]
  refine gq2 (zj hm1 (zj hm2 hw)) ?_
  refine zdP (by omega) (by omega) ?_
  refine gq1 ?_
  refine zam hl ?_
  exact hK
theorem zpZ {σ : List zb} {a b c d : Int} (h : znU a b c d = true) {K : AV → List zb → Prop} (hK : K (.d (.slice (bcs (zhB a b c d)))) σ) :
    zt Tryz.prog zfr [.d (.int .i64 a), .d (.int .i64 b), .d (.int .i64 c), .d (.int .i64 d)] σ K := by
  refine acE4 znw fun hl => ?_
  simp only [znU, Bool.and_eq_true, zmT] at h
  obtain ⟨⟨a0, a1⟩, ⟨b0, b1⟩, ⟨c0, c1⟩, ⟨d0, d1⟩⟩ := h
  have l1 := zO (n := a.toNat) (by omega)
  have l2 := zO (n := b.toNat) (by omega)
  have l3 := zO (n := c.toNat) (by omega)
  simp only [zid, iN, bT, bF, eN]
  refine gq1 ?_
  refine zqa (b := [4]) (by simp) a0 a1 ?_
  obtain ⟨B1, hB1⟩ : ∃ B, [4] ++ zcG a.toNat = B := ⟨_, rfl⟩
  have n1 : B1.length ≤ 11 := by rw [← hB1]; simp; omega
  rw [hB1]
  refine gq1 ?_
  refine zqa (by omega) b0 b1 ?_
  obtain ⟨B2, hB2⟩ : ∃ B, B1 ++ zcG b.toNat = B := ⟨_, rfl⟩
  have n2 : B2.length ≤ 21 := by rw [← hB2]; simp; omega
  rw [hB2]
  refine gq1 ?_
  refine zqa (by omega) c0 c1 ?_
  obtain ⟨B3, hB3⟩ : ∃ B, B2 ++ zcG c.toNat = B := ⟨_, rfl⟩
  have n3 : B3.length ≤ 31 := by rw [← hB3]; simp; omega
  rw [hB3]
  refine gq1 ?_
  refine zqa (by omega) d0 d1 ?_
  refine gq1 ?_
  refine zam hl ?_
  rw [show B3 ++ zcG d.toNat = zhB a b c d by rw [← hB3, ← hB2, ← hB1]; simp [zhB, zjO]]
  exact hK
def sgnE (L : List (List UInt8)) (key : Int) (b : List UInt8) : Int := if zhz L b = 0 then 6 else zdC key (zhz L b)
def sgnS (L : List (List UInt8)) (key : Int) (b : List UInt8) : zP := if zhz L b = 0 then ⟨0, 0⟩ else signR key (zhz L b)
def sgnG (L : List (List UInt8)) (G : List zP) (key : Int) (b : List UInt8) : List zP := if zhz L b = 0 then G else zfm G key (zhz L b)
theorem c_raSign {σ : List zb} {id id2 : Nat} {L : List (List UInt8)} {G : List zP} {key : Int} {b : List UInt8} (hT : σ[id]? = some (rtO L)) (hG : σ[id2]? = some (rlO G)) (h1 : id ≠ id2) (hbl : b.length ≤ 1073741824) (hl0 : L.length ≤ 1048576) (hg : G.length ≤ 1073741824)
    {K : AV → List zb → Prop}
    (hK : K (.tup [zmK (sgnS L key b), .d (.int .i64 (sgnE L key b))]) ((σ.set id (rtO (zjJ L b))).set id2 (rlO (sgnG L G key b)))) :
    zt Tryz.prog zkN [.box id 0, .box id2 0, .d (.int .i64 key), .d (.slice (bcs b))] σ K := by
  refine acE4 e_r11_sign fun hl => ?_
  simp only [zoY, iN, bT, bF, eN]
  refine gq1 ?_
  refine c_rtSum (ze hT) hbl hl0 ?_
  rw [zbX hT]
  have hl1 : zem σ.length (σ.set id (rtO (zjJ L b))) := hl.setO (zmL _ _)
  have hs1 : (σ.set id (rtO (zjJ L b))).length = σ.length := by simp
  have hG1 : (σ.set id (rtO (zjJ L b)))[id2]? = some (rlO G) := by rw [List.getElem?_set_ne h1]; exact hG
  obtain ⟨S1, hS1⟩ : ∃ S1, σ.set id (rtO (zjJ L b)) = S1 := ⟨_, rfl⟩
  rw [hS1] at hK hG1 hs1 hl1 ⊢
  have r1 : σ.length = S1.length := hs1.symm
  rw [r1] at hl1
  by_cases hz : zhz L b = 0
  · have hq : (zhz L b == 0) = true := by simpa using hz
    simp only [sgnE, sgnS, sgnG, if_pos hz, zmK] at hK
    rw [zbN hG1] at hK
    refine gq2 (zj hq r1) ?_
    refine zfV rfl ?_ hl1 ?_
    · simp [zgi, dmT, dm, dm1, zck, zdU, zgj]
    · exact hK
  · have hq : (zhz L b == 0) = false := by simpa using hz
    simp only [sgnE, sgnS, sgnG, if_neg hz] at hK
    refine gq2 (zj hq r1) ?_
    refine c_rgSign (ze hG1) hg ?_
    rw [zbX hG1]
    have hl2 : zem S1.length (S1.set id2 (rlO (zfm G key (zhz L b)))) := hl1.setO (zpw _ _)
    have hs2 : (S1.set id2 (rlO (zfm G key (zhz L b)))).length = S1.length := by simp
    obtain ⟨S2, hS2⟩ : ∃ S2, S1.set id2 (rlO (zfm G key (zhz L b))) = S2 := ⟨_, rfl⟩
    rw [hS2] at hK hs2 hl2 ⊢
    have r3 : S1.length = S2.length := hs2.symm
    have r2 : σ.length = S2.length := r1.trans r3
    rw [r3] at hl2
    simp only [zmK] at hK ⊢
    refine gq2 (zj r2 r3) ?_
    refine zfV rfl ?_ hl2 ?_
    · simp [zgi, dmT, dm, dm1, zck, zdU, zgj]
    · exact hK
def votE (L : List (List UInt8)) (key a b c d : Int) : Int := if znU a b c d = true then sgnE L key (zhB a b c d) else 1
def votS (L : List (List UInt8)) (key a b c d : Int) : zP := if znU a b c d = true then sgnS L key (zhB a b c d) else ⟨0, 0⟩
def votL (L : List (List UInt8)) (a b c d : Int) : List (List UInt8) := if znU a b c d = true then zjJ L (zhB a b c d) else L
def votG (L : List (List UInt8)) (G : List zP) (key a b c d : Int) : List zP := if znU a b c d = true then sgnG L G key (zhB a b c d) else G
theorem c_raVote {σ : List zb} {id id2 : Nat} {L : List (List UInt8)} {G : List zP} {key a b c d : Int} (hT : σ[id]? = some (rtO L)) (hG : σ[id2]? = some (rlO G)) (h1 : id ≠ id2) (hl0 : L.length ≤ 1048576) (hg : G.length ≤ 1073741824)
    {K : AV → List zb → Prop}
    (hK : K (.tup [zmK (votS L key a b c d), .d (.int .i64 (votE L key a b c d))]) ((σ.set id (rtO (votL L a b c d))).set id2 (rlO (votG L G key a b c d)))) :
    zt Tryz.prog zio [.box id 0, .box id2 0, .d (.int .i64 key), .d (.int .i64 a), .d (.int .i64 b), .d (.int .i64 c), .d (.int .i64 d)] σ K := by
  refine acE7 e_r11_Vote fun hl => ?_
  simp only [zoZ, iN, bT, bF, eN]
  refine gq1 ?_
  refine c_raMay ?_
  cases hm : znU a b c d
  · simp only [votS, votE, votL, votG, hm, Bool.false_eq_true, if_false, zmK] at hK
    rw [zbN hT, zbN hG] at hK
    refine gq1 ?_
    refine zam hl ?_
    exact hK
  · simp only [votS, votE, votL, votG, hm, if_true] at hK
    have hbl := voteB_len hm
    refine gq1 ?_
    refine zpZ hm ?_
    refine gq1 ?_
    refine c_raSign (ze hT) (ze hG) h1 (by omega) hl0 hg ?_
    rw [zbX hT, zbX (by rw [List.getElem?_set_ne h1]; exact hG)]
    have hl2 : zem σ.length ((σ.set id (rtO (zjJ L (zhB a b c d)))).set id2 (rlO (sgnG L G key (zhB a b c d)))) := (hl.setO (zmL _ _)).setO (zpw _ _)
    have hs2 : ((σ.set id (rtO (zjJ L (zhB a b c d)))).set id2 (rlO (sgnG L G key (zhB a b c d)))).length = σ.length := by simp
    obtain ⟨S2, hS2⟩ : ∃ S2, (σ.set id (rtO (zjJ L (zhB a b c d)))).set id2 (rlO (sgnG L G key (zhB a b c d))) = S2 := ⟨_, rfl⟩
    rw [hS2] at hK hs2 hl2 ⊢
    have r3 : σ.length = S2.length := hs2.symm
    rw [r3] at hl2
    simp only [zmK] at hK ⊢
    refine gq2 r3 ?_
    refine zfV rfl ?_ hl2 ?_
    · simp [zgi, dmT, dm, dm1, zck, zdU, zgj]
    · exact hK
end Go.Proofs.YtjjchfbckfopkaaGreat
