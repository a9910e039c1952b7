/- Contracts: whether what was sealed is valid; a batch's number. -/
import Derived.Test.YtjjchfbckfopkaaGreatRq3
set_option linter.all false
set_option maxRecDepth 100000
set_option linter.unusedSimpArgs false
set_option linter.unusedVariables false
namespace Go.Proofs.YtjjchfbckfopkaaGreat
open Go.AW

def zjI (L : List (List UInt8)) (G : List zP) (s : zf) : Bool := decide (zD s = 0) && match zeb L (zlD s) with
  | some i => decide (s.key = keyF s.client ∧ s.dig = ((i + 1 : Nat) : Int)) && decide ((⟨s.key, s.dig⟩ : zP) ∈ G)
  | none => false
def zhC (L : List (List UInt8)) (G : List zP) (b : List zf) : Bool := decide (zx b = 0) && !(b.any fun s => !zjI L G s)
def digE (L : List (List UInt8)) (l : List zf) : Int := if zx l ≠ 0 then zx l else if zhz L (zeZ l) = 0 then 6 else 0
def digD (L : List (List UInt8)) (l : List zf) : Int := if zx l ≠ 0 then 0 else zhz L (zeZ l)
def digL (L : List (List UInt8)) (l : List zf) : List (List UInt8) := if zx l ≠ 0 then L else zjJ L (zeZ l)
theorem c_rqValid {σ : List zb} {id m t id2 m2 t2 : Nat} {L : List (List UInt8)} {G : List zP} {s : zf} (hT : zde σ id m t L) (hG : zdg σ id2 m2 t2 G)
    (hx : zgo s.op ≤ 20971520) {K : AV → List zb → Prop} (hK : K (.d (.bool (zjI L G s))) σ) : zt Tryz.prog zfo [.box id 0, .box id2 0, zeN s] σ K := by
  refine acE3 znq fun hl => ?_
  have fin : ∀ z, zjI L G s = z → K (.d (.bool z)) σ := fun z h => h ▸ hK
  clear hK
  simp only [zhX, iN, bT, bF, eN, zeN]
  refine gq1 ?_
  refine c_rqBytes (x := s) hx ?_
  by_cases hc : zD s = 0
  · have hb : (zD s != 0) = false := by simpa using hc
    rw [show zbO s = zlD s from if_pos hc]
    refine gq2 hb ?_
    refine zpX (hT.app _) ?_
    cases ho : zeb L (zlD s) with
    | none =>
      refine gq5 ?_
      refine zam hl ?_
      exact fin _ (by simp [zjI, ho])
    | some i =>
      refine gq5 ?_
      refine c_rqKey ?_
      simp only [numOf]
      cases h1 : (s.key == keyF s.client)
      · refine gq8 h1 ?_
        refine zam hl ?_
        exact fin _ (by simp at h1; simp [zjI, ho, h1])
      · cases h2 : (s.dig == ((i + 1 : Nat) : Int))
        · refine gq8 (zj h1 h2) ?_
          refine zam hl ?_
          exact fin _ (by simp at h1 h2; simp [zjI, ho, h1]; intro _ h; omega)
        · refine gq8 (zj h1 h2) ?_
          refine c_gSigned (s := ⟨s.key, s.dig⟩) (hG.app _) ?_
          refine gq1 ?_
          refine zam hl ?_
          exact fin _ (by simp at h1 h2; simp [zjI, ho, hc, h1, h2])
  · have hb : (zD s != 0) = true := by simpa using hc
    refine gq2 hb ?_
    refine zam hl ?_
    exact fin _ (by simp [zjI, hc])
theorem zok {σ : List zb} {id m t id2 m2 t2 : Nat} {L : List (List UInt8)} {G : List zP} {b : List zf} (hT : zde σ id m t L) (hG : zdg σ id2 m2 t2 G)
    (hx : ∀ s ∈ b, zgo s.op ≤ 20971520) (hbl : b.length ≤ 1073741824) {K : AV → List zb → Prop} (hK : K (.d (.bool (zhC L G b))) σ) : zt Tryz.prog zcY [.box id 0, .box id2 0, .d (.slice (zaM b))] σ K := by
  refine acE3 ziG fun hl => ?_
  have hok : okB b := ⟨hbl, fun s hs => zpq (hx s hs)⟩
  simp only [zfa, iN, bT, bF, eN]
  refine gq1 ?_
  refine zlQ hok ?_
  by_cases hc : zx b = 0
  · have hq : (zx b == 0) = true := by simpa using hc
    rw [zhC, decide_eq_true hc, Bool.true_and] at hK
    refine gq2 hq ?_
    have e0 : (σ ++ [zb.box [AV.box id 0], zb.box [AV.box id2 0]])[σ.length]? = some (zb.box [AV.box id 0]) := by rw [zk]; rfl
    have e1 : (σ ++ [zb.box [AV.box id 0], zb.box [AV.box id2 0]])[σ.length + 1]? = some (zb.box [AV.box id2 0]) := by rw [zi]; rfl
    have hT1 := hT.app [zb.box [AV.box id 0], zb.box [AV.box id2 0]]
    have hG1 := hG.app [zb.box [AV.box id 0], zb.box [AV.box id2 0]]
    refine zhT (p := fun s => !zjI L G s) hbl (fun s hs K' hK' => ?_) ?_
    · obtain ⟨S, hS⟩ : ∃ S, σ ++ [zb.box [AV.box id 0], zb.box [AV.box id2 0]] = S := ⟨_, rfl⟩
      rw [hS] at e0 e1 hT1 hG1 hK' ⊢
      refine acE3 zhy fun hl => ?_
      have e0' : ∀ τ, (S ++ τ)[σ.length]? = some (zb.box [AV.box id 0]) := fun τ => ze e0
      have e1' : ∀ τ, (S ++ τ)[σ.length + 1]? = some (zb.box [AV.box id2 0]) := fun τ => ze e1
      simp only [zeq, iN, bT, bF, eN, zeN]
      refine gq2 (zj e0' e1') ?_
      refine c_rqValid (s := s) (hT1.app _) (hG1.app _) (hx s hs) ?_
      refine gq1 ?_
      refine zam hl ?_
      exact hK'
    · refine gq2 hq ?_
      refine zam hl ?_
      exact hK
  · have hq : (zx b == 0) = false := by simpa using hc
    rw [zhC, decide_eq_false hc, Bool.false_and] at hK
    refine gq2 hq ?_
    refine zam hl ?_
    exact hK

theorem c_rqrKey {σ : List zb} {c : Int} {K : AV → List zb → Prop} (hK : K (.d (.int .i64 (keyF c))) σ) : zt Tryz.prog zhH [.d (.int .i64 c)] σ K := c_rKey hK
theorem c_rqrSeal {σ : List zb} {id id2 : Nat} {L : List (List UInt8)} {G : List zP} {x : zf} (hT : σ[id]? = some (rtO L)) (hG : σ[id2]? = some (rlO G)) (h1 : id ≠ id2) (hL : TabI L) (hGl : G.length ≤ 1073741824)
    (hx : zgo x.op ≤ 20971520) {K : AV → List zb → Prop}
    (hK : K (.tup [zeN (zpr L x), .d (.int .i64 (zmc L x))]) ((σ.set id (rtO (sealL L x))).set id2 (rlO (zps L G x)))) : zt Tryz.prog ziq [.box id 0, .box id2 0, reqA x] σ K := by
  refine acE3 e_r08_Seal fun hl => ?_
  have hsz := zpq hx
  simp only [zpa, iN, bT, bF, eN, zl3, reqA]
  refine gq1 ?_
  refine zoS (x := x) hx ?_
  by_cases hc : zD x = 0
  · have hb : (zD x != 0) = false := by simpa using hc
    have hrl := zmt (x := x) (by omega) hc
    refine gq2 hb ?_
    refine c_rqrKey ?_
    rw [show zbO x = zlD x from if_pos hc]
    refine gq1 ?_
    refine c_rtSum (ze hT) (by omega) hL.len ?_
    rw [zbX hT]
    simp only [sealL, zps, hc, ne_eq, not_true_eq_false, if_false] at hK
    have e1 : zmc L x = zdC (keyF x.client) (zhz L (zlD x)) := by rw [zmc, if_neg (by simpa using hc)]
    rw [e1] at hK
    have hl1 : zem σ.length (σ.set id (rtO (zjJ L (zlD x)))) := hl.setO (zmL _ _)
    have hs1 : (σ.set id (rtO (zjJ L (zlD x)))).length = σ.length := by simp
    have hG1 : (σ.set id (rtO (zjJ L (zlD x))))[id2]? = some (rlO G) := by rw [List.getElem?_set_ne h1]; exact hG
    obtain ⟨S1, hS1⟩ : ∃ S1, σ.set id (rtO (zjJ L (zlD x))) = S1 := ⟨_, rfl⟩
    rw [hS1] at hK hG1 hs1 hl1 ⊢
    have r1 : σ.length = S1.length := hs1.symm
    refine gq2 r1 ?_
    refine c_rgSign (ze hG1) hGl ?_
    rw [zbX hG1]
    obtain ⟨N, hN⟩ : ∃ N, zdC (keyF x.client) (zhz L (zlD x)) = N := ⟨_, rfl⟩
    have hl2 : zem σ.length (S1.set id2 (rlO (zfm G (keyF x.client) (zhz L (zlD x))))) := hl1.setO (zpw _ _)
    have hs2 : (S1.set id2 (rlO (zfm G (keyF x.client) (zhz L (zlD x))))).length = S1.length := by simp
    obtain ⟨S2, hS2⟩ : ∃ S2, S1.set id2 (rlO (zfm G (keyF x.client) (zhz L (zlD x)))) = S2 := ⟨_, rfl⟩
    rw [hS2] at hK hs2 hl2 ⊢
    have r2 : σ.length = S2.length := by rw [r1]; exact hs2.symm
    have r3 : S1.length = S2.length := hs2.symm
    rw [r2] at hl2
    rw [hN] at hK ⊢
    simp only [zmK]
    by_cases hN0 : N = 0
    · have hq : (N != 0) = false := by simpa using hN0
      have e2 : zpr L x = ⟨x.client, x.time, x.op, keyF x.client, zhz L (zlD x)⟩ := by rw [zpr, if_pos (by rw [e1, hN, hN0])]
      have e3 : signR (keyF x.client) (zhz L (zlD x)) = ⟨keyF x.client, zhz L (zlD x)⟩ := by rw [signR, if_pos (by rw [hN, hN0])]
      rw [e2] at hK
      rw [e3]
      refine gq2 (zj hq (zj r2 r3)) ?_
      rw [hN0] at hK
      refine zfV rfl ?_ hl2 ?_
      · simp [zgi, dmT, dm, dm1, zck, zdU, zgj]
      · exact hK
    · have hq : (N != 0) = true := by simpa using hN0
      have e2 : zpr L x = noSg := by rw [zpr, if_neg (by rw [e1, hN]; exact hN0)]
      rw [e2] at hK
      rw [show signR (keyF x.client) (zhz L (zlD x)) = ⟨0, 0⟩ from by rw [signR, if_neg (by rw [hN]; exact hN0)]]
      refine gq2 (zj hq (zj r2 r3)) ?_
      refine zfV rfl ?_ hl2 ?_
      · simp [zgi, dmT, dm, dm1, zck, zdU, zgj]
      · exact hK
  · have hb : (zD x != 0) = true := by simpa using hc
    have e1 : zmc L x = zD x := if_pos hc
    have e2 : zpr L x = noSg := by rw [zpr, if_neg (by rw [e1]; exact hc)]
    rw [e1, e2, sealL, zps, if_pos hc, if_pos hc, zbN hT, zbN hG] at hK
    refine gq2 hb ?_
    refine zam hl ?_
    exact hK
theorem c_rqrDigest {σ : List zb} {id : Nat} {L : List (List UInt8)} {l : List zf} (hT : σ[id]? = some (rtO L)) (hL : TabI L)
    (hx : ∀ s ∈ l, zgo s.op ≤ 20971520) (hll : l.length ≤ 1073741824) {K : AV → List zb → Prop} (hK : K (.tup [.d (.int .i64 (digD L l)), .d (.int .i64 (digE L l))]) (σ.set id (rtO (digL L l)))) :
    zt Tryz.prog zhI [.box id 0, .d (.slice (zaM l))] σ K := by
  refine zhh e_r08_Digest fun hl => ?_
  have hok : okB l := ⟨hll, fun s hs => zpq (hx s hs)⟩
  simp only [zlU, iN, bT, bF, eN]
  refine gq1 ?_
  refine zkq hok ?_
  by_cases hc : zx l = 0
  · have hq : (zx l != 0) = false := by simpa using hc
    have hbl := ziW hx
    have hc' : ¬ zx l ≠ 0 := by simpa using hc
    rw [show digD L l = zhz L (zeZ l) from if_neg hc', show digL L l = zjJ L (zeZ l) from if_neg hc', show digE L l = if zhz L (zeZ l) = 0 then 6 else 0 from if_neg hc'] at hK
    refine gq2 hq ?_
    refine c_rPutBatch (b := []) (by simp) hx hll ?_
    rw [List.nil_append, show zbJ l = zeZ l from if_pos hc] at *
    refine gq1 ?_
    refine c_rtSum hT (by omega) hL.len ?_
    have hl1 : zem σ.length (σ.set id (rtO (zjJ L (zeZ l)))) := hl.setO (zmL _ _)
    by_cases h0 : zhz L (zeZ l) = 0
    · rw [if_pos h0] at hK
      rw [h0] at hK ⊢
      refine gq5 ?_
      refine ends_all0 (by simp) ?_ hl1 ?_
      · simp [zgi, dmT, dm, dm1, zck, zdU]
      · exact hK
    · rw [if_neg h0] at hK
      have h0' : (zhz L (zeZ l) == 0) = false := by simpa using h0
      refine gq2 h0' ?_
      refine ends_all0 (by simp) ?_ hl1 ?_
      · simp [zgi, dmT, dm, dm1, zck, zdU]
      · exact hK
  · have hq : (zx l != 0) = true := by simpa using hc
    rw [digD, digE, digL, if_pos hc, if_pos hc, if_pos hc, zbN hT] at hK
    refine gq2 hq ?_
    refine zam hl ?_
    exact hK
end Go.Proofs.YtjjchfbckfopkaaGreat
