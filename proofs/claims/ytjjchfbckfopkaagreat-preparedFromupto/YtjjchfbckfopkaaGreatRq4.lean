/- Contracts: whether what was sealed is valid; a batch's number. -/
import Derived.Test.YtjjchfbckfopkaaGreatRq3
set_option linter.all false
set_option maxRecDepth 100000
set_option linter.unusedSimpArgs false
set_option linter.unusedVariables false
namespace Go.Proofs.YtjjchfbckfopkaaGreat
open Go.AW

def zjm (L : List (List UInt8)) (G : List zM) (s : ze) : Bool := decide (zy s = 0) && match zdM L (zlc s) with
  | some i => decide (s.key = keyF s.client ∧ s.dig = ((i + 1 : Nat) : Int)) && decide ((⟨s.key, s.dig⟩ : zM) ∈ G)
  | none => false
def zhn (L : List (List UInt8)) (G : List zM) (b : List ze) : Bool := decide (zu b = 0) && !(b.any fun s => !zjm L G s)
def digE (L : List (List UInt8)) (l : List ze) : Int := if zu l ≠ 0 then zu l else if zhk L (zeP l) = 0 then 6 else 0
def digD (L : List (List UInt8)) (l : List ze) : Int := if zu l ≠ 0 then 0 else zhk L (zeP l)
def digL (L : List (List UInt8)) (l : List ze) : List (List UInt8) := if zu l ≠ 0 then L else zjn L (zeP l)
theorem c_rqValid {σ : List zb} {id m t id2 m2 t2 : Nat} {L : List (List UInt8)} {G : List zM} {s : ze} (hT : zcW σ id m t L) (hG : zcY σ id2 m2 t2 G)
    (hx : zgb s.op ≤ 20971520) {K : AV → List zb → Prop} (hK : K (.d (.bool (zjm L G s))) σ) : zp Tryz.prog zfe [.box id 0, .box id2 0, zcO s] σ K := by
  refine acE3 zmX fun hl => ?_
  have fin : ∀ z, zjm L G s = z → K (.d (.bool z)) σ := fun z h => h ▸ hK
  clear hK
  simp only [zhI, iN, bT, bF, eN, zcO]
  refine gq1 ?_
  refine c_rqBytes (x := s) hx ?_
  by_cases hc : zy s = 0
  · have hb : (zy s != 0) = false := by simpa using hc
    rw [show zbL s = zlc s from if_pos hc]
    refine gq2 hb ?_
    refine zpL (hT.app _) ?_
    cases ho : zdM L (zlc s) with
    | none =>
      refine gq5 ?_
      refine zad hl ?_
      exact fin _ (by simp [zjm, ho])
    | some i =>
      refine gq5 ?_
      refine c_rqKey ?_
      simp only [zpn]
      cases h1 : (s.key == keyF s.client)
      · refine gq8 h1 ?_
        refine zad hl ?_
        exact fin _ (by simp at h1; simp [zjm, ho, h1])
      · cases h2 : (s.dig == ((i + 1 : Nat) : Int))
        · refine gq8 (zi h1 h2) ?_
          refine zad hl ?_
          exact fin _ (by simp at h1 h2; simp [zjm, ho, h1]; intro _ h; omega)
        · refine gq8 (zi h1 h2) ?_
          refine c_gSigned (s := ⟨s.key, s.dig⟩) (hG.app _) ?_
          refine gq1 ?_
          refine zad hl ?_
          exact fin _ (by simp at h1 h2; simp [zjm, ho, hc, h1, h2])
  · have hb : (zy s != 0) = true := by simpa using hc
    refine gq2 hb ?_
    refine zad hl ?_
    exact fin _ (by simp [zjm, hc])
theorem znT {σ : List zb} {id m t id2 m2 t2 : Nat} {L : List (List UInt8)} {G : List zM} {b : List ze} (hT : zcW σ id m t L) (hG : zcY σ id2 m2 t2 G)
    (hx : ∀ s ∈ b, zgb s.op ≤ 20971520) (hbl : b.length ≤ 1073741824) {K : AV → List zb → Prop} (hK : K (.d (.bool (zhn L G b))) σ) : zp Tryz.prog zcR [.box id 0, .box id2 0, .d (.slice (zaE b))] σ K := by
  refine acE3 ziq fun hl => ?_
  have hok : okB b := ⟨hbl, fun s hs => zpc (hx s hs)⟩
  simp only [zeQ, iN, bT, bF, eN]
  refine gq1 ?_
  refine zlo hok ?_
  by_cases hc : zu b = 0
  · have hq : (zu b == 0) = true := by simpa using hc
    rw [zhn, decide_eq_true hc, Bool.true_and] at hK
    refine gq2 hq ?_
    have e0 : (σ ++ [zb.box [AV.box id 0], zb.box [AV.box id2 0]])[σ.length]? = some (zb.box [AV.box id 0]) := by rw [zm]; rfl
    have e1 : (σ ++ [zb.box [AV.box id 0], zb.box [AV.box id2 0]])[σ.length + 1]? = some (zb.box [AV.box id2 0]) := by rw [zh]; rfl
    have hT1 := hT.app [zb.box [AV.box id 0], zb.box [AV.box id2 0]]
    have hG1 := hG.app [zb.box [AV.box id 0], zb.box [AV.box id2 0]]
    refine zhE (p := fun s => !zjm L G s) hbl (fun s hs K' hK' => ?_) ?_
    · obtain ⟨S, hS⟩ : ∃ S, σ ++ [zb.box [AV.box id 0], zb.box [AV.box id2 0]] = S := ⟨_, rfl⟩
      rw [hS] at e0 e1 hT1 hG1 hK' ⊢
      refine acE3 zhi fun hl => ?_
      have e0' : ∀ τ, (S ++ τ)[σ.length]? = some (zb.box [AV.box id 0]) := fun τ => zk e0
      have e1' : ∀ τ, (S ++ τ)[σ.length + 1]? = some (zb.box [AV.box id2 0]) := fun τ => zk e1
      simp only [zdT, iN, bT, bF, eN, zcO]
      refine gq2 (zi e0' e1') ?_
      refine c_rqValid (s := s) (hT1.app _) (hG1.app _) (hx s hs) ?_
      refine gq1 ?_
      refine zad hl ?_
      exact hK'
    · refine gq2 hq ?_
      refine zad hl ?_
      exact hK
  · have hq : (zu b == 0) = false := by simpa using hc
    rw [zhn, decide_eq_false hc, Bool.false_and] at hK
    refine gq2 hq ?_
    refine zad hl ?_
    exact hK

theorem c_rqrKey {σ : List zb} {c : Int} {K : AV → List zb → Prop} (hK : K (.d (.int .i64 (keyF c))) σ) : zp Tryz.prog zht [.d (.int .i64 c)] σ K := c_rKey hK
theorem c_rqrSeal {σ : List zb} {id id2 : Nat} {L : List (List UInt8)} {G : List zM} {x : ze} (hT : σ[id]? = some (rtO L)) (hG : σ[id2]? = some (rlO G)) (h1 : id ≠ id2) (hL : TabI L) (hGl : G.length ≤ 1073741824)
    (hx : zgb x.op ≤ 20971520) {K : AV → List zb → Prop}
    (hK : K (.tup [zcO (zpd L x), .d (.int .i64 (zlz L x))]) ((σ.set id (rtO (sealL L x))).set id2 (rlO (zpe L G x)))) : zp Tryz.prog zib [.box id 0, .box id2 0, reqA x] σ K := by
  refine acE3 e_r08_Seal fun hl => ?_
  have hsz := zpc hx
  simp only [zoL, iN, bT, bF, eN, zl2, reqA]
  refine gq1 ?_
  refine zoD (x := x) hx ?_
  by_cases hc : zy x = 0
  · have hb : (zy x != 0) = false := by simpa using hc
    have hrl := zmc (x := x) (by omega) hc
    refine gq2 hb ?_
    refine c_rqrKey ?_
    rw [show zbL x = zlc x from if_pos hc]
    refine gq1 ?_
    refine c_rtSum (zk hT) (by omega) hL.len ?_
    rw [zbU hT]
    simp only [sealL, zpe, hc, ne_eq, not_true_eq_false, if_false] at hK
    have e1 : zlz L x = zdt (keyF x.client) (zhk L (zlc x)) := by rw [zlz, if_neg (by simpa using hc)]
    rw [e1] at hK
    have hl1 : zdP σ.length (σ.set id (rtO (zjn L (zlc x)))) := hl.setO (zmu _ _)
    have hs1 : (σ.set id (rtO (zjn L (zlc x)))).length = σ.length := by simp
    have hG1 : (σ.set id (rtO (zjn L (zlc x))))[id2]? = some (rlO G) := by rw [List.getElem?_set_ne h1]; exact hG
    obtain ⟨S1, hS1⟩ : ∃ S1, σ.set id (rtO (zjn L (zlc x))) = S1 := ⟨_, rfl⟩
    rw [hS1] at hK hG1 hs1 hl1 ⊢
    have r1 : σ.length = S1.length := hs1.symm
    refine gq2 r1 ?_
    refine c_rgSign (zk hG1) hGl ?_
    rw [zbU hG1]
    obtain ⟨N, hN⟩ : ∃ N, zdt (keyF x.client) (zhk L (zlc x)) = N := ⟨_, rfl⟩
    have hl2 : zdP σ.length (S1.set id2 (rlO (zfb G (keyF x.client) (zhk L (zlc x))))) := hl1.setO (zpi _ _)
    have hs2 : (S1.set id2 (rlO (zfb G (keyF x.client) (zhk L (zlc x))))).length = S1.length := by simp
    obtain ⟨S2, hS2⟩ : ∃ S2, S1.set id2 (rlO (zfb G (keyF x.client) (zhk L (zlc x)))) = S2 := ⟨_, rfl⟩
    rw [hS2] at hK hs2 hl2 ⊢
    have r2 : σ.length = S2.length := by rw [r1]; exact hs2.symm
    have r3 : S1.length = S2.length := hs2.symm
    rw [r2] at hl2
    rw [hN] at hK ⊢
    simp only [zmt]
    by_cases hN0 : N = 0
    · have hq : (N != 0) = false := by simpa using hN0
      have e2 : zpd L x = ⟨x.client, x.time, x.op, keyF x.client, zhk L (zlc x)⟩ := by rw [zpd, if_pos (by rw [e1, hN, hN0])]
      have e3 : signR (keyF x.client) (zhk L (zlc x)) = ⟨keyF x.client, zhk L (zlc x)⟩ := by rw [signR, if_pos (by rw [hN, hN0])]
      rw [e2] at hK
      rw [e3]
      refine gq2 (zi hq (zi r2 r3)) ?_
      rw [hN0] at hK
      refine zfH rfl ?_ hl2 ?_
      · simp [zfT, dmT, dm, dm1, zcf, zdJ, zfU]
      · exact hK
    · have hq : (N != 0) = true := by simpa using hN0
      have e2 : zpd L x = noSg := by rw [zpd, if_neg (by rw [e1, hN]; exact hN0)]
      rw [e2] at hK
      rw [show signR (keyF x.client) (zhk L (zlc x)) = ⟨0, 0⟩ from by rw [signR, if_neg (by rw [hN]; exact hN0)]]
      refine gq2 (zi hq (zi r2 r3)) ?_
      refine zfH rfl ?_ hl2 ?_
      · simp [zfT, dmT, dm, dm1, zcf, zdJ, zfU]
      · exact hK
  · have hb : (zy x != 0) = true := by simpa using hc
    have e1 : zlz L x = zy x := if_pos hc
    have e2 : zpd L x = noSg := by rw [zpd, if_neg (by rw [e1]; exact hc)]
    rw [e1, e2, sealL, zpe, if_pos hc, if_pos hc, zbK hT, zbK hG] at hK
    refine gq2 hb ?_
    refine zad hl ?_
    exact hK
theorem c_rqrDigest {σ : List zb} {id : Nat} {L : List (List UInt8)} {l : List ze} (hT : σ[id]? = some (rtO L)) (hL : TabI L)
    (hx : ∀ s ∈ l, zgb s.op ≤ 20971520) (hll : l.length ≤ 1073741824) {K : AV → List zb → Prop} (hK : K (.tup [.d (.int .i64 (digD L l)), .d (.int .i64 (digE L l))]) (σ.set id (rtO (digL L l)))) :
    zp Tryz.prog zhu [.box id 0, .d (.slice (zaE l))] σ K := by
  refine zgK e_r08_Digest fun hl => ?_
  have hok : okB l := ⟨hll, fun s hs => zpc (hx s hs)⟩
  simp only [zls, iN, bT, bF, eN]
  refine gq1 ?_
  refine zjP hok ?_
  by_cases hc : zu l = 0
  · have hq : (zu l != 0) = false := by simpa using hc
    have hbl := ziE hx
    have hc' : ¬ zu l ≠ 0 := by simpa using hc
    rw [show digD L l = zhk L (zeP l) from if_neg hc', show digL L l = zjn L (zeP l) from if_neg hc', show digE L l = if zhk L (zeP l) = 0 then 6 else 0 from if_neg hc'] at hK
    refine gq2 hq ?_
    refine c_rPutBatch (b := []) (by simp) hx hll ?_
    rw [List.nil_append, show zbG l = zeP l from if_pos hc] at *
    refine gq1 ?_
    refine c_rtSum hT (by omega) hL.len ?_
    have hl1 : zdP σ.length (σ.set id (rtO (zjn L (zeP l)))) := hl.setO (zmu _ _)
    by_cases h0 : zhk L (zeP l) = 0
    · rw [if_pos h0] at hK
      rw [h0] at hK ⊢
      refine gq5 ?_
      refine ends_all0 (by simp) ?_ hl1 ?_
      · simp [zfT, dmT, dm, dm1, zcf, zdJ]
      · exact hK
    · rw [if_neg h0] at hK
      have h0' : (zhk L (zeP l) == 0) = false := by simpa using h0
      refine gq2 h0' ?_
      refine ends_all0 (by simp) ?_ hl1 ?_
      · simp [zfT, dmT, dm, dm1, zcf, zdJ]
      · exact hK
  · have hq : (zu l != 0) = true := by simpa using hc
    rw [digD, digE, digL, if_pos hc, if_pos hc, if_pos hc, zbK hT] at hK
    refine gq2 hq ?_
    refine zad hl ?_
    exact hK
end Go.Proofs.YtjjchfbckfopkaaGreat
