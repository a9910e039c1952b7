/- Contracts: what the document says of sealed requests. -/
import Derived.Test.YtjjchfbckfopkaaGreatRq4
set_option linter.all false
set_option maxRecDepth 100000
set_option linter.unusedSimpArgs false
set_option linter.unusedVariables false
namespace Go.Proofs.YtjjchfbckfopkaaGreat
open Go.AW

theorem c_rqrKey {σ : List zb} {c : Int} {K : AV → List zb → Prop} (hK : K (.d (.int .i64 (keyF c))) σ) : zn Tryz.prog zgX [.d (.int .i64 c)] σ K := c_rKey hK
theorem c_rqrSeal {σ : List zb} {id id2 : Nat} {L : List (List UInt8)} {G : List zO} {x : ze} (hT : σ[id]? = some (rtO L)) (hG : σ[id2]? = some (rlO G)) (h1 : id ≠ id2) (hL : TabI L) (hGl : G.length ≤ 1073741824)
    (hx : zgJ x.op ≤ 20971520) {K : AV → List zb → Prop}
    (hK : K (.tup [zet (znV L x), .d (.int .i64 (zkW L x))]) ((σ.set id (rtO (sealL L x))).set id2 (rlO (znW L G x)))) : zn Tryz.prog zhB [.box id 0, .box id2 0, reqA x] σ K := by
  refine acE3 e_r08_Seal fun hl => ?_
  have hsz := sizes hx
  simp only [znH, iN, bT, bF, eN, zl2, reqA]
  refine gq1 ?_
  refine znA (x := x) hx ?_
  by_cases hc : zB x = 0
  · have hb : (zB x != 0) = false := by simpa using hc
    have hrl := zll (x := x) (by omega) hc
    refine gq2 hb ?_
    refine c_rqrKey ?_
    rw [show zbI x = zkx x from if_pos hc]
    refine gq1 ?_
    refine c_rtSum (zk hT) (by omega) hL.len ?_
    rw [zbR hT]
    simp only [sealL, znW, hc, ne_eq, not_true_eq_false, if_false] at hK
    have e1 : zkW L x = zdm (keyF x.client) (zgO L (zkx x)) := by rw [zkW, if_neg (by simpa using hc)]
    rw [e1] at hK
    have hl1 : zdW σ.length (σ.set id (rtO (ziG L (zkx x)))) := hl.setO (zlz _ _)
    have hs1 : (σ.set id (rtO (ziG L (zkx x)))).length = σ.length := by simp
    have hG1 : (σ.set id (rtO (ziG L (zkx x))))[id2]? = some (rlO G) := by rw [List.getElem?_set_ne h1]; exact hG
    obtain ⟨S1, hS1⟩ : ∃ S1, σ.set id (rtO (ziG L (zkx x))) = S1 := ⟨_, rfl⟩
    rw [hS1] at hK hG1 hs1 hl1 ⊢
    have r1 : σ.length = S1.length := hs1.symm
    refine gq2 r1 ?_
    refine c_rgSign (zk hG1) hGl ?_
    rw [zbR hG1]
    obtain ⟨N, hN⟩ : ∃ N, zdm (keyF x.client) (zgO L (zkx x)) = N := ⟨_, rfl⟩
    have hl2 : zdW σ.length (S1.set id2 (rlO (zeP G (keyF x.client) (zgO L (zkx x))))) := hl1.setO (zoa _ _)
    have hs2 : (S1.set id2 (rlO (zeP G (keyF x.client) (zgO L (zkx x))))).length = S1.length := by simp
    obtain ⟨S2, hS2⟩ : ∃ S2, S1.set id2 (rlO (zeP G (keyF x.client) (zgO L (zkx x)))) = S2 := ⟨_, rfl⟩
    rw [hS2] at hK hs2 hl2 ⊢
    have r2 : σ.length = S2.length := by rw [r1]; exact hs2.symm
    have r3 : S1.length = S2.length := hs2.symm
    rw [r2] at hl2
    rw [hN] at hK ⊢
    simp only [zly]
    by_cases hN0 : N = 0
    · have hq : (N != 0) = false := by simpa using hN0
      have e2 : znV L x = ⟨x.client, x.time, x.op, keyF x.client, zgO L (zkx x)⟩ := by rw [znV, if_pos (by rw [e1, hN, hN0])]
      have e3 : signR (keyF x.client) (zgO L (zkx x)) = ⟨keyF x.client, zgO L (zkx x)⟩ := by rw [signR, if_pos (by rw [hN, hN0])]
      rw [e2] at hK
      rw [e3]
      refine gq2 (zo hq (zo r2 r3)) ?_
      rw [hN0] at hK
      refine zfp rfl ?_ hl2 ?_
      · simp [zfj, dmT, dm, dm1, zcm, zdS, zfA]
      · exact hK
    · have hq : (N != 0) = true := by simpa using hN0
      have e2 : znV L x = noSg := by rw [znV, if_neg (by rw [e1, hN]; exact hN0)]
      rw [e2] at hK
      rw [show signR (keyF x.client) (zgO L (zkx x)) = ⟨0, 0⟩ from by rw [signR, if_neg (by rw [hN]; exact hN0)]]
      refine gq2 (zo hq (zo r2 r3)) ?_
      refine zfp rfl ?_ hl2 ?_
      · simp [zfj, dmT, dm, dm1, zcm, zdS, zfA]
      · exact hK
  · have hb : (zB x != 0) = true := by simpa using hc
    have e1 : zkW L x = zB x := if_pos hc
    have e2 : znV L x = noSg := by rw [znV, if_neg (by rw [e1]; exact hc)]
    rw [e1, e2, sealL, znW, if_pos hc, if_pos hc, zbH hT, zbH hG] at hK
    refine gq2 hb ?_
    refine zam hl ?_
    exact hK
theorem c_rqrDigest {σ : List zb} {id : Nat} {L : List (List UInt8)} {l : List ze} (hT : σ[id]? = some (rtO L)) (hL : TabI L)
    (hx : ∀ s ∈ l, zgJ s.op ≤ 20971520) (hll : l.length ≤ 1073741824) {K : AV → List zb → Prop} (hK : K (.tup [.d (.int .i64 (digD L l)), .d (.int .i64 (digE L l))]) (σ.set id (rtO (digL L l)))) :
    zn Tryz.prog zgY [.box id 0, .d (.slice (zbn l))] σ K := by
  refine zia e_r08_Digest fun hl => ?_
  have hok : okB l := ⟨hll, fun s hs => sizes (hx s hs)⟩
  simp only [zkO, iN, bT, bF, eN]
  refine gq1 ?_
  refine zjc hok ?_
  by_cases hc : zw l = 0
  · have hq : (zw l != 0) = false := by simpa using hc
    have hbl := zhZ hx
    have hc' : ¬ zw l ≠ 0 := by simpa using hc
    rw [show digD L l = zgO L (zeE l) from if_neg hc', show digL L l = ziG L (zeE l) from if_neg hc', show digE L l = if zgO L (zeE l) = 0 then 6 else 0 from if_neg hc'] at hK
    refine gq2 hq ?_
    refine c_rPutBatch (b := []) (by simp) hx hll ?_
    rw [List.nil_append, show zbD l = zeE l from if_pos hc] at *
    refine gq1 ?_
    refine c_rtSum hT (by omega) hL.len ?_
    have hl1 : zdW σ.length (σ.set id (rtO (ziG L (zeE l)))) := hl.setO (zlz _ _)
    by_cases h0 : zgO L (zeE l) = 0
    · rw [if_pos h0] at hK
      rw [h0] at hK ⊢
      refine gq5 ?_
      refine ends_all0 (by simp) ?_ hl1 ?_
      · simp [zfj, dmT, dm, dm1, zcm, zdS]
      · exact hK
    · rw [if_neg h0] at hK
      have h0' : (zgO L (zeE l) == 0) = false := by simpa using h0
      refine gq2 h0' ?_
      refine ends_all0 (by simp) ?_ hl1 ?_
      · simp [zfj, dmT, dm, dm1, zcm, zdS]
      · exact hK
  · have hq : (zw l != 0) = true := by simpa using hc
    rw [digD, digE, digL, if_pos hc, if_pos hc, if_pos hc, zbH hT] at hK
    refine gq2 hq ?_
    refine zam hl ?_
    exact hK
end Go.Proofs.YtjjchfbckfopkaaGreat
