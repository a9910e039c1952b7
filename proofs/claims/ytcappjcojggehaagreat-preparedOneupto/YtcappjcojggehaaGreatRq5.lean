/- Contracts: what the document says of sealed requests. -/
import Derived.Test.YtcappjcojggehaaGreatRq4
set_option linter.all false
set_option maxRecDepth 100000
set_option linter.unusedSimpArgs false
set_option linter.unusedVariables false
namespace Go.Proofs.YtcappjcojggehaaGreat
open Go.AW

theorem c_rqrKey {σ : List zb} {c : Int} {K : AV → List zb → Prop} (hK : K (.d (.int .i64 (znf c))) σ) : zN Tryz.prog zhn [.d (.int .i64 c)] σ K := c_rKey hK
theorem c_rqrSeal {σ : List zb} {id id2 : Nat} {L : List (List UInt8)} {G : List zR} {x : zd} (hT : σ[id]? = some (rtO L)) (hG : σ[id2]? = some (rlO G)) (h1 : id ≠ id2) (hL : TabI L) (hGl : G.length ≤ 1073741824)
    (hx : zfz x.op ≤ 20971520) {K : AV → List zb → Prop}
    (hK : K (.tup [zet (zoc L x), .d (.int .i64 (zkS L x))]) ((σ.set id (rtO (sealL L x))).set id2 (rlO (zmB L G x)))) : zN Tryz.prog zhT [.box id 0, .box id2 0, reqA x] σ K := by
  refine zk znt.is rfl fun hl _ => znt.goes ?_
  have hsz := sizes hx
  simp only [znP, iN, bT, bF, eN, reqA]
  (repeat' first | refine gq1 ?_ | with_reducible first | exact ⟨⟩ | refine zA ?_ | fail)
  refine znF (x := x) hx ?_
  by_cases hc : zI x = 0
  · have hb : (zI x != 0) = false := by simpa using hc
    have hrl := zkX (x := x) (by omega) hc
    (repeat' first | refine gq2 hb ?_ | with_reducible first | exact ⟨⟩ | refine zA ?_ | fail)
    refine c_rqrKey ?_
    rw [show zbG x = zkt x from if_pos hc]
    (repeat' first | refine gq1 ?_ | with_reducible first | exact ⟨⟩ | refine zA ?_ | fail)
    refine c_rtSum (zaa hT) (by omega) hL.len ?_
    rw [zbR hT]
    simp only [sealL, zmB, hc, ne_eq, not_true_eq_false, if_false] at hK
    have e1 : zkS L x = zcV (znf x.client) (zgg L (zkt x)) := by rw [zkS, if_neg (by simpa using hc)]
    rw [e1] at hK
    have hl1 : zfy σ.length (σ.set id (rtO (zhQ L (zkt x)))) := hl.setO (zlp _ _)
    have hs1 : (σ.set id (rtO (zhQ L (zkt x)))).length = σ.length := by simp
    have hG1 : (σ.set id (rtO (zhQ L (zkt x))))[id2]? = some (rlO G) := by rw [List.getElem?_set_ne h1]; exact hG
    obtain ⟨S1, hS1⟩ : ∃ S1, σ.set id (rtO (zhQ L (zkt x))) = S1 := ⟨_, rfl⟩
    rw [hS1] at hK hG1 hs1 hl1 ⊢
    have r1 : σ.length = S1.length := hs1.symm
    (repeat' first | refine gq2 r1 ?_ | with_reducible first | exact ⟨⟩ | refine zA ?_ | fail)
    refine c_rgSign (zaa hG1) hGl ?_
    rw [zbR hG1]
    obtain ⟨N, hN⟩ : ∃ N, zcV (znf x.client) (zgg L (zkt x)) = N := ⟨_, rfl⟩
    have hl2 : zfy σ.length (S1.set id2 (rlO (zdW G (znf x.client) (zgg L (zkt x))))) := hl1.setO (zog _ _)
    have hs2 : (S1.set id2 (rlO (zdW G (znf x.client) (zgg L (zkt x))))).length = S1.length := by simp
    obtain ⟨S2, hS2⟩ : ∃ S2, S1.set id2 (rlO (zdW G (znf x.client) (zgg L (zkt x)))) = S2 := ⟨_, rfl⟩
    rw [hS2] at hK hs2 hl2 ⊢
    have r2 : σ.length = S2.length := by rw [r1]; exact hs2.symm
    have r3 : S1.length = S2.length := hs2.symm
    rw [r2] at hl2
    rw [hN] at hK ⊢
    simp only [zlo]
    by_cases hN0 : N = 0
    · have hq : (N != 0) = false := by simpa using hN0
      have e2 : zoc L x = ⟨x.client, x.time, x.op, znf x.client, zgg L (zkt x)⟩ := by rw [zoc, if_pos (by rw [e1, hN, hN0])]
      have e3 : signR (znf x.client) (zgg L (zkt x)) = ⟨znf x.client, zgg L (zkt x)⟩ := by rw [signR, if_pos (by rw [hN, hN0])]
      rw [e2] at hK
      rw [e3]
      (repeat' first | refine gq2 (zu hq (zu r2 r3)) ?_ | with_reducible first | exact ⟨⟩ | refine zA ?_ | fail)
      rw [hN0] at hK
      refine zfm rfl ?_ hl2 ?_
      · simp [zhi, dmT, dm, dm1, zcW, zec, zgB]
      · exact hK
    · have hq : (N != 0) = true := by simpa using hN0
      have e2 : zoc L x = noSg := by rw [zoc, if_neg (by rw [e1, hN]; exact hN0)]
      rw [e2] at hK
      rw [show signR (znf x.client) (zgg L (zkt x)) = ⟨0, 0⟩ from by rw [signR, if_neg (by rw [hN]; exact hN0)]]
      (repeat' first | refine gq2 (zu hq (zu r2 r3)) ?_ | with_reducible first | exact ⟨⟩ | refine zA ?_ | fail)
      refine zfm rfl ?_ hl2 ?_
      · simp [zhi, dmT, dm, dm1, zcW, zec, zgB]
      · exact hK
  · have hb : (zI x != 0) = true := by simpa using hc
    have e1 : zkS L x = zI x := if_pos hc
    have e2 : zoc L x = noSg := by rw [zoc, if_neg (by rw [e1]; exact hc)]
    rw [e1, e2, sealL, zmB, if_pos hc, if_pos hc, zbF hT, zbF hG] at hK
    (repeat' first | refine gq2 hb ?_ | with_reducible first | exact ⟨⟩ | refine zA ?_ | fail)
    (first | refine zar hl ?_ | refine zaq hl ?_)
    exact hK
theorem gq46 {P Q : Prop} (h : Q) (e : P = Q := by simp -dsimp only [↓zcI, ↓zai, ↓zaH, ↓zcJ, ↓zcE, ↓zcC, ↓zcF, ↓zcD, ↓zaM, ↓zaI, ↓zaN, ↓zaJ, ↓zcG, ↓zaG, ↓zaO, ↓zaK, ↓zaP, ↓zaL, ↓zcB, ↓zcH, ↓zaF, ↓zaQ, ↓zcy, ↓zcx, ↓zcA, iN, bT, bF, eN, ↓zbL, ↓unC, ↓zH, ↓zw, ↓zx, ↓zB, ↓zK, ↓zaz, ↓zbv, ↓zY, ↓zbh, ↓zP, ↓zr, ↓zp, ↓zbj, ↓zf, ↓zU, ↓zF, ↓zan, ↓zas, ↓zc, ↓zC, ↓zj, ↓zl, ↓zab, ↓zbK, ↓zbJ, ↓zae, ↓zah, ↓zam, ↓zav, ↓zaB, ↓zg, ↓zW, ↓zy, ↓zi, ↓zJ, zbM, zaE, zaD, unA, zbQ, bnd, zcb, zQ, zag, zcd, dm, dm1, zM, zao, zcr, zcq, zS, Q0, Q1, Q2, Q3, Q4, Q5, zG, zh, zn, zq, zt, Q6, Q7, Q8, Q9, Q10, Q11, Q12, Q13, Q14, Nat.reduceAdd, Q15, Int.reduceToNat, Q16, Q17, Q18, Q19, Q20, reduceIte, Q21, Q22, zm, rep, zL, zcz, toD, zac, Q23, Q24, Q25, Q26, Q27, Q28, Nat.reduceLeDiff, Q29, Nat.reduceSub, Q30, Q31, Q32, sc, Q33, Q34, Q35, Q36, Q37, Q26, Q38, Q39, zfa, zeX, zeU, zfb, zbC, zeY, zeV, zeZ, zeW, zbB, zbD, zfd, zfe, Bool.not_true, Bool.not_false, List.length_map, beq_self_eq_true, bne_self_eq_false]; rfl) : P := e.mpr h
theorem c_rqrDigest {σ : List zb} {id : Nat} {L : List (List UInt8)} {l : List zd} (hT : σ[id]? = some (rtO L)) (hL : TabI L)
    (hx : ∀ s ∈ l, zfz s.op ≤ 20971520) (hll : l.length ≤ 1073741824) {K : AV → List zb → Prop} (hK : K (.tup [.d (.int .i64 (digD L l)), .d (.int .i64 (digE L l))]) (σ.set id (rtO (digL L l)))) :
    zN Tryz.prog zho [.box id 0, .d (.slice (zbs l))] σ K := by
  refine zk zkz.is rfl fun hl _ => zkz.goes ?_
  have hok : okB l := ⟨hll, fun s hs => sizes (hx s hs)⟩
  simp only [zkK, iN, bT, bF, eN]
  (repeat' first | refine gq1 ?_ | with_reducible first | exact ⟨⟩ | refine zA ?_ | fail)
  refine zjl hok ?_
  by_cases hc : zD l = 0
  · have hq : (zD l != 0) = false := by simpa using hc
    have hbl := zin hx
    have hc' : ¬ zD l ≠ 0 := by simpa using hc
    rw [show digD L l = zgg L (zei l) from if_neg hc', show digL L l = zhQ L (zei l) from if_neg hc', show digE L l = if zgg L (zei l) = 0 then 6 else 0 from if_neg hc'] at hK
    (repeat' first | refine gq2 hq ?_ | with_reducible first | exact ⟨⟩ | refine zA ?_ | fail)
    refine c_rPutBatch (b := []) (by simp) hx hll ?_
    rw [List.nil_append, show zbz l = zei l from if_pos hc] at *
    (repeat' first | refine gq1 ?_ | with_reducible first | exact ⟨⟩ | refine zA ?_ | fail)
    refine c_rtSum hT (by omega) hL.len ?_
    have hl1 : zfy σ.length (σ.set id (rtO (zhQ L (zei l)))) := hl.setO (zlp _ _)
    by_cases h0 : zgg L (zei l) = 0
    · rw [if_pos h0] at hK
      rw [h0] at hK ⊢
      (repeat' first | refine gq46 ?_ | with_reducible first | exact ⟨⟩ | refine zA ?_ | fail)
      refine ends_all0 (by simp) ?_ hl1 ?_
      · simp [zhi, dmT, dm, dm1, zcW, zec]
      · exact hK
    · rw [if_neg h0] at hK
      have h0' : (zgg L (zei l) == 0) = false := by simpa using h0
      (repeat' first | refine gq2 h0' ?_ | with_reducible first | exact ⟨⟩ | refine zA ?_ | fail)
      refine ends_all0 (by simp) ?_ hl1 ?_
      · simp [zhi, dmT, dm, dm1, zcW, zec]
      · exact hK
  · have hq : (zD l != 0) = true := by simpa using hc
    rw [digD, digE, digL, if_pos hc, if_pos hc, if_pos hc, zbF hT] at hK
    (repeat' first | refine gq2 hq ?_ | with_reducible first | exact ⟨⟩ | refine zA ?_ | fail)
    (first | refine zar hl ?_ | refine zaq hl ?_)
    exact hK
end Go.Proofs.YtcappjcojggehaaGreat
