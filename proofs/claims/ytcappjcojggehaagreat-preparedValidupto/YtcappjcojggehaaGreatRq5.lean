/- Contracts: what the document says of sealed requests. -/
import Derived.Test.YtcappjcojggehaaGreatRq4
set_option linter.all false
set_option maxRecDepth 100000
set_option linter.unusedSimpArgs false
set_option linter.unusedVariables false
namespace Go.Proofs.YtcappjcojggehaaGreat
open Go.AW

theorem c_rqrKey {σ : List AObj} {c : Int} {K : AV → List AObj → Prop} (hK : K (.d (.int .i64 (keyF c))) σ) : ACall Tryz.prog zeJ [.d (.int .i64 c)] σ K := c_rKey hK
theorem c_rqrSeal {σ : List AObj} {id id2 : Nat} {L : List (List UInt8)} {G : List TSign} {x : zk} (hT : σ[id]? = some (rtO L)) (hG : σ[id2]? = some (rlO G)) (h1 : id ≠ id2) (hL : TabI L) (hGl : G.length ≤ 1073741824)
    (hx : opSz x.op ≤ 20971520) {K : AV → List AObj → Prop}
    (hK : K (.tup [zcN (sealS L x), .d (.int .i64 (sealE L x))]) ((σ.set id (rtO (sealL L x))).set id2 (rlO (sealG L G x)))) : ACall Tryz.prog zgR [.box id 0, .box id2 0, reqA x] σ K := by
  refine zo isA_r08_Seal rfl fun hl _ => s_r08_Seal ?_
  have hsz := sizes hx
  simp only [znr, reqA]
  (repeat' (first | (refine gq1 ?_; try with_reducible exact True.intro) | ((with_reducible refine And.intro ?_ ?_); focus (first | omega | rfl | decide | (simp; done)))))
  refine zjN (x := x) hx ?_
  by_cases hc : zJ x = 0
  · have hb : (zJ x != 0) = false := by simpa using hc
    have hrl := zkY (x := x) (by omega) hc
    (repeat' (first | (refine gq2 hb ?_; try with_reducible exact True.intro) | ((with_reducible refine And.intro ?_ ?_); focus (first | omega | rfl | decide | (simp; done)))))
    refine c_rqrKey ?_
    rw [show zaR x = reqB x from if_pos hc]
    (repeat' (first | (refine gq1 ?_; try with_reducible exact True.intro) | ((with_reducible refine And.intro ?_ ?_); focus (first | omega | rfl | decide | (simp; done)))))
    refine c_rtSum (zI hT) (by omega) hL.len ?_
    rw [zbb hT]
    simp only [sealL, sealG, hc, ne_eq, not_true_eq_false, if_false] at hK
    have e1 : sealE L x = signF (keyF x.client) (sumN L (reqB x)) := by rw [sealE, if_neg (by simpa using hc)]
    rw [e1] at hK
    have hl1 : Lows σ.length (σ.set id (rtO (sumL L (reqB x)))) := hl.setO (zls _ _)
    have hs1 : (σ.set id (rtO (sumL L (reqB x)))).length = σ.length := by simp
    have hG1 : (σ.set id (rtO (sumL L (reqB x))))[id2]? = some (rlO G) := by rw [List.getElem?_set_ne h1]; exact hG
    obtain ⟨S1, hS1⟩ : ∃ S1, σ.set id (rtO (sumL L (reqB x))) = S1 := ⟨_, rfl⟩
    rw [hS1] at hK hG1 hs1 hl1 ⊢
    have r1 : σ.length = S1.length := hs1.symm
    (repeat' (first | (refine gq2 r1 ?_; try with_reducible exact True.intro) | ((with_reducible refine And.intro ?_ ?_); focus (first | omega | rfl | decide | (simp; done)))))
    refine c_rgSign (zI hG1) hGl ?_
    rw [zbb hG1]
    obtain ⟨N, hN⟩ : ∃ N, signF (keyF x.client) (sumN L (reqB x)) = N := ⟨_, rfl⟩
    have hl2 : Lows σ.length (S1.set id2 (rlO (signG G (keyF x.client) (sumN L (reqB x))))) := hl1.setO (znP _ _)
    have hs2 : (S1.set id2 (rlO (signG G (keyF x.client) (sumN L (reqB x))))).length = S1.length := by simp
    obtain ⟨S2, hS2⟩ : ∃ S2, S1.set id2 (rlO (signG G (keyF x.client) (sumN L (reqB x)))) = S2 := ⟨_, rfl⟩
    rw [hS2] at hK hs2 hl2 ⊢
    have r2 : σ.length = S2.length := by rw [r1]; exact hs2.symm
    have r3 : S1.length = S2.length := hs2.symm
    rw [r2] at hl2
    rw [hN] at hK ⊢
    simp only [signA]
    by_cases hN0 : N = 0
    · have hq : (N != 0) = false := by simpa using hN0
      have e2 : sealS L x = ⟨x.client, x.time, x.op, keyF x.client, sumN L (reqB x)⟩ := by rw [sealS, if_pos (by rw [e1, hN, hN0])]
      have e3 : signR (keyF x.client) (sumN L (reqB x)) = ⟨keyF x.client, sumN L (reqB x)⟩ := by rw [signR, if_pos (by rw [hN, hN0])]
      rw [e2] at hK
      rw [e3]
      (repeat' (first | (refine gq2 (gqc0 hq (gqc0 r2 r3)) ?_; try with_reducible exact True.intro) | ((with_reducible refine And.intro ?_ ?_); focus (first | omega | rfl | decide | (simp; done)))))
      rw [hN0] at hK
      refine zeo rfl ?_ hl2 ?_
      · simp [Low_d, dmT, dm, dm1, pack, zd, ze]
      · exact hK
    · have hq : (N != 0) = true := by simpa using hN0
      have e2 : sealS L x = noSg := by rw [sealS, if_neg (by rw [e1, hN]; exact hN0)]
      rw [e2] at hK
      rw [show signR (keyF x.client) (sumN L (reqB x)) = ⟨0, 0⟩ from by rw [signR, if_neg (by rw [hN]; exact hN0)]]
      (repeat' (first | (refine gq2 (gqc0 hq (gqc0 r2 r3)) ?_; try with_reducible exact True.intro) | ((with_reducible refine And.intro ?_ ?_); focus (first | omega | rfl | decide | (simp; done)))))
      refine zeo rfl ?_ hl2 ?_
      · simp [Low_d, dmT, dm, dm1, pack, zd, ze]
      · exact hK
  · have hb : (zJ x != 0) = true := by simpa using hc
    have e1 : sealE L x = zJ x := if_pos hc
    have e2 : sealS L x = noSg := by rw [sealS, if_neg (by rw [e1]; exact hc)]
    rw [e1, e2, sealL, sealG, if_pos hc, if_pos hc, zaX hT, zaX hG] at hK
    (repeat' (first | (refine gq2 hb ?_; try with_reducible exact True.intro) | ((with_reducible refine And.intro ?_ ?_); focus (first | omega | rfl | decide | (simp; done)))))
    (first | refine zg (by simp [Low_d, dmT, dm, dm1, pack, zd, ze, zb]) hl ?_ | refine zf (by simp [Low_d, dmT, dm, dm1, pack, zd, ze, zb]) hl ?_)
    exact hK
theorem gq46 {A P Q : Prop} (a : A) (h : Q) (e : A → P = Q := by intro a; simp -dsimp only [↓zae, ↓loopL, ↓binC, ↓unC, ↓zL, ↓zD, ↓zE, ↓zF, ↓zP, ↓lenC, ↓slcC, ↓convC, ↓boxC, ↓zH, ↓loadC, ↓zp, ↓nilC, ↓zh, ↓zV, ↓zr, ↓idxSC, ↓idxAC, ↓zi, ↓zG, ↓zl, ↓zt, ↓zZ, ↓maxC, ↓minC, ↓zab, ↓zac, ↓mgetC, ↓msetC, ↓mdelC, ↓zn, ↓zW, ↓zC, ↓zq, ↓zN, binA, intOp, strOp, unA, esOf, bnd, intV, zR, fillV, srcE, dm, dm1, consO, cellA, maxL, minL, keepO, Q0, Q1, Q2, Q3, Q4, Q5, zK, zm, zw, zx, zy, Q6, Q7, Q8, Q9, Q10, Q11, Q12, Q13, Q14, Nat.reduceAdd, Q15, Int.reduceToNat, Q16, Q17, Q18, Q19, Q20, reduceIte, Q21, Q22, zu, rep, zO, toDs, toD, zaa, Q23, Q24, Q25, Q26, Q27, Q28, Nat.reduceLeDiff, Q29, Nat.reduceSub, Q30, Q31, Q32, sc, Q33, Q34, Q35, Q36, Q37, Q26, Q38, Q39, n0gt, n1gt, n2gt, n0eq, n1eq0, n1eq, n2eq, n0ne, n1ne, n1ne0, n0ne1, i0ne, i0eq, Bool.not_true, Bool.not_false, List.length_map, Option.isSome_some, a]; rfl) : P := (e a).mpr h
theorem c_rqrValid {σ : List AObj} {id id2 : Nat} {L : List (List UInt8)} {G : List TSign} {s : zk} (hT : σ[id]? = some (rtO L)) (hG : σ[id2]? = some (rlO G)) (hL : TabI L) (hGl : G.length ≤ 1073741824)
    (hx : opSz s.op ≤ 20971520) {K : AV → List AObj → Prop} (hK : K (.d (.bool (zcH L G s))) σ) : ACall Tryz.prog zhF [.box id 0, .box id2 0, zcN s] σ K := by
  refine zo zob rfl fun hl _ => s_r08_Valid ?_
  have fin : ∀ z, zcH L G s = z → K (.d (.bool z)) σ := fun z h => h ▸ hK
  clear hK
  simp only [zme, zcN]
  (repeat' (first | (refine gq1 ?_; try with_reducible exact True.intro) | ((with_reducible refine And.intro ?_ ?_); focus (first | omega | rfl | decide | (simp; done)))))
  refine zjN (x := s) hx ?_
  by_cases hc : zJ s = 0
  · have hb : (zJ s != 0) = false := by simpa using hc
    rw [show zaR s = reqB s from if_pos hc]
    (repeat' (first | (refine gq2 hb ?_; try with_reducible exact True.intro) | ((with_reducible refine And.intro ?_ ?_); focus (first | omega | rfl | decide | (simp; done)))))
    refine c_rqrKey ?_
    cases h1 : (s.key != keyF s.client)
    · (repeat' (first | (refine gq2 h1 ?_; try with_reducible exact True.intro) | ((with_reducible refine And.intro ?_ ?_); focus (first | omega | rfl | decide | (simp; done)))))
      refine zlb (zI hT) hL.len ?_
      cases ho : lookF L (reqB s) with
      | none =>
        (repeat' (first | (refine gq7 ?_; try with_reducible exact True.intro) | ((with_reducible refine And.intro ?_ ?_); focus (first | omega | rfl | decide | (simp; done)))))
        (first | refine zg (by simp [Low_d, dmT, dm, dm1, pack, zd, ze, zb]) hl ?_ | refine zf (by simp [Low_d, dmT, dm, dm1, pack, zd, ze, zb]) hl ?_)
        exact fin _ (by simp [zcH, ho])
      | some i =>
        simp only [numOf]
        cases h2 : (((i + 1 : Nat) : Int) == s.dig)
        · (repeat' (first | (refine gq46 h2 ?_; try with_reducible exact True.intro) | ((with_reducible refine And.intro ?_ ?_); focus (first | omega | rfl | decide | (simp; done)))))
          (first | refine zg (by simp [Low_d, dmT, dm, dm1, pack, zd, ze, zb]) hl ?_ | refine zf (by simp [Low_d, dmT, dm, dm1, pack, zd, ze, zb]) hl ?_)
          exact fin _ (by simp at h1 h2; simp [zcH, ho, h1]; intro _ h; omega)
        · (repeat' (first | (refine gq46 h2 ?_; try with_reducible exact True.intro) | ((with_reducible refine And.intro ?_ ?_); focus (first | omega | rfl | decide | (simp; done)))))
          refine zjO (s := ⟨s.key, s.dig⟩) (zI hG) hGl ?_
          (repeat' (first | (refine gq1 ?_; try with_reducible exact True.intro) | ((with_reducible refine And.intro ?_ ?_); focus (first | omega | rfl | decide | (simp; done)))))
          (first | refine zg (by simp [Low_d, dmT, dm, dm1, pack, zd, ze, zb]) hl ?_ | refine zf (by simp [Low_d, dmT, dm, dm1, pack, zd, ze, zb]) hl ?_)
          refine fin _ ?_
          have h2' : s.dig = ((i + 1 : Nat) : Int) := by have := eq_of_beq h2; exact this.symm
          have h1' : s.key = keyF s.client := by simpa using h1
          simp [zcH, ho, hc, h1', h2']
    · (repeat' (first | (refine gq2 h1 ?_; try with_reducible exact True.intro) | ((with_reducible refine And.intro ?_ ?_); focus (first | omega | rfl | decide | (simp; done)))))
      (first | refine zg (by simp [Low_d, dmT, dm, dm1, pack, zd, ze, zb]) hl ?_ | refine zf (by simp [Low_d, dmT, dm, dm1, pack, zd, ze, zb]) hl ?_)
      refine fin _ ?_
      have h1' : ¬ s.key = keyF s.client := by simpa using h1
      simp only [zcH]
      cases lookF L (reqB s) <;> simp [h1']
  · have hb : (zJ s != 0) = true := by simpa using hc
    (repeat' (first | (refine gq2 hb ?_; try with_reducible exact True.intro) | ((with_reducible refine And.intro ?_ ?_); focus (first | omega | rfl | decide | (simp; done)))))
    (first | refine zg (by simp [Low_d, dmT, dm, dm1, pack, zd, ze, zb]) hl ?_ | refine zf (by simp [Low_d, dmT, dm, dm1, pack, zd, ze, zb]) hl ?_)
    exact fin _ (by simp [zcH, hc])
theorem zlS {σ : List AObj} {id id2 : Nat} {L : List (List UInt8)} {G : List TSign} {b : List zk} (hT : σ[id]? = some (rtO L)) (hG : σ[id2]? = some (rlO G)) (hL : TabI L) (hGl : G.length ≤ 1073741824)
    (hx : ∀ s ∈ b, opSz s.op ≤ 20971520) (hbl : b.length ≤ 1073741824) {K : AV → List AObj → Prop} (hK : K (.d (.bool (zcL L G b))) σ) : ACall Tryz.prog zde [.box id 0, .box id2 0, .d (.slice (zaO b))] σ K := by
  refine zo ziu rfl fun hl _ => zkC ?_
  have hok : okB b := ⟨hbl, fun s hs => sizes (hx s hs)⟩
  simp only [zfE]
  (repeat' (first | (refine gq1 ?_; try with_reducible exact True.intro) | ((with_reducible refine And.intro ?_ ?_); focus (first | omega | rfl | decide | (simp; done)))))
  refine zfs hok ?_
  by_cases hc : zA b = 0
  · have hq : (zA b != 0) = false := by simpa using hc
    rw [zcL, decide_eq_true hc, Bool.true_and] at hK
    (repeat' (first | (refine gq2 hq ?_; try with_reducible exact True.intro) | ((with_reducible refine And.intro ?_ ?_); focus (first | omega | rfl | decide | (simp; done)))))
    refine zU b.length (fun k vs s => vs = [.d (.int .i64 k)] ∧ s = σ ∧ (b.take k).any (fun s => !zcH L G s) = false) ⟨rfl, rfl, by simp⟩ ?_
    rintro k vs S hk ⟨rfl, rfl, hno⟩
    by_cases hlt : k < b.length
    · have hd : decide ((k : Int) < (b.length : Int)) = true := by simp; omega
      have hy : b[k]? = some b[k] := by simp [hlt]
      have hgx := zas (f := zaJ) hy
      have hxx := hx _ (List.getElem_mem hlt)
      obtain ⟨x, hxe⟩ : ∃ x, b[k] = x := ⟨_, rfl⟩
      rw [hxe] at hy hgx hxx
      (repeat' (first | (refine gq41 (gqc0 hd hgx) ?_; try with_reducible exact True.intro) | ((with_reducible refine And.intro ?_ ?_); focus (first | omega | rfl | decide | (simp; done)))))
      refine c_rqrValid (s := x) hT hG hL hGl hxx ?_
      cases hv : zcH L G x
      · rw [any_mem hy (by simp [hv])] at hK
        (repeat' (first | (refine gq1 ?_; try with_reducible exact True.intro) | ((with_reducible refine And.intro ?_ ?_); focus (first | omega | rfl | decide | (simp; done)))))
        (first | refine zg (by simp [Low_d, dmT, dm, dm1, pack, zd, ze, zb]) hl ?_ | refine zf (by simp [Low_d, dmT, dm, dm1, pack, zd, ze, zb]) hl ?_)
        exact hK
      · (repeat' (first | (refine gq2 (wk1 k (by omega)) ?_; try with_reducible exact True.intro) | ((with_reducible refine And.intro ?_ ?_); focus (first | omega | rfl | decide | (simp; done)))))
        exact Again.next hlt ⟨rfl, rfl, any_take hy hno (by simp [hv])⟩
    · have hd : decide ((k : Int) < (b.length : Int)) = false := by simp; omega
      rw [List.take_of_length_le (by omega)] at hno
      rw [hno] at hK
      (repeat' (first | (refine gq2 hd ?_; try with_reducible exact True.intro) | ((with_reducible refine And.intro ?_ ?_); focus (first | omega | rfl | decide | (simp; done)))))
      (first | refine zg (by simp [Low_d, dmT, dm, dm1, pack, zd, ze, zb]) hl ?_ | refine zf (by simp [Low_d, dmT, dm, dm1, pack, zd, ze, zb]) hl ?_)
      exact hK
  · have hq : (zA b != 0) = true := by simpa using hc
    rw [zcL, decide_eq_false hc, Bool.false_and] at hK
    (repeat' (first | (refine gq2 hq ?_; try with_reducible exact True.intro) | ((with_reducible refine And.intro ?_ ?_); focus (first | omega | rfl | decide | (simp; done)))))
    (first | refine zg (by simp [Low_d, dmT, dm, dm1, pack, zd, ze, zb]) hl ?_ | refine zf (by simp [Low_d, dmT, dm, dm1, pack, zd, ze, zb]) hl ?_)
    exact hK
theorem gq47 {P Q : Prop} (h : Q) (e : P = Q := by simp -dsimp only [↓zae, ↓loopL, ↓binC, ↓unC, ↓zL, ↓zD, ↓zE, ↓zF, ↓zP, ↓lenC, ↓slcC, ↓convC, ↓boxC, ↓zH, ↓loadC, ↓zp, ↓nilC, ↓zh, ↓zV, ↓zr, ↓idxSC, ↓idxAC, ↓zi, ↓zG, ↓zl, ↓zt, ↓zZ, ↓maxC, ↓minC, ↓zab, ↓zac, ↓mgetC, ↓msetC, ↓mdelC, ↓zn, ↓zW, ↓zC, ↓zq, ↓zN, binA, intOp, strOp, unA, esOf, bnd, intV, zR, fillV, srcE, dm, dm1, consO, cellA, maxL, minL, keepO, Q0, Q1, Q2, Q3, Q4, Q5, zK, zm, zw, zx, zy, Q6, Q7, Q8, Q9, Q10, Q11, Q12, Q13, Q14, Nat.reduceAdd, Q15, Int.reduceToNat, Q16, Q17, Q18, Q19, Q20, reduceIte, Q21, Q22, zu, rep, zO, toDs, toD, zaa, Q23, Q24, Q25, Q26, Q27, Q28, Nat.reduceLeDiff, Q29, Nat.reduceSub, Q30, Q31, Q32, sc, Q33, Q34, Q35, Q36, Q37, Q26, Q38, Q39, n0gt, n1gt, n2gt, n0eq, n1eq0, n1eq, n2eq, n0ne, n1ne, n1ne0, n0ne1, i0ne, i0eq, Bool.not_true, Bool.not_false, List.length_map, beq_self_eq_true, bne_self_eq_false]; rfl) : P := e.mpr h
theorem c_rqrDigest {σ : List AObj} {id : Nat} {L : List (List UInt8)} {l : List zk} (hT : σ[id]? = some (rtO L)) (hL : TabI L)
    (hx : ∀ s ∈ l, opSz s.op ≤ 20971520) (hll : l.length ≤ 1073741824) {K : AV → List AObj → Prop} (hK : K (.tup [.d (.int .i64 (digD L l)), .d (.int .i64 (digE L l))]) (σ.set id (rtO (digL L l)))) :
    ACall Tryz.prog zgc [.box id 0, .d (.slice (zaO l))] σ K := by
  refine zo zmC rfl fun hl _ => s_r08_Digest ?_
  have hok : okB l := ⟨hll, fun s hs => sizes (hx s hs)⟩
  simp only [zkw]
  (repeat' (first | (refine gq1 ?_; try with_reducible exact True.intro) | ((with_reducible refine And.intro ?_ ?_); focus (first | omega | rfl | decide | (simp; done)))))
  refine zfs hok ?_
  by_cases hc : zA l = 0
  · have hq : (zA l != 0) = false := by simpa using hc
    have hbl := zhn hx
    have hc' : ¬ zA l ≠ 0 := by simpa using hc
    rw [show digD L l = sumN L (zcJ l) from if_neg hc', show digL L l = sumL L (zcJ l) from if_neg hc', show digE L l = if sumN L (zcJ l) = 0 then 6 else 0 from if_neg hc'] at hK
    (repeat' (first | (refine gq2 hq ?_; try with_reducible exact True.intro) | ((with_reducible refine And.intro ?_ ?_); focus (first | omega | rfl | decide | (simp; done)))))
    refine zlT (b := []) (by simp) hx hll ?_
    rw [List.nil_append, show zaN l = zcJ l from if_pos hc] at *
    (repeat' (first | (refine gq1 ?_; try with_reducible exact True.intro) | ((with_reducible refine And.intro ?_ ?_); focus (first | omega | rfl | decide | (simp; done)))))
    refine c_rtSum hT (by omega) hL.len ?_
    have hl1 : Lows σ.length (σ.set id (rtO (sumL L (zcJ l)))) := hl.setO (zls _ _)
    by_cases h0 : sumN L (zcJ l) = 0
    · rw [if_pos h0] at hK
      rw [h0] at hK ⊢
      (repeat' (first | (refine gq47 ?_; try with_reducible exact True.intro) | ((with_reducible refine And.intro ?_ ?_); focus (first | omega | rfl | decide | (simp; done)))))
      refine ends_all0 (by simp) ?_ hl1 ?_
      · simp [Low_d, dmT, dm, dm1, pack, zd]
      · exact hK
    · rw [if_neg h0] at hK
      have h0' : (sumN L (zcJ l) == 0) = false := by simpa using h0
      (repeat' (first | (refine gq2 h0' ?_; try with_reducible exact True.intro) | ((with_reducible refine And.intro ?_ ?_); focus (first | omega | rfl | decide | (simp; done)))))
      refine ends_all0 (by simp) ?_ hl1 ?_
      · simp [Low_d, dmT, dm, dm1, pack, zd]
      · exact hK
  · have hq : (zA l != 0) = true := by simpa using hc
    rw [digD, digE, digL, if_pos hc, if_pos hc, if_pos hc, zaX hT] at hK
    (repeat' (first | (refine gq2 hq ?_; try with_reducible exact True.intro) | ((with_reducible refine And.intro ?_ ?_); focus (first | omega | rfl | decide | (simp; done)))))
    (first | refine zg (by simp [Low_d, dmT, dm, dm1, pack, zd, ze, zb]) hl ?_ | refine zf (by simp [Low_d, dmT, dm, dm1, pack, zd, ze, zb]) hl ?_)
    exact hK
end Go.Proofs.YtcappjcojggehaaGreat
