/- Contracts: what the document says of sealed requests. -/
import Derived.Test.YtcappjcojggehaaGreatRq4
set_option linter.all false
set_option maxRecDepth 100000
set_option linter.unusedSimpArgs false
set_option linter.unusedVariables false
namespace Go.Proofs.YtcappjcojggehaaGreat
open Go.AW

theorem c_rqrKey {σ : List zb} {c : Int} {K : AV → List zb → Prop} (hK : K (.d (.int .i64 (znu c))) σ) : zK Tryz.prog zfG [.d (.int .i64 c)] σ K := c_rKey hK
theorem c_rqrSeal {σ : List zb} {id id2 : Nat} {L : List (List UInt8)} {G : List zR} {x : zf} (hT : σ[id]? = some (rtO L)) (hG : σ[id2]? = some (rlO G)) (h1 : id ≠ id2) (hL : zmy L) (hGl : G.length ≤ 1073741824)
    (hx : zfi x.op ≤ 20971520) {K : AV → List zb → Prop}
    (hK : K (.tup [zdL (zon L x), .d (.int .i64 (zll L x))]) ((σ.set id (rtO (sealL L x))).set id2 (rlO (zoo L G x)))) : zK Tryz.prog zii [.box id 0, .box id2 0, reqA x] σ K := by
  refine zi znE.is rfl fun hl _ => znE.goes ?_
  have hsz := zom hx
  simp only [znZ, iN, bT, bF, eN, reqA]
  (repeat' first | refine gq1 ?_ | with_reducible first | exact ⟨⟩ | refine zn ?_ | fail)
  refine zkx (x := x) hx ?_
  by_cases hc : zG x = 0
  · have hb : (zG x != 0) = false := by simpa using hc
    have hrl := zlr (x := x) (by omega) hc
    (repeat' first | refine gq2 hb ?_ | with_reducible first | exact ⟨⟩ | refine zn ?_ | fail)
    refine c_rqrKey ?_
    rw [show zbx x = zje x from if_pos hc]
    (repeat' first | refine gq1 ?_ | with_reducible first | exact ⟨⟩ | refine zn ?_ | fail)
    refine c_rtSum (zE hT) (by omega) hL.len ?_
    rw [zbO hT]
    simp only [sealL, zoo, hc, ne_eq, not_true_eq_false, if_false] at hK
    have e1 : zll L x = zdm (znu x.client) (zhs L (zje x)) := by rw [zll, if_neg (by simpa using hc)]
    rw [e1] at hK
    have hl1 : zfz σ.length (σ.set id (rtO (zjc L (zje x)))) := hl.setO (zlE _ _)
    have hs1 : (σ.set id (rtO (zjc L (zje x)))).length = σ.length := by simp
    have hG1 : (σ.set id (rtO (zjc L (zje x))))[id2]? = some (rlO G) := by rw [List.getElem?_set_ne h1]; exact hG
    obtain ⟨S1, hS1⟩ : ∃ S1, σ.set id (rtO (zjc L (zje x))) = S1 := ⟨_, rfl⟩
    rw [hS1] at hK hG1 hs1 hl1 ⊢
    have r1 : σ.length = S1.length := hs1.symm
    (repeat' first | refine gq2 r1 ?_ | with_reducible first | exact ⟨⟩ | refine zn ?_ | fail)
    refine c_rgSign (zE hG1) hGl ?_
    rw [zbO hG1]
    obtain ⟨N, hN⟩ : ∃ N, zdm (znu x.client) (zhs L (zje x)) = N := ⟨_, rfl⟩
    have hl2 : zfz σ.length (S1.set id2 (rlO (zeB G (znu x.client) (zhs L (zje x))))) := hl1.setO (zos _ _)
    have hs2 : (S1.set id2 (rlO (zeB G (znu x.client) (zhs L (zje x))))).length = S1.length := by simp
    obtain ⟨S2, hS2⟩ : ∃ S2, S1.set id2 (rlO (zeB G (znu x.client) (zhs L (zje x)))) = S2 := ⟨_, rfl⟩
    rw [hS2] at hK hs2 hl2 ⊢
    have r2 : σ.length = S2.length := by rw [r1]; exact hs2.symm
    have r3 : S1.length = S2.length := hs2.symm
    rw [r2] at hl2
    rw [hN] at hK ⊢
    simp only [zlD]
    by_cases hN0 : N = 0
    · have hq : (N != 0) = false := by simpa using hN0
      have e2 : zon L x = ⟨x.client, x.time, x.op, znu x.client, zhs L (zje x)⟩ := by rw [zon, if_pos (by rw [e1, hN, hN0])]
      have e3 : signR (znu x.client) (zhs L (zje x)) = ⟨znu x.client, zhs L (zje x)⟩ := by rw [signR, if_pos (by rw [hN, hN0])]
      rw [e2] at hK
      rw [e3]
      (repeat' first | refine gq2 (zp hq (zp r2 r3)) ?_ | with_reducible first | exact ⟨⟩ | refine zn ?_ | fail)
      rw [hN0] at hK
      refine zfm rfl ?_ hl2 ?_
      · simp [zhr, dmT, dm, dm1, zcV, zej, zgI]
      · exact hK
    · have hq : (N != 0) = true := by simpa using hN0
      have e2 : zon L x = noSg := by rw [zon, if_neg (by rw [e1, hN]; exact hN0)]
      rw [e2] at hK
      rw [show signR (znu x.client) (zhs L (zje x)) = ⟨0, 0⟩ from by rw [signR, if_neg (by rw [hN]; exact hN0)]]
      (repeat' first | refine gq2 (zp hq (zp r2 r3)) ?_ | with_reducible first | exact ⟨⟩ | refine zn ?_ | fail)
      refine zfm rfl ?_ hl2 ?_
      · simp [zhr, dmT, dm, dm1, zcV, zej, zgI]
      · exact hK
  · have hb : (zG x != 0) = true := by simpa using hc
    have e1 : zll L x = zG x := if_pos hc
    have e2 : zon L x = noSg := by rw [zon, if_neg (by rw [e1]; exact hc)]
    rw [e1, e2, sealL, zoo, if_pos hc, if_pos hc, zbE hT, zbE hG] at hK
    (repeat' first | refine gq2 hb ?_ | with_reducible first | exact ⟨⟩ | refine zn ?_ | fail)
    (first | refine zai hl ?_ | refine zah hl ?_)
    exact hK
theorem gq46 {A P Q : Prop} (a : A) (h : Q) (e : A → P = Q := by intro a; simp -dsimp only [↓zcS, ↓zal, ↓zaI, ↓zcT, ↓zcN, ↓zcL, ↓zcO, ↓zcM, ↓zaN, ↓zaJ, ↓zaO, ↓zaK, ↓zcP, ↓zaH, ↓zaP, ↓zaL, ↓zaQ, ↓zaM, ↓zcK, ↓zcQ, ↓zaG, ↓zaR, ↓zcH, ↓zcG, ↓zcJ, iN, bT, bF, eN, ↓zbI, ↓unC, ↓zJ, ↓zx, ↓zy, ↓zC, ↓zQ, ↓zaA, ↓zbD, ↓zaa, ↓zbg, ↓zU, ↓zl, ↓zu, ↓zba, ↓ze, ↓zY, ↓zH, ↓zap, ↓zaw, ↓zc, ↓zD, ↓zj, ↓zo, ↓zad, ↓zbM, ↓zbX, ↓zaf, ↓zaj, ↓zar, ↓zax, ↓zaC, ↓zh, ↓zZ, ↓zB, ↓zk, ↓zO, zbS, zaF, zaD, unA, zcd, bnd, zcp, zT, zag, zcs, dm, dm1, zN, zaq, zcv, zcu, zL, Q0, Q1, Q2, Q3, Q4, Q5, zI, zg, zr, zt, zw, Q6, Q7, Q8, Q9, Q10, Q11, Q12, Q13, Q14, Nat.reduceAdd, Q15, Int.reduceToNat, Q16, Q17, Q18, Q19, Q20, reduceIte, Q21, Q22, zq, rep, zP, zcI, toD, zae, Q23, Q24, Q25, Q26, Q27, Q28, Nat.reduceLeDiff, Q29, Nat.reduceSub, Q30, Q31, Q32, sc, Q33, Q34, Q35, Q36, Q37, Q26, Q38, Q39, zfN, zfK, zfH, zfO, zbV, zfL, zfI, zfM, zfJ, zbU, zbW, zfQ, zfR, Bool.not_true, Bool.not_false, List.length_map, Option.isSome_some, a]; rfl) : P := (e a).mpr h
theorem c_rqrValid {σ : List zb} {id id2 : Nat} {L : List (List UInt8)} {G : List zR} {s : zf} (hT : σ[id]? = some (rtO L)) (hG : σ[id2]? = some (rlO G)) (hL : zmy L) (hGl : G.length ≤ 1073741824)
    (hx : zfi s.op ≤ 20971520) {K : AV → List zb → Prop} (hK : K (.d (.bool (zdD L G s))) σ) : zK Tryz.prog ziN [.box id 0, .box id2 0, zdL s] σ K := by
  refine zi zme.is rfl fun hl _ => zme.goes ?_
  have fin : ∀ z, zdD L G s = z → K (.d (.bool z)) σ := fun z h => h ▸ hK
  clear hK
  simp only [zmE, iN, bT, bF, eN, zdL]
  (repeat' first | refine gq1 ?_ | with_reducible first | exact ⟨⟩ | refine zn ?_ | fail)
  refine zkx (x := s) hx ?_
  by_cases hc : zG s = 0
  · have hb : (zG s != 0) = false := by simpa using hc
    rw [show zbx s = zje s from if_pos hc]
    (repeat' first | refine gq2 hb ?_ | with_reducible first | exact ⟨⟩ | refine zn ?_ | fail)
    refine c_rqrKey ?_
    cases h1 : (s.key != znu s.client)
    · (repeat' first | refine gq2 h1 ?_ | with_reducible first | exact ⟨⟩ | refine zn ?_ | fail)
      refine zlu (zE hT) hL.len ?_
      cases ho : zcX L (zje s) with
      | none =>
        (repeat' first | refine gq7 ?_ | with_reducible first | exact ⟨⟩ | refine zn ?_ | fail)
        (first | refine zai hl ?_ | refine zah hl ?_)
        exact fin _ (by simp [zdD, ho])
      | some i =>
        simp only [zmT]
        cases h2 : (((i + 1 : Nat) : Int) == s.dig)
        · (repeat' first | refine gq46 h2 ?_ | with_reducible first | exact ⟨⟩ | refine zn ?_ | fail)
          (first | refine zai hl ?_ | refine zah hl ?_)
          exact fin _ (by simp at h1 h2; simp [zdD, ho, h1]; intro _ h; omega)
        · (repeat' first | refine gq46 h2 ?_ | with_reducible first | exact ⟨⟩ | refine zn ?_ | fail)
          refine zky (s := ⟨s.key, s.dig⟩) (zE hG) hGl ?_
          (repeat' first | refine gq1 ?_ | with_reducible first | exact ⟨⟩ | refine zn ?_ | fail)
          (first | refine zai hl ?_ | refine zah hl ?_)
          refine fin _ ?_
          have h2' : s.dig = ((i + 1 : Nat) : Int) := by have := eq_of_beq h2; exact this.symm
          have h1' : s.key = znu s.client := by simpa using h1
          simp [zdD, ho, hc, h1', h2']
    · (repeat' first | refine gq2 h1 ?_ | with_reducible first | exact ⟨⟩ | refine zn ?_ | fail)
      (first | refine zai hl ?_ | refine zah hl ?_)
      refine fin _ ?_
      have h1' : ¬ s.key = znu s.client := by simpa using h1
      simp only [zdD]
      cases zcX L (zje s) <;> simp [h1']
  · have hb : (zG s != 0) = true := by simpa using hc
    (repeat' first | refine gq2 hb ?_ | with_reducible first | exact ⟨⟩ | refine zn ?_ | fail)
    (first | refine zai hl ?_ | refine zah hl ?_)
    exact fin _ (by simp [zdD, hc])
theorem zmp {σ : List zb} {id id2 : Nat} {L : List (List UInt8)} {G : List zR} {b : List zf} (hT : σ[id]? = some (rtO L)) (hG : σ[id2]? = some (rlO G)) (hL : zmy L) (hGl : G.length ≤ 1073741824)
    (hx : ∀ s ∈ b, zfi s.op ≤ 20971520) (hbl : b.length ≤ 1073741824) {K : AV → List zb → Prop} (hK : K (.d (.bool (zdJ L G b))) σ) : zK Tryz.prog zed [.box id 0, .box id2 0, .d (.slice (zbu b))] σ K := by
  refine zi zgL.is rfl fun hl _ => zgL.goes ?_
  have hok : okB b := ⟨hbl, fun s hs => zom (hx s hs)⟩
  simp only [zgZ, iN, bT, bF, eN]
  (repeat' first | refine gq1 ?_ | with_reducible first | exact ⟨⟩ | refine zn ?_ | fail)
  refine zgE hok ?_
  by_cases hc : zA b = 0
  · have hq : (zA b != 0) = false := by simpa using hc
    rw [zdJ, decide_eq_true hc, Bool.true_and] at hK
    (repeat' first | refine gq2 hq ?_ | with_reducible first | exact ⟨⟩ | refine zn ?_ | fail)
    refine zX b.length (fun k vs s => vs = [.d (.int .i64 k)] ∧ s = σ ∧ (b.take k).any (fun s => !zdD L G s) = false) ⟨rfl, rfl, by simp⟩ ?_
    rintro k vs S hk ⟨rfl, rfl, hno⟩
    by_cases hlt : k < b.length
    · have hd : decide ((k : Int) < (b.length : Int)) = true := by simp; omega
      have hy : b[k]? = some b[k] := by simp [hlt]
      have hgx := zaS (f := zbo) hy
      have hxx := hx _ (List.getElem_mem hlt)
      obtain ⟨x, hxe⟩ : ∃ x, b[k] = x := ⟨_, rfl⟩
      rw [hxe] at hy hgx hxx
      (repeat' first | refine zoE (zp hd hgx) ?_ | with_reducible first | exact ⟨⟩ | refine zn ?_ | fail)
      refine c_rqrValid (s := x) hT hG hL hGl hxx ?_
      cases hv : zdD L G x
      · rw [any_mem hy (by simp [hv])] at hK
        (repeat' first | refine gq1 ?_ | with_reducible first | exact ⟨⟩ | refine zn ?_ | fail)
        (first | refine zai hl ?_ | refine zah hl ?_)
        exact hK
      · (repeat' first | refine gq2 (wk1 k (by omega)) ?_ | with_reducible first | exact ⟨⟩ | refine zn ?_ | fail)
        exact zbh.next hlt ⟨rfl, rfl, any_take hy hno (by simp [hv])⟩
    · have hd : decide ((k : Int) < (b.length : Int)) = false := by simp; omega
      rw [List.take_of_length_le (by omega)] at hno
      rw [hno] at hK
      (repeat' first | refine gq2 hd ?_ | with_reducible first | exact ⟨⟩ | refine zn ?_ | fail)
      (first | refine zai hl ?_ | refine zah hl ?_)
      exact hK
  · have hq : (zA b != 0) = true := by simpa using hc
    rw [zdJ, decide_eq_false hc, Bool.false_and] at hK
    (repeat' first | refine gq2 hq ?_ | with_reducible first | exact ⟨⟩ | refine zn ?_ | fail)
    (first | refine zai hl ?_ | refine zah hl ?_)
    exact hK
theorem gq47 {P Q : Prop} (h : Q) (e : P = Q := by simp -dsimp only [↓zcS, ↓zal, ↓zaI, ↓zcT, ↓zcN, ↓zcL, ↓zcO, ↓zcM, ↓zaN, ↓zaJ, ↓zaO, ↓zaK, ↓zcP, ↓zaH, ↓zaP, ↓zaL, ↓zaQ, ↓zaM, ↓zcK, ↓zcQ, ↓zaG, ↓zaR, ↓zcH, ↓zcG, ↓zcJ, iN, bT, bF, eN, ↓zbI, ↓unC, ↓zJ, ↓zx, ↓zy, ↓zC, ↓zQ, ↓zaA, ↓zbD, ↓zaa, ↓zbg, ↓zU, ↓zl, ↓zu, ↓zba, ↓ze, ↓zY, ↓zH, ↓zap, ↓zaw, ↓zc, ↓zD, ↓zj, ↓zo, ↓zad, ↓zbM, ↓zbX, ↓zaf, ↓zaj, ↓zar, ↓zax, ↓zaC, ↓zh, ↓zZ, ↓zB, ↓zk, ↓zO, zbS, zaF, zaD, unA, zcd, bnd, zcp, zT, zag, zcs, dm, dm1, zN, zaq, zcv, zcu, zL, Q0, Q1, Q2, Q3, Q4, Q5, zI, zg, zr, zt, zw, Q6, Q7, Q8, Q9, Q10, Q11, Q12, Q13, Q14, Nat.reduceAdd, Q15, Int.reduceToNat, Q16, Q17, Q18, Q19, Q20, reduceIte, Q21, Q22, zq, rep, zP, zcI, toD, zae, Q23, Q24, Q25, Q26, Q27, Q28, Nat.reduceLeDiff, Q29, Nat.reduceSub, Q30, Q31, Q32, sc, Q33, Q34, Q35, Q36, Q37, Q26, Q38, Q39, zfN, zfK, zfH, zfO, zbV, zfL, zfI, zfM, zfJ, zbU, zbW, zfQ, zfR, Bool.not_true, Bool.not_false, List.length_map, beq_self_eq_true, bne_self_eq_false]; rfl) : P := e.mpr h
theorem c_rqrDigest {σ : List zb} {id : Nat} {L : List (List UInt8)} {l : List zf} (hT : σ[id]? = some (rtO L)) (hL : zmy L)
    (hx : ∀ s ∈ l, zfi s.op ≤ 20971520) (hll : l.length ≤ 1073741824) {K : AV → List zb → Prop} (hK : K (.tup [.d (.int .i64 (digD L l)), .d (.int .i64 (digE L l))]) (σ.set id (rtO (digL L l)))) :
    zK Tryz.prog zhA [.box id 0, .d (.slice (zbu l))] σ K := by
  refine zi zkT.is rfl fun hl _ => zkT.goes ?_
  have hok : okB l := ⟨hll, fun s hs => zom (hx s hs)⟩
  simp only [zlf, iN, bT, bF, eN]
  (repeat' first | refine gq1 ?_ | with_reducible first | exact ⟨⟩ | refine zn ?_ | fail)
  refine zgE hok ?_
  by_cases hc : zA l = 0
  · have hq : (zA l != 0) = false := by simpa using hc
    have hbl := ziD hx
    have hc' : ¬ zA l ≠ 0 := by simpa using hc
    rw [show digD L l = zhs L (zdH l) from if_neg hc', show digL L l = zjc L (zdH l) from if_neg hc', show digE L l = if zhs L (zdH l) = 0 then 6 else 0 from if_neg hc'] at hK
    (repeat' first | refine gq2 hq ?_ | with_reducible first | exact ⟨⟩ | refine zn ?_ | fail)
    refine zmq (b := []) (by simp) hx hll ?_
    rw [List.nil_append, show zbt l = zdH l from if_pos hc] at *
    (repeat' first | refine gq1 ?_ | with_reducible first | exact ⟨⟩ | refine zn ?_ | fail)
    refine c_rtSum hT (by omega) hL.len ?_
    have hl1 : zfz σ.length (σ.set id (rtO (zjc L (zdH l)))) := hl.setO (zlE _ _)
    by_cases h0 : zhs L (zdH l) = 0
    · rw [if_pos h0] at hK
      rw [h0] at hK ⊢
      (repeat' first | refine gq47 ?_ | with_reducible first | exact ⟨⟩ | refine zn ?_ | fail)
      refine ends_all0 (by simp) ?_ hl1 ?_
      · simp [zhr, dmT, dm, dm1, zcV, zej]
      · exact hK
    · rw [if_neg h0] at hK
      have h0' : (zhs L (zdH l) == 0) = false := by simpa using h0
      (repeat' first | refine gq2 h0' ?_ | with_reducible first | exact ⟨⟩ | refine zn ?_ | fail)
      refine ends_all0 (by simp) ?_ hl1 ?_
      · simp [zhr, dmT, dm, dm1, zcV, zej]
      · exact hK
  · have hq : (zA l != 0) = true := by simpa using hc
    rw [digD, digE, digL, if_pos hc, if_pos hc, if_pos hc, zbE hT] at hK
    (repeat' first | refine gq2 hq ?_ | with_reducible first | exact ⟨⟩ | refine zn ?_ | fail)
    (first | refine zai hl ?_ | refine zah hl ?_)
    exact hK
end Go.Proofs.YtcappjcojggehaaGreat
