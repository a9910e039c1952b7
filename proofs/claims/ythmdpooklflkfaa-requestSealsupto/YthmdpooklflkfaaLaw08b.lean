/- The law RequestSeals, from the contracts. -/
import Derived.Test.YthmdpooklflkfaaLaw08a
set_option linter.all false
set_option maxRecDepth 100000
set_option linter.unusedSimpArgs false
set_option linter.unusedVariables false
namespace Go.Proofs.Ythmdpooklflkfaa
open Go.AW

/-- what stands at the beginning of a round: a table, a ledger, the document's, the end of a row -/
structure zfP (σ : List AObj) (a : Nat) (x0 : AObj) (s : List AObj) (L : List (List UInt8)) (G : List TSign) (n : Nat) : Prop where
  tl : TLs a s L G
  rt : s[a + 6]? = some (rtO L)
  rl : s[a + 7]? = some (rlO G)
  tk : s[a + 8]? = some (.tok 9 n)
  bx : s[σ.length]? = some x0
  pre : ∃ T, s = σ ++ T
theorem zjd {σ s : List AObj} {i : Nat} (h : ∃ T, s = σ ++ T) (hi : σ.length ≤ i) (x : AObj) : ∃ T, s.set i x = σ ++ T := by
  obtain ⟨T, rfl⟩ := h
  exact ⟨_, List.set_append_right _ _ hi⟩
theorem TLs.set {a i : Nat} {s : List AObj} {L : List (List UInt8)} {G : List TSign} (h : TLs a s L G) (hi : a + 6 ≤ i) (x : AObj) : TLs a (s.set i x) L G := by
  refine ⟨⟨?_, ?_, ?_⟩, ⟨?_, ?_, ?_⟩⟩ <;> rw [List.getElem?_set_ne (by omega)]
  · exact h.tab.box
  · exact h.tab.map
  · exact h.tab.tok
  · exact h.led.box
  · exact h.led.map
  · exact h.led.tok
theorem zfP.put {σ : List AObj} {a : Nat} {x0 : AObj} {s : List AObj} {L : List (List UInt8)} {G : List TSign} {n : Nat} (h : zfP σ a x0 s L G n) (ha : a = σ.length + 1) (L' : List (List UInt8)) (G' : List TSign) :
    zfP σ a x0 (((putTL a s L' G').set (a + 6) (rtO L')).set (a + 7) (rlO G')) L' G' n := by
  have hn : ∀ k, k < a ∨ a + 6 ≤ k → (putTL a s L' G')[k]? = s[k]? := fun k hk => zgL hk L' G'
  have h6 := zbA h.rt
  have h7 := zbA h.rl
  have hl := zjc a s L' G'
  obtain ⟨T, hT⟩ := h.pre
  have hp := zgK (a := a) (σ := σ) (T := T) (by omega) L' G'
  rw [← hT] at hp
  refine ⟨((h.tl.put L' G').set (by omega) _).set (by omega) _, ?_, ?_, ?_, ?_, zjd (zjd hp (by omega) _) (by omega) _⟩
  · rw [List.getElem?_set_ne (by omega), List.getElem?_set_self (by omega)]
  · rw [List.getElem?_set_self (by simp; omega)]
  · rw [List.getElem?_set_ne (by omega), List.getElem?_set_ne (by omega), hn _ (by omega)]; exact h.tk
  · rw [List.getElem?_set_ne (by omega), List.getElem?_set_ne (by omega), hn _ (by omega)]; exact h.bx
theorem zfP.grow {σ : List AObj} {a : Nat} {x0 : AObj} {s : List AObj} {L : List (List UInt8)} {G : List TSign} {n : Nat} (h : zfP σ a x0 s L G n) (ha : a = σ.length + 1) (n' : Nat) : zfP σ a x0 (s.set (a + 8) (.tok 9 n')) L G n' := by
  have h8 := zbA h.tk
  refine ⟨h.tl.set (by omega) _, ?_, ?_, ?_, ?_, zjd h.pre (by omega) _⟩
  · rw [List.getElem?_set_ne (by omega)]; exact h.rt
  · rw [List.getElem?_set_ne (by omega)]; exact h.rl
  · rw [List.getElem?_set_self (by omega)]
  · rw [List.getElem?_set_ne (by omega)]; exact h.bx
theorem zfP.app {σ : List AObj} {a : Nat} {x0 : AObj} {s : List AObj} {L : List (List UInt8)} {G : List TSign} {n : Nat} (h : zfP σ a x0 s L G n) (τ : List AObj) : zfP σ a x0 (s ++ τ) L G n := by
  obtain ⟨T, hT⟩ := h.pre
  exact ⟨h.tl.app τ, zae h.rt, zae h.rl, zae h.tk, zae h.bx, ⟨T ++ τ, by rw [hT, List.append_assoc]⟩⟩
theorem seal_sz {L : List (List UInt8)} {x : zR} (hx : opSz x.op ≤ 20971520) : opSz (sealS L x).op ≤ 20971520 := by
  unfold sealS
  split
  · exact hx
  · decide
theorem small1 {x : zR} (hx : opSz x.op ≤ 20971520) : smallB [x] := by
  have := sizes hx
  exact ⟨by simp, by simpa using ⟨this.2.2.1, this.2.2.2⟩⟩
def zdM : List (Bool × List Ty) := [(false, [.slice tyReq]), (true, ziN), (false, [.slice ziN])]
theorem ziF (xs : List AV) (n : Nat) (hn : n ≤ 1048576) (h : ArgsOk zdM xs n) : ACall Try.prog zcf xs [] fun r _ => r = .d (.bool true) := by
  obtain ⟨ds, xs1, m1, hf, hb1, rfl, h⟩ := h
  obtain ⟨d, rfl, h1⟩ := one_of hf
  obtain ⟨l, rfl, _⟩ := dec_reqs h1
  obtain ⟨ds, xs2, m2, hf, hb2, rfl, h⟩ := h
  obtain ⟨s0, rfl, _⟩ := zky hf
  obtain ⟨ds, xs3, m3, hf, hb3, rfl, rfl⟩ := h
  obtain ⟨d, rfl, h1⟩ := one_of hf
  obtain ⟨b, rfl⟩ := dec_batch h1
  obtain ⟨hlz, hll⟩ := reqs_sz (b := l) (n := 1048576) (by simp only [bulkL, bulkD] at hb1; omega) (by omega)
  obtain ⟨hbz, hbl⟩ := batch_sz (b := b) (n := 1048576) (by simp only [bulkL, bulkD] at hb3; omega) (by omega)
  have hsz := zkg (x := s0) (n := 1048576) (by omega) (by omega)
  show ACall Try.prog zcf [.d (.slice (reqsE l)), zbC s0, .d (.slice (zbq b))] [] _
  clear hb1 hb2 hb3 hf h1
  generalize ([] : List AObj) = σ
  refine zU zfF rfl fun hl _ => zgD ?_
  simp only [zdw, zbC]
  (repeat' (first | simp -dsimp only [↓zM, ↓loopL, ↓binC, ↓unC, ↓zr, ↓zj, ↓zk, ↓zl, ↓zu, ↓lenC, ↓slcC, ↓convC, ↓boxC, ↓zC, ↓loadC, ↓zx, ↓nilC, ↓zm, ↓zG, ↓zy, ↓idxSC, ↓idxAC, ↓zd, ↓zA, ↓zf, ↓zo, ↓zJ, ↓maxC, ↓minC, ↓zK, ↓zL, ↓mgetC, ↓msetC, ↓mdelC, ↓zb, ↓zH, ↓zi, ↓zc, ↓zt, binA, intOp, strOp, unA, esOf, bnd, intV, zF, fillV, srcE, dm, dm1, consO, cellA, maxL, minL, keepO, Q0, Q1, Q2, Q3, Q4, Q5, zw, zp, zg, zq, zh, Q6, Q7, Q8, Q9, Q10, Q11, Q12, Q13, Q14, Nat.reduceAdd, Q15, Int.reduceToNat, Q16, Q17, Q18, Q19, Q20, reduceIte, Q21, Q22, ze, rep, zN, toDs, toD, zO, Q23, Q24, Q25, Q26, Q27, Q28, Nat.reduceLeDiff, Q29, Nat.reduceSub, Q30, Q31, Q32, sc, Q33, Q34, Q35, Q36, Q37, Q26, Q38, Q39, n0gt, n1gt, n2gt, n0eq, n1eq0, n1eq, n2eq, n0ne, n1ne, n1ne0, n0ne1, i0ne, i0eq, Bool.not_true, Bool.not_false, List.length_map] | ((with_reducible refine And.intro ?_ ?_); focus (first | omega | rfl | decide | (simp; done)))))
  refine c_newTL fun T hT6 hTL => ?_
  have hsl : (σ ++ [AObj.box [AV.d (D.int IntKind.i64 s0.client), AV.d (D.int IntKind.i64 s0.time), AV.d (D.int IntKind.i64 s0.op.kind), AV.d (D.str s0.op.topic), AV.d (D.str s0.op.group), AV.d (D.int IntKind.i64 s0.op.offset), AV.d (D.slice (recsE s0.op.recs)), AV.d (D.int IntKind.i64 s0.key), AV.d (D.int IntKind.i64 s0.dig)]]).length = σ.length + 1 := by simp
  obtain ⟨a, ha⟩ : ∃ a, a = σ.length + 1 := ⟨_, rfl⟩
  rw [hsl, ← ha] at hTL ⊢
  have hpre : ∃ T', σ ++ [AObj.box [AV.d (D.int IntKind.i64 s0.client), AV.d (D.int IntKind.i64 s0.time), AV.d (D.int IntKind.i64 s0.op.kind), AV.d (D.str s0.op.topic), AV.d (D.str s0.op.group), AV.d (D.int IntKind.i64 s0.op.offset), AV.d (D.slice (recsE s0.op.recs)), AV.d (D.int IntKind.i64 s0.key), AV.d (D.int IntKind.i64 s0.dig)]] ++ T = σ ++ T' := ⟨_, List.append_assoc ..⟩
  have hbx : (σ ++ [AObj.box [AV.d (D.int IntKind.i64 s0.client), AV.d (D.int IntKind.i64 s0.time), AV.d (D.int IntKind.i64 s0.op.kind), AV.d (D.str s0.op.topic), AV.d (D.str s0.op.group), AV.d (D.int IntKind.i64 s0.op.offset), AV.d (D.slice (recsE s0.op.recs)), AV.d (D.int IntKind.i64 s0.key), AV.d (D.int IntKind.i64 s0.dig)]] ++ T)[σ.length]? = some (AObj.box [AV.d (D.int IntKind.i64 s0.client), AV.d (D.int IntKind.i64 s0.time), AV.d (D.int IntKind.i64 s0.op.kind), AV.d (D.str s0.op.topic), AV.d (D.str s0.op.group), AV.d (D.int IntKind.i64 s0.op.offset), AV.d (D.slice (recsE s0.op.recs)), AV.d (D.int IntKind.i64 s0.key), AV.d (D.int IntKind.i64 s0.dig)]) := by
    rw [List.append_assoc, zg]; rfl
  have hSl : (σ ++ [AObj.box [AV.d (D.int IntKind.i64 s0.client), AV.d (D.int IntKind.i64 s0.time), AV.d (D.int IntKind.i64 s0.op.kind), AV.d (D.str s0.op.topic), AV.d (D.str s0.op.group), AV.d (D.int IntKind.i64 s0.op.offset), AV.d (D.slice (recsE s0.op.recs)), AV.d (D.int IntKind.i64 s0.key), AV.d (D.int IntKind.i64 s0.dig)]] ++ T).length = a + 6 := by simp; omega
  obtain ⟨S, hS⟩ : ∃ S, σ ++ [AObj.box [AV.d (D.int IntKind.i64 s0.client), AV.d (D.int IntKind.i64 s0.time), AV.d (D.int IntKind.i64 s0.op.kind), AV.d (D.str s0.op.topic), AV.d (D.str s0.op.group), AV.d (D.int IntKind.i64 s0.op.offset), AV.d (D.slice (recsE s0.op.recs)), AV.d (D.int IntKind.i64 s0.key), AV.d (D.int IntKind.i64 s0.dig)]] ++ T = S := ⟨_, rfl⟩
  rw [hS] at hTL hpre hbx hSl ⊢
  clear hS hsl
  (repeat' (first | simp -dsimp only [↓zM, ↓loopL, ↓binC, ↓unC, ↓zr, ↓zj, ↓zk, ↓zl, ↓zu, ↓lenC, ↓slcC, ↓convC, ↓boxC, ↓zC, ↓loadC, ↓zx, ↓nilC, ↓zm, ↓zG, ↓zy, ↓idxSC, ↓idxAC, ↓zd, ↓zA, ↓zf, ↓zo, ↓zJ, ↓maxC, ↓minC, ↓zK, ↓zL, ↓mgetC, ↓msetC, ↓mdelC, ↓zb, ↓zH, ↓zi, ↓zc, ↓zt, binA, intOp, strOp, unA, esOf, bnd, intV, zF, fillV, srcE, dm, dm1, consO, cellA, maxL, minL, keepO, Q0, Q1, Q2, Q3, Q4, Q5, zw, zp, zg, zq, zh, Q6, Q7, Q8, Q9, Q10, Q11, Q12, Q13, Q14, Nat.reduceAdd, Q15, Int.reduceToNat, Q16, Q17, Q18, Q19, Q20, reduceIte, Q21, Q22, ze, rep, zN, toDs, toD, zO, Q23, Q24, Q25, Q26, Q27, Q28, Nat.reduceLeDiff, Q29, Nat.reduceSub, Q30, Q31, Q32, sc, Q33, Q34, Q35, Q36, Q37, Q26, Q38, Q39, n0gt, n1gt, n2gt, n0eq, n1eq0, n1eq, n2eq, n0ne, n1ne, n1ne0, n0ne1, i0ne, i0eq, Bool.not_true, Bool.not_false, List.length_map, hSl] | ((with_reducible refine And.intro ?_ ?_); focus (first | omega | rfl | decide | (simp; done)))))
  refine c_begun8 ?_
  (repeat' (first | simp -dsimp only [↓zM, ↓loopL, ↓binC, ↓unC, ↓zr, ↓zj, ↓zk, ↓zl, ↓zu, ↓lenC, ↓slcC, ↓convC, ↓boxC, ↓zC, ↓loadC, ↓zx, ↓nilC, ↓zm, ↓zG, ↓zy, ↓idxSC, ↓idxAC, ↓zd, ↓zA, ↓zf, ↓zo, ↓zJ, ↓maxC, ↓minC, ↓zK, ↓zL, ↓mgetC, ↓msetC, ↓mdelC, ↓zb, ↓zH, ↓zi, ↓zc, ↓zt, binA, intOp, strOp, unA, esOf, bnd, intV, zF, fillV, srcE, dm, dm1, consO, cellA, maxL, minL, keepO, Q0, Q1, Q2, Q3, Q4, Q5, zw, zp, zg, zq, zh, Q6, Q7, Q8, Q9, Q10, Q11, Q12, Q13, Q14, Nat.reduceAdd, Q15, Int.reduceToNat, Q16, Q17, Q18, Q19, Q20, reduceIte, Q21, Q22, ze, rep, zN, toDs, toD, zO, Q23, Q24, Q25, Q26, Q27, Q28, Nat.reduceLeDiff, Q29, Nat.reduceSub, Q30, Q31, Q32, sc, Q33, Q34, Q35, Q36, Q37, Q26, Q38, Q39, n0gt, n1gt, n2gt, n0eq, n1eq0, n1eq, n2eq, n0ne, n1ne, n1ne0, n0ne1, i0ne, i0eq, Bool.not_true, Bool.not_false, List.length_map, hSl] | ((with_reducible refine And.intro ?_ ?_); focus (first | omega | rfl | decide | (simp; done)))))
  refine zdr l.length (fun k vs s => ∃ L G all, vs = [.own (a + 8) (zbq all), .d (.int .i64 k)] ∧ zfP σ a (AObj.box [AV.d (D.int IntKind.i64 s0.client), AV.d (D.int IntKind.i64 s0.time), AV.d (D.int IntKind.i64 s0.op.kind), AV.d (D.str s0.op.topic), AV.d (D.str s0.op.group), AV.d (D.int IntKind.i64 s0.op.offset), AV.d (D.slice (recsE s0.op.recs)), AV.d (D.int IntKind.i64 s0.key), AV.d (D.int IntKind.i64 s0.dig)]) s L G all.length ∧ TabI L ∧ G.length ≤ k ∧ all.length ≤ k ∧ ∀ x ∈ all, opSz x.op ≤ 20971520)
    (.tok 0 [] 9 rfl (by simp) (.dataB (a + 6) 0 [.exact []] (.exact []) [] (by rw [← hSl, List.append_assoc, zg]; rfl) rfl rfl (.dataB (a + 7) 0 [.exact []] (.exact []) [] (by
      rw [List.getElem?_set_ne (by omega), show a + 7 = S.length + 1 by omega, List.append_assoc, zp]; rfl) rfl rfl (.refl _ _)))) ?_ ?_
  · refine ⟨[], [], [], ?_, ?_, .nil, by simp, by simp, by simp⟩
    · simp only [List.length_append, List.length_cons, List.length_nil, hSl]; rfl
    · rw [show a + 6 = S.length by omega, show a + 7 = S.length + 1 by omega, List.append_assoc, zh, zq]
      obtain ⟨T1, hT1⟩ := hpre
      refine ⟨hTL.app _, by rw [← hSl, zg]; rfl, by rw [show a + 7 = S.length + 1 by omega, zp]; rfl, by rw [show a + 8 = S.length + 2 by omega, zp]; rfl, zae hbx, ⟨_, by rw [hT1, List.append_assoc]⟩⟩
  clear hTL hpre hbx
  rintro k vs s hk ⟨L, G, all, rfl, hI, hL, hGl, hal, haz⟩
  obtain ⟨y0, hy0⟩ : ∃ y0, y0 = AObj.box [AV.d (D.int IntKind.i64 s0.client), AV.d (D.int IntKind.i64 s0.time), AV.d (D.int IntKind.i64 s0.op.kind), AV.d (D.str s0.op.topic), AV.d (D.str s0.op.group), AV.d (D.int IntKind.i64 s0.op.offset), AV.d (D.slice (recsE s0.op.recs)), AV.d (D.int IntKind.i64 s0.key), AV.d (D.int IntKind.i64 s0.dig)] := ⟨_, rfl⟩
  rw [← hy0] at hI ⊢
  by_cases hlt : k < l.length
  · have hd : decide ((k : Int) < (l.length : Int)) = true := by simp; omega
    have hx : l[k]? = some l[k] := by simp [hlt]
    have hgx := zbF (f := reqD) hx
    have hxz := hlz _ (List.getElem_mem hlt)
    obtain ⟨x, hxe⟩ : ∃ x, l[k] = x := ⟨_, rfl⟩
    rw [hxe] at hx hgx hxz
    (repeat' (first | simp -dsimp only [↓zM, ↓loopL, ↓binC, ↓unC, ↓zr, ↓zj, ↓zk, ↓zl, ↓zu, ↓lenC, ↓slcC, ↓convC, ↓boxC, ↓zC, ↓loadC, ↓zx, ↓nilC, ↓zm, ↓zG, ↓zy, ↓idxSC, ↓idxAC, ↓zd, ↓zA, ↓zf, ↓zo, ↓zJ, ↓maxC, ↓minC, ↓zK, ↓zL, ↓mgetC, ↓msetC, ↓mdelC, ↓zb, ↓zH, ↓zi, ↓zc, ↓zt, binA, intOp, strOp, unA, esOf, bnd, intV, zF, fillV, srcE, dm, dm1, consO, cellA, maxL, minL, keepO, Q0, Q1, Q2, Q3, Q4, Q5, zw, zp, zg, zq, zh, Q6, Q7, Q8, Q9, Q10, Q11, Q12, Q13, Q14, Nat.reduceAdd, Q15, Int.reduceToNat, Q16, Q17, Q18, Q19, Q20, reduceIte, Q21, Q22, ze, rep, zN, toDs, toD, zO, Q23, Q24, Q25, Q26, Q27, Q28, Nat.reduceLeDiff, Q29, Nat.reduceSub, Q30, Q31, Q32, sc, Q33, Q34, Q35, Q36, Q37, Q26, Q38, Q39, n0gt, n1gt, n2gt, n0eq, n1eq0, n1eq, n2eq, n0ne, n1ne, n1ne0, n0ne1, i0ne, i0eq, Bool.not_true, Bool.not_false, List.length_map, hd, hgx, reqD, hSl] | ((with_reducible refine And.intro ?_ ?_); focus (first | omega | rfl | decide | (simp; done)))))
    refine c_sealTL (x := x) hI.tl hL (by omega) hxz fun s1 e1 hTL1 hs1 => ?_
    have hI1 := hI.put ha (sealL L x) (sealG L G x)
    have h6 := zbA hI.rt
    have h7 := zbA hI.rl
    have n6 : s1[a + 6]? = some (rtO L) := by rw [hs1, zgL (by omega)]; exact hI.rt
    have n7 : s1[a + 7]? = some (rlO G) := by rw [hs1, zgL (by omega)]; exact hI.rl
    rw [← hs1] at hI1
    simp only [zbC]
    (repeat' (first | simp -dsimp only [↓zM, ↓loopL, ↓binC, ↓unC, ↓zr, ↓zj, ↓zk, ↓zl, ↓zu, ↓lenC, ↓slcC, ↓convC, ↓boxC, ↓zC, ↓loadC, ↓zx, ↓nilC, ↓zm, ↓zG, ↓zy, ↓idxSC, ↓idxAC, ↓zd, ↓zA, ↓zf, ↓zo, ↓zJ, ↓maxC, ↓minC, ↓zK, ↓zL, ↓mgetC, ↓msetC, ↓mdelC, ↓zb, ↓zH, ↓zi, ↓zc, ↓zt, binA, intOp, strOp, unA, esOf, bnd, intV, zF, fillV, srcE, dm, dm1, consO, cellA, maxL, minL, keepO, Q0, Q1, Q2, Q3, Q4, Q5, zw, zp, zg, zq, zh, Q6, Q7, Q8, Q9, Q10, Q11, Q12, Q13, Q14, Nat.reduceAdd, Q15, Int.reduceToNat, Q16, Q17, Q18, Q19, Q20, reduceIte, Q21, Q22, ze, rep, zN, toDs, toD, zO, Q23, Q24, Q25, Q26, Q27, Q28, Nat.reduceLeDiff, Q29, Nat.reduceSub, Q30, Q31, Q32, sc, Q33, Q34, Q35, Q36, Q37, Q26, Q38, Q39, n0gt, n1gt, n2gt, n0eq, n1eq0, n1eq, n2eq, n0ne, n1ne, n1ne0, n0ne1, i0ne, i0eq, Bool.not_true, Bool.not_false, List.length_map, e1.symm, hSl] | ((with_reducible refine And.intro ?_ ?_); focus (first | omega | rfl | decide | (simp; done)))))
    refine c_rqrSeal (x := x) (zae n6) (zae n7) (by omega) hL (by omega) hxz ?_
    rw [zbo n6, zbo (by rw [List.getElem?_set_ne (by omega)]; exact n7)]
    obtain ⟨s2, hs2⟩ : ∃ s2, (s1.set (a + 6) (rtO (sealL L x))).set (a + 7) (rlO (sealG L G x)) = s2 := ⟨_, rfl⟩
    have e2 : s1.length = s2.length := by rw [← hs2]; simp
    rw [hs2] at hI1 ⊢
    simp only [zbC]
    (repeat' (first | simp -dsimp only [↓zM, ↓loopL, ↓binC, ↓unC, ↓zr, ↓zj, ↓zk, ↓zl, ↓zu, ↓lenC, ↓slcC, ↓convC, ↓boxC, ↓zC, ↓loadC, ↓zx, ↓nilC, ↓zm, ↓zG, ↓zy, ↓idxSC, ↓idxAC, ↓zd, ↓zA, ↓zf, ↓zo, ↓zJ, ↓maxC, ↓minC, ↓zK, ↓zL, ↓mgetC, ↓msetC, ↓mdelC, ↓zb, ↓zH, ↓zi, ↓zc, ↓zt, binA, intOp, strOp, unA, esOf, bnd, intV, zF, fillV, srcE, dm, dm1, consO, cellA, maxL, minL, keepO, Q0, Q1, Q2, Q3, Q4, Q5, zw, zp, zg, zq, zh, Q6, Q7, Q8, Q9, Q10, Q11, Q12, Q13, Q14, Nat.reduceAdd, Q15, Int.reduceToNat, Q16, Q17, Q18, Q19, Q20, reduceIte, Q21, Q22, ze, rep, zN, toDs, toD, zO, Q23, Q24, Q25, Q26, Q27, Q28, Nat.reduceLeDiff, Q29, Nat.reduceSub, Q30, Q31, Q32, sc, Q33, Q34, Q35, Q36, Q37, Q26, Q38, Q39, n0gt, n1gt, n2gt, n0eq, n1eq0, n1eq, n2eq, n0ne, n1ne, n1ne0, n0ne1, i0ne, i0eq, Bool.not_true, Bool.not_false, List.length_map, e2, hSl, bne_self_eq_false, beq_self_eq_true] | ((with_reducible refine And.intro ?_ ?_); focus (first | omega | rfl | decide | (simp; done)))))
    refine c_rqSame (a := [sealS L x]) (b := [sealS L x]) (small1 (seal_sz hxz)) (small1 (seal_sz hxz)) ?_
    rw [show decide ([sealS L x] = [sealS L x]) = true from decide_eq_true rfl]
    have hG1 := sealG_len L G x
    have hL1 := hL.seal hxz
    have g8 : ∀ τ, (s2 ++ τ)[a + 8]? = some (.tok 9 all.length) := fun τ => zae hI1.tk
    have st8 : ∀ X τ, (s2 ++ τ).set (a + 8) X = s2.set (a + 8) X ++ τ := fun X τ => zbo hI1.tk
    cases hz : (sealE L x == 0)
    · (repeat' (first | simp -dsimp only [↓zM, ↓loopL, ↓binC, ↓unC, ↓zr, ↓zj, ↓zk, ↓zl, ↓zu, ↓lenC, ↓slcC, ↓convC, ↓boxC, ↓zC, ↓loadC, ↓zx, ↓nilC, ↓zm, ↓zG, ↓zy, ↓idxSC, ↓idxAC, ↓zd, ↓zA, ↓zf, ↓zo, ↓zJ, ↓maxC, ↓minC, ↓zK, ↓zL, ↓mgetC, ↓msetC, ↓mdelC, ↓zb, ↓zH, ↓zi, ↓zc, ↓zt, binA, intOp, strOp, unA, esOf, bnd, intV, zF, fillV, srcE, dm, dm1, consO, cellA, maxL, minL, keepO, Q0, Q1, Q2, Q3, Q4, Q5, zw, zp, zg, zq, zh, Q6, Q7, Q8, Q9, Q10, Q11, Q12, Q13, Q14, Nat.reduceAdd, Q15, Int.reduceToNat, Q16, Q17, Q18, Q19, Q20, reduceIte, Q21, Q22, ze, rep, zN, toDs, toD, zO, Q23, Q24, Q25, Q26, Q27, Q28, Nat.reduceLeDiff, Q29, Nat.reduceSub, Q30, Q31, Q32, sc, Q33, Q34, Q35, Q36, Q37, Q26, Q38, Q39, n0gt, n1gt, n2gt, n0eq, n1eq0, n1eq, n2eq, n0ne, n1ne, n1ne0, n0ne1, i0ne, i0eq, Bool.not_true, Bool.not_false, List.length_map, hz, wk1 k (by omega)] | ((with_reducible refine And.intro ?_ ?_); focus (first | omega | rfl | decide | (simp; done)))))
      exact Again.next hlt ⟨_, _, all, rfl, hI1.app _, hL1, by omega, by omega, haz⟩
    · (repeat' (first | simp -dsimp only [↓zM, ↓loopL, ↓binC, ↓unC, ↓zr, ↓zj, ↓zk, ↓zl, ↓zu, ↓lenC, ↓slcC, ↓convC, ↓boxC, ↓zC, ↓loadC, ↓zx, ↓nilC, ↓zm, ↓zG, ↓zy, ↓idxSC, ↓idxAC, ↓zd, ↓zA, ↓zf, ↓zo, ↓zJ, ↓maxC, ↓minC, ↓zK, ↓zL, ↓mgetC, ↓msetC, ↓mdelC, ↓zb, ↓zH, ↓zi, ↓zc, ↓zt, binA, intOp, strOp, unA, esOf, bnd, intV, zF, fillV, srcE, dm, dm1, consO, cellA, maxL, minL, keepO, Q0, Q1, Q2, Q3, Q4, Q5, zw, zp, zg, zq, zh, Q6, Q7, Q8, Q9, Q10, Q11, Q12, Q13, Q14, Nat.reduceAdd, Q15, Int.reduceToNat, Q16, Q17, Q18, Q19, Q20, reduceIte, Q21, Q22, ze, rep, zN, toDs, toD, zO, Q23, Q24, Q25, Q26, Q27, Q28, Nat.reduceLeDiff, Q29, Nat.reduceSub, Q30, Q31, Q32, sc, Q33, Q34, Q35, Q36, Q37, Q26, Q38, Q39, n0gt, n1gt, n2gt, n0eq, n1eq0, n1eq, n2eq, n0ne, n1ne, n1ne0, n0ne1, i0ne, i0eq, Bool.not_true, Bool.not_false, List.length_map, hz, e2, g8, st8, wk1 k (by omega)] | ((with_reducible refine And.intro ?_ ?_); focus (first | omega | rfl | decide | (simp; done)))))
      have hI2 := (hI1.grow ha (all.length + 1)).app
      refine Again.next hlt ⟨_, _, all ++ [sealS L x], by simp [zbq, zag], by simpa using hI2 _, hL1, by omega, by simp; omega, fun y hy => ?_⟩
      rcases List.mem_append.1 hy with hy | hy
      · exact haz y hy
      · simp at hy; subst hy; exact seal_sz hxz
  · have hd : decide ((k : Int) < (l.length : Int)) = false := by simp; omega
    have hgb := hI.bx
    rw [hy0] at hgb
    cases hb0 : ((b.length : Int) == 0)
    · (repeat' (first | simp -dsimp only [↓zM, ↓loopL, ↓binC, ↓unC, ↓zr, ↓zj, ↓zk, ↓zl, ↓zu, ↓lenC, ↓slcC, ↓convC, ↓boxC, ↓zC, ↓loadC, ↓zx, ↓nilC, ↓zm, ↓zG, ↓zy, ↓idxSC, ↓idxAC, ↓zd, ↓zA, ↓zf, ↓zo, ↓zJ, ↓maxC, ↓minC, ↓zK, ↓zL, ↓mgetC, ↓msetC, ↓mdelC, ↓zb, ↓zH, ↓zi, ↓zc, ↓zt, binA, intOp, strOp, unA, esOf, bnd, intV, zF, fillV, srcE, dm, dm1, consO, cellA, maxL, minL, keepO, Q0, Q1, Q2, Q3, Q4, Q5, zw, zp, zg, zq, zh, Q6, Q7, Q8, Q9, Q10, Q11, Q12, Q13, Q14, Nat.reduceAdd, Q15, Int.reduceToNat, Q16, Q17, Q18, Q19, Q20, reduceIte, Q21, Q22, ze, rep, zN, toDs, toD, zO, Q23, Q24, Q25, Q26, Q27, Q28, Nat.reduceLeDiff, Q29, Nat.reduceSub, Q30, Q31, Q32, sc, Q33, Q34, Q35, Q36, Q37, Q26, Q38, Q39, n0gt, n1gt, n2gt, n0eq, n1eq0, n1eq, n2eq, n0ne, n1ne, n1ne0, n0ne1, i0ne, i0eq, Bool.not_true, Bool.not_false, List.length_map, hd, hb0, hSl, hgb] | ((with_reducible refine And.intro ?_ ?_); focus (first | omega | rfl | decide | (simp; done)))))
      have hBz := hbz
      have hBl := hbl
      generalize b = B at hBz hBl ⊢
      (
      refine zeY (s := s0) hI.tl.tab hI.tl.led hsz ?_
      (repeat' (first | simp -dsimp only [↓zM, ↓loopL, ↓binC, ↓unC, ↓zr, ↓zj, ↓zk, ↓zl, ↓zu, ↓lenC, ↓slcC, ↓convC, ↓boxC, ↓zC, ↓loadC, ↓zx, ↓nilC, ↓zm, ↓zG, ↓zy, ↓idxSC, ↓idxAC, ↓zd, ↓zA, ↓zf, ↓zo, ↓zJ, ↓maxC, ↓minC, ↓zK, ↓zL, ↓mgetC, ↓msetC, ↓mdelC, ↓zb, ↓zH, ↓zi, ↓zc, ↓zt, binA, intOp, strOp, unA, esOf, bnd, intV, zF, fillV, srcE, dm, dm1, consO, cellA, maxL, minL, keepO, Q0, Q1, Q2, Q3, Q4, Q5, zw, zp, zg, zq, zh, Q6, Q7, Q8, Q9, Q10, Q11, Q12, Q13, Q14, Nat.reduceAdd, Q15, Int.reduceToNat, Q16, Q17, Q18, Q19, Q20, reduceIte, Q21, Q22, ze, rep, zN, toDs, toD, zO, Q23, Q24, Q25, Q26, Q27, Q28, Nat.reduceLeDiff, Q29, Nat.reduceSub, Q30, Q31, Q32, sc, Q33, Q34, Q35, Q36, Q37, Q26, Q38, Q39, n0gt, n1gt, n2gt, n0eq, n1eq0, n1eq, n2eq, n0ne, n1ne, n1ne0, n0ne1, i0ne, i0eq, Bool.not_true, Bool.not_false, List.length_map, hSl] | ((with_reducible refine And.intro ?_ ?_); focus (first | omega | rfl | decide | (simp; done)))))
      refine zhO (s := s0) hI.rt hI.rl hL (by omega) hsz ?_
      (repeat' (first | simp -dsimp only [↓zM, ↓loopL, ↓binC, ↓unC, ↓zr, ↓zj, ↓zk, ↓zl, ↓zu, ↓lenC, ↓slcC, ↓convC, ↓boxC, ↓zC, ↓loadC, ↓zx, ↓nilC, ↓zm, ↓zG, ↓zy, ↓idxSC, ↓idxAC, ↓zd, ↓zA, ↓zf, ↓zo, ↓zJ, ↓maxC, ↓minC, ↓zK, ↓zL, ↓mgetC, ↓msetC, ↓mdelC, ↓zb, ↓zH, ↓zi, ↓zc, ↓zt, binA, intOp, strOp, unA, esOf, bnd, intV, zF, fillV, srcE, dm, dm1, consO, cellA, maxL, minL, keepO, Q0, Q1, Q2, Q3, Q4, Q5, zw, zp, zg, zq, zh, Q6, Q7, Q8, Q9, Q10, Q11, Q12, Q13, Q14, Nat.reduceAdd, Q15, Int.reduceToNat, Q16, Q17, Q18, Q19, Q20, reduceIte, Q21, Q22, ze, rep, zN, toDs, toD, zO, Q23, Q24, Q25, Q26, Q27, Q28, Nat.reduceLeDiff, Q29, Nat.reduceSub, Q30, Q31, Q32, sc, Q33, Q34, Q35, Q36, Q37, Q26, Q38, Q39, n0gt, n1gt, n2gt, n0eq, n1eq0, n1eq, n2eq, n0ne, n1ne, n1ne0, n0ne1, i0ne, i0eq, Bool.not_true, Bool.not_false, List.length_map, hSl, beq_self_eq_true, Bool.not_true] | ((with_reducible refine And.intro ?_ ?_); focus (first | omega | rfl | decide | (simp; done)))))
      refine zfO hI.tl.tab hI.tl.led hBz (by omega) ?_
      (repeat' (first | simp -dsimp only [↓zM, ↓loopL, ↓binC, ↓unC, ↓zr, ↓zj, ↓zk, ↓zl, ↓zu, ↓lenC, ↓slcC, ↓convC, ↓boxC, ↓zC, ↓loadC, ↓zx, ↓nilC, ↓zm, ↓zG, ↓zy, ↓idxSC, ↓idxAC, ↓zd, ↓zA, ↓zf, ↓zo, ↓zJ, ↓maxC, ↓minC, ↓zK, ↓zL, ↓mgetC, ↓msetC, ↓mdelC, ↓zb, ↓zH, ↓zi, ↓zc, ↓zt, binA, intOp, strOp, unA, esOf, bnd, intV, zF, fillV, srcE, dm, dm1, consO, cellA, maxL, minL, keepO, Q0, Q1, Q2, Q3, Q4, Q5, zw, zp, zg, zq, zh, Q6, Q7, Q8, Q9, Q10, Q11, Q12, Q13, Q14, Nat.reduceAdd, Q15, Int.reduceToNat, Q16, Q17, Q18, Q19, Q20, reduceIte, Q21, Q22, ze, rep, zN, toDs, toD, zO, Q23, Q24, Q25, Q26, Q27, Q28, Nat.reduceLeDiff, Q29, Nat.reduceSub, Q30, Q31, Q32, sc, Q33, Q34, Q35, Q36, Q37, Q26, Q38, Q39, n0gt, n1gt, n2gt, n0eq, n1eq0, n1eq, n2eq, n0ne, n1ne, n1ne0, n0ne1, i0ne, i0eq, Bool.not_true, Bool.not_false, List.length_map, hSl, beq_self_eq_true, Bool.not_true] | ((with_reducible refine And.intro ?_ ?_); focus (first | omega | rfl | decide | (simp; done)))))
      refine zeX hI.rt hI.rl hL (by omega) hBz (by omega) ?_
      (repeat' (first | simp -dsimp only [↓zM, ↓loopL, ↓binC, ↓unC, ↓zr, ↓zj, ↓zk, ↓zl, ↓zu, ↓lenC, ↓slcC, ↓convC, ↓boxC, ↓zC, ↓loadC, ↓zx, ↓nilC, ↓zm, ↓zG, ↓zy, ↓idxSC, ↓idxAC, ↓zd, ↓zA, ↓zf, ↓zo, ↓zJ, ↓maxC, ↓minC, ↓zK, ↓zL, ↓mgetC, ↓msetC, ↓mdelC, ↓zb, ↓zH, ↓zi, ↓zc, ↓zt, binA, intOp, strOp, unA, esOf, bnd, intV, zF, fillV, srcE, dm, dm1, consO, cellA, maxL, minL, keepO, Q0, Q1, Q2, Q3, Q4, Q5, zw, zp, zg, zq, zh, Q6, Q7, Q8, Q9, Q10, Q11, Q12, Q13, Q14, Nat.reduceAdd, Q15, Int.reduceToNat, Q16, Q17, Q18, Q19, Q20, reduceIte, Q21, Q22, ze, rep, zN, toDs, toD, zO, Q23, Q24, Q25, Q26, Q27, Q28, Nat.reduceLeDiff, Q29, Nat.reduceSub, Q30, Q31, Q32, sc, Q33, Q34, Q35, Q36, Q37, Q26, Q38, Q39, n0gt, n1gt, n2gt, n0eq, n1eq0, n1eq, n2eq, n0ne, n1ne, n1ne0, n0ne1, i0ne, i0eq, Bool.not_true, Bool.not_false, List.length_map, hSl, beq_self_eq_true, Bool.not_true] | ((with_reducible refine And.intro ?_ ?_); focus (first | omega | rfl | decide | (simp; done)))))
      rw [show s = s ++ [] from (List.append_nil s).symm]
      refine c_digTL (τ := []) hI.tl hL hBz (by omega) fun s1 e1 hTL1 hs1 => ?_
      have n6 : s1[a + 6]? = some (rtO L) := by rw [hs1, zgL (by omega)]; exact hI.rt
      obtain ⟨T0, hT0⟩ := hI.pre
      have hp1 := zgK (a := a) (σ := σ) (T := T0) (by omega) (digL L B) G
      rw [← hT0, ← hs1] at hp1
      have hp2 := zjd hp1 (i := a + 6) (by omega) (rtO (digL L B))
      simp only [List.append_nil]
      (repeat' (first | simp -dsimp only [↓zM, ↓loopL, ↓binC, ↓unC, ↓zr, ↓zj, ↓zk, ↓zl, ↓zu, ↓lenC, ↓slcC, ↓convC, ↓boxC, ↓zC, ↓loadC, ↓zx, ↓nilC, ↓zm, ↓zG, ↓zy, ↓idxSC, ↓idxAC, ↓zd, ↓zA, ↓zf, ↓zo, ↓zJ, ↓maxC, ↓minC, ↓zK, ↓zL, ↓mgetC, ↓msetC, ↓mdelC, ↓zb, ↓zH, ↓zi, ↓zc, ↓zt, binA, intOp, strOp, unA, esOf, bnd, intV, zF, fillV, srcE, dm, dm1, consO, cellA, maxL, minL, keepO, Q0, Q1, Q2, Q3, Q4, Q5, zw, zp, zg, zq, zh, Q6, Q7, Q8, Q9, Q10, Q11, Q12, Q13, Q14, Nat.reduceAdd, Q15, Int.reduceToNat, Q16, Q17, Q18, Q19, Q20, reduceIte, Q21, Q22, ze, rep, zN, toDs, toD, zO, Q23, Q24, Q25, Q26, Q27, Q28, Nat.reduceLeDiff, Q29, Nat.reduceSub, Q30, Q31, Q32, sc, Q33, Q34, Q35, Q36, Q37, Q26, Q38, Q39, n0gt, n1gt, n2gt, n0eq, n1eq0, n1eq, n2eq, n0ne, n1ne, n1ne0, n0ne1, i0ne, i0eq, Bool.not_true, Bool.not_false, List.length_map, hSl] | ((with_reducible refine And.intro ?_ ?_); focus (first | omega | rfl | decide | (simp; done)))))
      refine zjv n6 hL hBz (by omega) ?_
      obtain ⟨T1, hT1⟩ := hp2
      rw [hT1]
      (repeat' (first | simp -dsimp only [↓zM, ↓loopL, ↓binC, ↓unC, ↓zr, ↓zj, ↓zk, ↓zl, ↓zu, ↓lenC, ↓slcC, ↓convC, ↓boxC, ↓zC, ↓loadC, ↓zx, ↓nilC, ↓zm, ↓zG, ↓zy, ↓idxSC, ↓idxAC, ↓zd, ↓zA, ↓zf, ↓zo, ↓zJ, ↓maxC, ↓minC, ↓zK, ↓zL, ↓mgetC, ↓msetC, ↓mdelC, ↓zb, ↓zH, ↓zi, ↓zc, ↓zt, binA, intOp, strOp, unA, esOf, bnd, intV, zF, fillV, srcE, dm, dm1, consO, cellA, maxL, minL, keepO, Q0, Q1, Q2, Q3, Q4, Q5, zw, zp, zg, zq, zh, Q6, Q7, Q8, Q9, Q10, Q11, Q12, Q13, Q14, Nat.reduceAdd, Q15, Int.reduceToNat, Q16, Q17, Q18, Q19, Q20, reduceIte, Q21, Q22, ze, rep, zN, toDs, toD, zO, Q23, Q24, Q25, Q26, Q27, Q28, Nat.reduceLeDiff, Q29, Nat.reduceSub, Q30, Q31, Q32, sc, Q33, Q34, Q35, Q36, Q37, Q26, Q38, Q39, n0gt, n1gt, n2gt, n0eq, n1eq0, n1eq, n2eq, n0ne, n1ne, n1ne0, n0ne1, i0ne, i0eq, Bool.not_true, Bool.not_false, List.length_map, hSl, beq_self_eq_true] | ((with_reducible refine And.intro ?_ ?_); focus (first | omega | rfl | decide | (simp; done)))))
      (first | refine zP (by simp [Low_d, dmT, dm, dm1, pack, zB, zD, zn]) hl ?_ | refine zE (by simp [Low_d, dmT, dm, dm1, pack, zB, zD, zn]) hl ?_)
      rfl)
    · (repeat' (first | simp -dsimp only [↓zM, ↓loopL, ↓binC, ↓unC, ↓zr, ↓zj, ↓zk, ↓zl, ↓zu, ↓lenC, ↓slcC, ↓convC, ↓boxC, ↓zC, ↓loadC, ↓zx, ↓nilC, ↓zm, ↓zG, ↓zy, ↓idxSC, ↓idxAC, ↓zd, ↓zA, ↓zf, ↓zo, ↓zJ, ↓maxC, ↓minC, ↓zK, ↓zL, ↓mgetC, ↓msetC, ↓mdelC, ↓zb, ↓zH, ↓zi, ↓zc, ↓zt, binA, intOp, strOp, unA, esOf, bnd, intV, zF, fillV, srcE, dm, dm1, consO, cellA, maxL, minL, keepO, Q0, Q1, Q2, Q3, Q4, Q5, zw, zp, zg, zq, zh, Q6, Q7, Q8, Q9, Q10, Q11, Q12, Q13, Q14, Nat.reduceAdd, Q15, Int.reduceToNat, Q16, Q17, Q18, Q19, Q20, reduceIte, Q21, Q22, ze, rep, zN, toDs, toD, zO, Q23, Q24, Q25, Q26, Q27, Q28, Nat.reduceLeDiff, Q29, Nat.reduceSub, Q30, Q31, Q32, sc, Q33, Q34, Q35, Q36, Q37, Q26, Q38, Q39, n0gt, n1gt, n2gt, n0eq, n1eq0, n1eq, n2eq, n0ne, n1ne, n1ne0, n0ne1, i0ne, i0eq, Bool.not_true, Bool.not_false, List.length_map, hd, hb0, hSl, hgb] | ((with_reducible refine And.intro ?_ ?_); focus (first | omega | rfl | decide | (simp; done)))))
      refine ⟨zkD all, ?_⟩
      have e : List.drop (((0 : Nat) : Int)).toNat (List.take (if (4 : Int) < (all.length : Int) then (4 : Int) else (all.length : Int)).toNat (zbq all)) = zbq (all.take (if (4 : Int) < (all.length : Int) then (4 : Int) else (all.length : Int)).toNat) := by
        simp [zbq, List.map_take]
      have hz4 : ∀ s ∈ all.take (if (4 : Int) < (all.length : Int) then (4 : Int) else (all.length : Int)).toNat, opSz s.op ≤ 20971520 := fun s hs => haz s (List.mem_of_mem_take hs)
      have hl4 : (all.take (if (4 : Int) < (all.length : Int) then (4 : Int) else (all.length : Int)).toNat).length ≤ 2097152 := by rw [List.length_take]; omega
      rw [e]
      generalize all.take (if (4 : Int) < (all.length : Int) then (4 : Int) else (all.length : Int)).toNat = B at hz4 hl4 ⊢
      have hBz := hz4
      have hBl := hl4
      (
      refine zeY (s := s0) hI.tl.tab hI.tl.led hsz ?_
      (repeat' (first | simp -dsimp only [↓zM, ↓loopL, ↓binC, ↓unC, ↓zr, ↓zj, ↓zk, ↓zl, ↓zu, ↓lenC, ↓slcC, ↓convC, ↓boxC, ↓zC, ↓loadC, ↓zx, ↓nilC, ↓zm, ↓zG, ↓zy, ↓idxSC, ↓idxAC, ↓zd, ↓zA, ↓zf, ↓zo, ↓zJ, ↓maxC, ↓minC, ↓zK, ↓zL, ↓mgetC, ↓msetC, ↓mdelC, ↓zb, ↓zH, ↓zi, ↓zc, ↓zt, binA, intOp, strOp, unA, esOf, bnd, intV, zF, fillV, srcE, dm, dm1, consO, cellA, maxL, minL, keepO, Q0, Q1, Q2, Q3, Q4, Q5, zw, zp, zg, zq, zh, Q6, Q7, Q8, Q9, Q10, Q11, Q12, Q13, Q14, Nat.reduceAdd, Q15, Int.reduceToNat, Q16, Q17, Q18, Q19, Q20, reduceIte, Q21, Q22, ze, rep, zN, toDs, toD, zO, Q23, Q24, Q25, Q26, Q27, Q28, Nat.reduceLeDiff, Q29, Nat.reduceSub, Q30, Q31, Q32, sc, Q33, Q34, Q35, Q36, Q37, Q26, Q38, Q39, n0gt, n1gt, n2gt, n0eq, n1eq0, n1eq, n2eq, n0ne, n1ne, n1ne0, n0ne1, i0ne, i0eq, Bool.not_true, Bool.not_false, List.length_map, hSl] | ((with_reducible refine And.intro ?_ ?_); focus (first | omega | rfl | decide | (simp; done)))))
      refine zhO (s := s0) hI.rt hI.rl hL (by omega) hsz ?_
      (repeat' (first | simp -dsimp only [↓zM, ↓loopL, ↓binC, ↓unC, ↓zr, ↓zj, ↓zk, ↓zl, ↓zu, ↓lenC, ↓slcC, ↓convC, ↓boxC, ↓zC, ↓loadC, ↓zx, ↓nilC, ↓zm, ↓zG, ↓zy, ↓idxSC, ↓idxAC, ↓zd, ↓zA, ↓zf, ↓zo, ↓zJ, ↓maxC, ↓minC, ↓zK, ↓zL, ↓mgetC, ↓msetC, ↓mdelC, ↓zb, ↓zH, ↓zi, ↓zc, ↓zt, binA, intOp, strOp, unA, esOf, bnd, intV, zF, fillV, srcE, dm, dm1, consO, cellA, maxL, minL, keepO, Q0, Q1, Q2, Q3, Q4, Q5, zw, zp, zg, zq, zh, Q6, Q7, Q8, Q9, Q10, Q11, Q12, Q13, Q14, Nat.reduceAdd, Q15, Int.reduceToNat, Q16, Q17, Q18, Q19, Q20, reduceIte, Q21, Q22, ze, rep, zN, toDs, toD, zO, Q23, Q24, Q25, Q26, Q27, Q28, Nat.reduceLeDiff, Q29, Nat.reduceSub, Q30, Q31, Q32, sc, Q33, Q34, Q35, Q36, Q37, Q26, Q38, Q39, n0gt, n1gt, n2gt, n0eq, n1eq0, n1eq, n2eq, n0ne, n1ne, n1ne0, n0ne1, i0ne, i0eq, Bool.not_true, Bool.not_false, List.length_map, hSl, beq_self_eq_true, Bool.not_true] | ((with_reducible refine And.intro ?_ ?_); focus (first | omega | rfl | decide | (simp; done)))))
      refine zfO hI.tl.tab hI.tl.led hBz (by omega) ?_
      (repeat' (first | simp -dsimp only [↓zM, ↓loopL, ↓binC, ↓unC, ↓zr, ↓zj, ↓zk, ↓zl, ↓zu, ↓lenC, ↓slcC, ↓convC, ↓boxC, ↓zC, ↓loadC, ↓zx, ↓nilC, ↓zm, ↓zG, ↓zy, ↓idxSC, ↓idxAC, ↓zd, ↓zA, ↓zf, ↓zo, ↓zJ, ↓maxC, ↓minC, ↓zK, ↓zL, ↓mgetC, ↓msetC, ↓mdelC, ↓zb, ↓zH, ↓zi, ↓zc, ↓zt, binA, intOp, strOp, unA, esOf, bnd, intV, zF, fillV, srcE, dm, dm1, consO, cellA, maxL, minL, keepO, Q0, Q1, Q2, Q3, Q4, Q5, zw, zp, zg, zq, zh, Q6, Q7, Q8, Q9, Q10, Q11, Q12, Q13, Q14, Nat.reduceAdd, Q15, Int.reduceToNat, Q16, Q17, Q18, Q19, Q20, reduceIte, Q21, Q22, ze, rep, zN, toDs, toD, zO, Q23, Q24, Q25, Q26, Q27, Q28, Nat.reduceLeDiff, Q29, Nat.reduceSub, Q30, Q31, Q32, sc, Q33, Q34, Q35, Q36, Q37, Q26, Q38, Q39, n0gt, n1gt, n2gt, n0eq, n1eq0, n1eq, n2eq, n0ne, n1ne, n1ne0, n0ne1, i0ne, i0eq, Bool.not_true, Bool.not_false, List.length_map, hSl, beq_self_eq_true, Bool.not_true] | ((with_reducible refine And.intro ?_ ?_); focus (first | omega | rfl | decide | (simp; done)))))
      refine zeX hI.rt hI.rl hL (by omega) hBz (by omega) ?_
      (repeat' (first | simp -dsimp only [↓zM, ↓loopL, ↓binC, ↓unC, ↓zr, ↓zj, ↓zk, ↓zl, ↓zu, ↓lenC, ↓slcC, ↓convC, ↓boxC, ↓zC, ↓loadC, ↓zx, ↓nilC, ↓zm, ↓zG, ↓zy, ↓idxSC, ↓idxAC, ↓zd, ↓zA, ↓zf, ↓zo, ↓zJ, ↓maxC, ↓minC, ↓zK, ↓zL, ↓mgetC, ↓msetC, ↓mdelC, ↓zb, ↓zH, ↓zi, ↓zc, ↓zt, binA, intOp, strOp, unA, esOf, bnd, intV, zF, fillV, srcE, dm, dm1, consO, cellA, maxL, minL, keepO, Q0, Q1, Q2, Q3, Q4, Q5, zw, zp, zg, zq, zh, Q6, Q7, Q8, Q9, Q10, Q11, Q12, Q13, Q14, Nat.reduceAdd, Q15, Int.reduceToNat, Q16, Q17, Q18, Q19, Q20, reduceIte, Q21, Q22, ze, rep, zN, toDs, toD, zO, Q23, Q24, Q25, Q26, Q27, Q28, Nat.reduceLeDiff, Q29, Nat.reduceSub, Q30, Q31, Q32, sc, Q33, Q34, Q35, Q36, Q37, Q26, Q38, Q39, n0gt, n1gt, n2gt, n0eq, n1eq0, n1eq, n2eq, n0ne, n1ne, n1ne0, n0ne1, i0ne, i0eq, Bool.not_true, Bool.not_false, List.length_map, hSl, beq_self_eq_true, Bool.not_true] | ((with_reducible refine And.intro ?_ ?_); focus (first | omega | rfl | decide | (simp; done)))))
      rw [show s = s ++ [] from (List.append_nil s).symm]
      refine c_digTL (τ := []) hI.tl hL hBz (by omega) fun s1 e1 hTL1 hs1 => ?_
      have n6 : s1[a + 6]? = some (rtO L) := by rw [hs1, zgL (by omega)]; exact hI.rt
      obtain ⟨T0, hT0⟩ := hI.pre
      have hp1 := zgK (a := a) (σ := σ) (T := T0) (by omega) (digL L B) G
      rw [← hT0, ← hs1] at hp1
      have hp2 := zjd hp1 (i := a + 6) (by omega) (rtO (digL L B))
      simp only [List.append_nil]
      (repeat' (first | simp -dsimp only [↓zM, ↓loopL, ↓binC, ↓unC, ↓zr, ↓zj, ↓zk, ↓zl, ↓zu, ↓lenC, ↓slcC, ↓convC, ↓boxC, ↓zC, ↓loadC, ↓zx, ↓nilC, ↓zm, ↓zG, ↓zy, ↓idxSC, ↓idxAC, ↓zd, ↓zA, ↓zf, ↓zo, ↓zJ, ↓maxC, ↓minC, ↓zK, ↓zL, ↓mgetC, ↓msetC, ↓mdelC, ↓zb, ↓zH, ↓zi, ↓zc, ↓zt, binA, intOp, strOp, unA, esOf, bnd, intV, zF, fillV, srcE, dm, dm1, consO, cellA, maxL, minL, keepO, Q0, Q1, Q2, Q3, Q4, Q5, zw, zp, zg, zq, zh, Q6, Q7, Q8, Q9, Q10, Q11, Q12, Q13, Q14, Nat.reduceAdd, Q15, Int.reduceToNat, Q16, Q17, Q18, Q19, Q20, reduceIte, Q21, Q22, ze, rep, zN, toDs, toD, zO, Q23, Q24, Q25, Q26, Q27, Q28, Nat.reduceLeDiff, Q29, Nat.reduceSub, Q30, Q31, Q32, sc, Q33, Q34, Q35, Q36, Q37, Q26, Q38, Q39, n0gt, n1gt, n2gt, n0eq, n1eq0, n1eq, n2eq, n0ne, n1ne, n1ne0, n0ne1, i0ne, i0eq, Bool.not_true, Bool.not_false, List.length_map, hSl] | ((with_reducible refine And.intro ?_ ?_); focus (first | omega | rfl | decide | (simp; done)))))
      refine zjv n6 hL hBz (by omega) ?_
      obtain ⟨T1, hT1⟩ := hp2
      rw [hT1]
      (repeat' (first | simp -dsimp only [↓zM, ↓loopL, ↓binC, ↓unC, ↓zr, ↓zj, ↓zk, ↓zl, ↓zu, ↓lenC, ↓slcC, ↓convC, ↓boxC, ↓zC, ↓loadC, ↓zx, ↓nilC, ↓zm, ↓zG, ↓zy, ↓idxSC, ↓idxAC, ↓zd, ↓zA, ↓zf, ↓zo, ↓zJ, ↓maxC, ↓minC, ↓zK, ↓zL, ↓mgetC, ↓msetC, ↓mdelC, ↓zb, ↓zH, ↓zi, ↓zc, ↓zt, binA, intOp, strOp, unA, esOf, bnd, intV, zF, fillV, srcE, dm, dm1, consO, cellA, maxL, minL, keepO, Q0, Q1, Q2, Q3, Q4, Q5, zw, zp, zg, zq, zh, Q6, Q7, Q8, Q9, Q10, Q11, Q12, Q13, Q14, Nat.reduceAdd, Q15, Int.reduceToNat, Q16, Q17, Q18, Q19, Q20, reduceIte, Q21, Q22, ze, rep, zN, toDs, toD, zO, Q23, Q24, Q25, Q26, Q27, Q28, Nat.reduceLeDiff, Q29, Nat.reduceSub, Q30, Q31, Q32, sc, Q33, Q34, Q35, Q36, Q37, Q26, Q38, Q39, n0gt, n1gt, n2gt, n0eq, n1eq0, n1eq, n2eq, n0ne, n1ne, n1ne0, n0ne1, i0ne, i0eq, Bool.not_true, Bool.not_false, List.length_map, hSl, beq_self_eq_true] | ((with_reducible refine And.intro ?_ ?_); focus (first | omega | rfl | decide | (simp; done)))))
      (first | refine zP (by simp [Low_d, dmT, dm, dm1, pack, zB, zD, zn]) hl ?_ | refine zE (by simp [Low_d, dmT, dm, dm1, pack, zB, zD, zn]) hl ?_)
      rfl)
end Go.Proofs.Ythmdpooklflkfaa
