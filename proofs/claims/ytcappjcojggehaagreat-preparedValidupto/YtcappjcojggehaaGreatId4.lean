/- Contracts: the document's tables and ledgers. -/
import Derived.Test.YtcappjcojggehaaGreatId3
set_option linter.all false
set_option maxRecDepth 100000
set_option linter.unusedSimpArgs false
set_option linter.unusedVariables false
namespace Go.Proofs.YtcappjcojggehaaGreat
open Go.AW

def rtO (l : List (List UInt8)) : AObj := .box [.d (.slice (tabE l))]
def rlO (g : List TSign) : AObj := .box [.d (.slice (ledE g))]
theorem zls (n : Nat) (l : List (List UInt8)) : LowO n (rtO l) := by
  intro c hc
  simp only [List.mem_cons, List.not_mem_nil, or_false] at hc
  subst hc; exact .d _
theorem znP (n : Nat) (g : List TSign) : LowO n (rlO g) := by
  intro c hc
  simp only [List.mem_cons, List.not_mem_nil, or_false] at hc
  subst hc; exact .d _
theorem wki (k : Nat) (h : k ≤ 1073741824) : IntKind.i64.wrap ((k : Int) + 1) = ((k + 1 : Nat) : Int) := by rw [zad (by omega) (by omega)]; rfl
theorem gq8 {P Q : Prop} (h : Q) (e : P = Q := by simp -dsimp only [↓zae, ↓loopL, ↓binC, ↓unC, ↓zL, ↓zD, ↓zE, ↓zF, ↓zP, ↓lenC, ↓slcC, ↓convC, ↓boxC, ↓zH, ↓loadC, ↓zp, ↓nilC, ↓zh, ↓zV, ↓zr, ↓idxSC, ↓idxAC, ↓zi, ↓zG, ↓zl, ↓zt, ↓zZ, ↓maxC, ↓minC, ↓zab, ↓zac, ↓mgetC, ↓msetC, ↓mdelC, ↓zn, ↓zW, ↓zC, ↓zq, ↓zN, binA, intOp, strOp, unA, esOf, bnd, intV, zR, fillV, srcE, dm, dm1, consO, cellA, maxL, minL, keepO, Q0, Q1, Q2, Q3, Q4, Q5, zK, zm, zw, zx, zy, Q6, Q7, Q8, Q9, Q10, Q11, Q12, Q13, Q14, Nat.reduceAdd, Q15, Int.reduceToNat, Q16, Q17, Q18, Q19, Q20, reduceIte, Q21, Q22, zu, rep, zO, toDs, toD, zaa, Q23, Q24, Q25, Q26, Q27, Q28, Nat.reduceLeDiff, Q29, Nat.reduceSub, Q30, Q31, Q32, sc, Q33, Q34, Q35, Q36, Q37, Q26, Q38, Q39, n0gt, n1gt, n2gt, n0eq, n1eq0, n1eq, n2eq, n0ne, n1ne, n1ne0, n0ne1, i0ne, i0eq, Bool.not_true, Bool.not_false, List.length_map, zft]; rfl) : P := e.mpr h
theorem c_rtSame {σ : List AObj} {a b : List UInt8} {K : AV → List AObj → Prop} (hK : K (.d (.bool (a == b))) σ) : ACall Tryz.prog zjm [.d (.slice (bcs a)), .d (.slice (bcs b))] σ K := by
  refine zo isA_r02_Same rfl fun hl _ => s_r02_Same ?_
  simp only [znu]
  (repeat' (first | (refine gq8 ?_; try with_reducible exact True.intro) | ((with_reducible refine And.intro ?_ ?_); focus (first | omega | rfl | decide | (simp; done)))))
  (first | refine zg (by simp [Low_d, dmT, dm, dm1, pack, zd, ze, zb]) hl ?_ | refine zf (by simp [Low_d, dmT, dm, dm1, pack, zd, ze, zb]) hl ?_)
  exact hK
theorem zlb {σ : List AObj} {id : Nat} {l : List (List UInt8)} {b : List UInt8} (hT : σ[id]? = some (rtO l)) (hl0 : l.length ≤ 1048576) {K : AV → List AObj → Prop}
    (hK : K (.tup [.d (.int .i64 (numOf (lookF l b))), .d (.bool (lookF l b).isSome)]) σ) : ACall Tryz.prog zaU [.box id 0, .d (.slice (bcs b))] σ K := by
  refine zo ziw rfl fun hl _ => zkE ?_
  have hlen : (tabE l).length = l.length := List.length_map ..
  have hb : σ[id]? = some (.box [.d (.slice (tabE l))]) := hT
  simp only [zfG]
  refine zU l.length (fun k vs s => vs = [.d (.int .i64 k)] ∧ s = σ ∧ lookF (l.take k) b = none) ⟨rfl, rfl, rfl⟩ ?_
  rintro k vs s hk ⟨rfl, rfl, hno⟩
  by_cases hlt : k < l.length
  · have hd : decide ((k : Int) < (l.length : Int)) = true := by simp; omega
    have hx : l[k]? = some l[k] := by simp [hlt]
    have hgx := zas (f := fun b => [D.slice (bcs b)]) hx
    obtain ⟨x, hxe⟩ : ∃ x, l[k] = x := ⟨_, rfl⟩
    rw [hxe] at hx hgx
    (repeat' (first | (refine gq2 (gqc0 hlen (gqc0 hd (gqc0 hb hgx))) ?_; try with_reducible exact True.intro) | ((with_reducible refine And.intro ?_ ?_); focus (first | omega | rfl | decide | (simp; done)))))
    refine c_rtSame ?_
    cases he : (x == b)
    · (repeat' (first | (refine gq2 (wki k (by omega)) ?_; try with_reducible exact True.intro) | ((with_reducible refine And.intro ?_ ?_); focus (first | omega | rfl | decide | (simp; done)))))
      exact Again.next hlt ⟨rfl, rfl, look_next hx hno he⟩
    · rw [look_hit hx hno he] at hK
      (repeat' (first | (refine gq2 (wki k (by omega)) ?_; try with_reducible exact True.intro) | ((with_reducible refine And.intro ?_ ?_); focus (first | omega | rfl | decide | (simp; done)))))
      (first | refine zg (by simp [Low_d, dmT, dm, dm1, pack, zd, ze, zb]) hl ?_ | refine zf (by simp [Low_d, dmT, dm, dm1, pack, zd, ze, zb]) hl ?_)
      exact hK
  · have hd : decide ((k : Int) < (l.length : Int)) = false := by simp; omega
    rw [List.take_of_length_le (by omega)] at hno
    rw [hno] at hK
    (repeat' (first | (refine gq2 (gqc0 hlen (gqc0 hd hb)) ?_; try with_reducible exact True.intro) | ((with_reducible refine And.intro ?_ ?_); focus (first | omega | rfl | decide | (simp; done)))))
    (first | refine zg (by simp [Low_d, dmT, dm, dm1, pack, zd, ze, zb]) hl ?_ | refine zf (by simp [Low_d, dmT, dm, dm1, pack, zd, ze, zb]) hl ?_)
    exact hK
theorem gq9 {P Q : Prop} (h : Q) (e : P = Q := by simp -dsimp only [↓zae, ↓loopL, ↓binC, ↓unC, ↓zL, ↓zD, ↓zE, ↓zF, ↓zP, ↓lenC, ↓slcC, ↓convC, ↓boxC, ↓zH, ↓loadC, ↓zp, ↓nilC, ↓zh, ↓zV, ↓zr, ↓idxSC, ↓idxAC, ↓zi, ↓zG, ↓zl, ↓zt, ↓zZ, ↓maxC, ↓minC, ↓zab, ↓zac, ↓mgetC, ↓msetC, ↓mdelC, ↓zn, ↓zW, ↓zC, ↓zq, ↓zN, binA, intOp, strOp, unA, esOf, bnd, intV, zR, fillV, srcE, dm, dm1, consO, cellA, maxL, minL, keepO, Q0, Q1, Q2, Q3, Q4, Q5, zK, zm, zw, zx, zy, Q6, Q7, Q8, Q9, Q10, Q11, Q12, Q13, Q14, Nat.reduceAdd, Q15, Int.reduceToNat, Q16, Q17, Q18, Q19, Q20, reduceIte, Q21, Q22, zu, rep, zO, toDs, toD, zaa, Q23, Q24, Q25, Q26, Q27, Q28, Nat.reduceLeDiff, Q29, Nat.reduceSub, Q30, Q31, Q32, sc, Q33, Q34, Q35, Q36, Q37, Q26, Q38, Q39, n0gt, n1gt, n2gt, n0eq, n1eq0, n1eq, n2eq, n0ne, n1ne, n1ne0, n0ne1, i0ne, i0eq, Bool.not_true, Bool.not_false, List.length_map, Option.isSome_some, numOf]; rfl) : P := e.mpr h
theorem gq10 {A P Q : Prop} (a : A) (h : Q) (e : A → P = Q := by intro a; simp -dsimp only [↓zae, ↓loopL, ↓binC, ↓unC, ↓zL, ↓zD, ↓zE, ↓zF, ↓zP, ↓lenC, ↓slcC, ↓convC, ↓boxC, ↓zH, ↓loadC, ↓zp, ↓nilC, ↓zh, ↓zV, ↓zr, ↓idxSC, ↓idxAC, ↓zi, ↓zG, ↓zl, ↓zt, ↓zZ, ↓maxC, ↓minC, ↓zab, ↓zac, ↓mgetC, ↓msetC, ↓mdelC, ↓zn, ↓zW, ↓zC, ↓zq, ↓zN, binA, intOp, strOp, unA, esOf, bnd, intV, zR, fillV, srcE, dm, dm1, consO, cellA, maxL, minL, keepO, Q0, Q1, Q2, Q3, Q4, Q5, zK, zm, zw, zx, zy, Q6, Q7, Q8, Q9, Q10, Q11, Q12, Q13, Q14, Nat.reduceAdd, Q15, Int.reduceToNat, Q16, Q17, Q18, Q19, Q20, reduceIte, Q21, Q22, zu, rep, zO, toDs, toD, zaa, Q23, Q24, Q25, Q26, Q27, Q28, Nat.reduceLeDiff, Q29, Nat.reduceSub, Q30, Q31, Q32, sc, Q33, Q34, Q35, Q36, Q37, Q26, Q38, Q39, n0gt, n1gt, n2gt, n0eq, n1eq0, n1eq, n2eq, n0ne, n1ne, n1ne0, n0ne1, i0ne, i0eq, Bool.not_true, Bool.not_false, List.length_map, Option.isSome_none, numOf, a]; rfl) : P := (e a).mpr h
theorem c_rtSum {σ : List AObj} {id : Nat} {l : List (List UInt8)} {b : List UInt8} (hT : σ[id]? = some (rtO l)) (hbl : b.length ≤ 1073741824) (hl0 : l.length ≤ 1048576) {K : AV → List AObj → Prop}
    (hK : K (.d (.int .i64 (sumN l b))) (σ.set id (rtO (sumL l b)))) : ACall Tryz.prog zbG [.box id 0, .d (.slice (bcs b))] σ K := by
  refine acall_ofW zjI rfl fun hl _ => zlr ?_
  have hlen : (tabE l).length = l.length := List.length_map ..
  have hb : ∀ τ, (σ ++ τ)[id]? = some (.box [.d (.slice (tabE l))]) := fun τ => zI hT
  have hb0 : σ[id]? = some (.box [.d (.slice (tabE l))]) := hT
  have hlt := zgf hT
  simp only [zgC]
  (repeat' (first | (refine gq1 ?_; try with_reducible exact True.intro) | ((with_reducible refine And.intro ?_ ?_); focus (first | omega | rfl | decide | (simp; done)))))
  refine zlb hT hl0 ?_
  cases ho : lookF l b with
  | some k =>
    simp only [sumN, sumL, ho] at hK
    rw [zaX hT] at hK
    (repeat' (first | (refine gq9 ?_; try with_reducible exact True.intro) | ((with_reducible refine And.intro ?_ ?_); focus (first | omega | rfl | decide | (simp; done)))))
    refine zgV ?_
    (first | refine zg (by simp [Low_d, dmT, dm, dm1, pack, zd, ze, zb]) hl ?_ | refine zf (by simp [Low_d, dmT, dm, dm1, pack, zd, ze, zb]) hl ?_)
    exact hK
  | none =>
    simp only [sumN, sumL, ho] at hK
    by_cases hfull : l.length ≥ 1048576
    · rw [if_pos hfull, if_pos hfull, zaX hT] at hK
      have hd : decide ((l.length : Int) ≥ 1048576) = true := by simp; omega
      (repeat' (first | (refine gq10 (gqc0 hb0 (gqc0 hlen hd)) ?_; try with_reducible exact True.intro) | ((with_reducible refine And.intro ?_ ?_); focus (first | omega | rfl | decide | (simp; done)))))
      refine zgV ?_
      (first | refine zg (by simp [Low_d, dmT, dm, dm1, pack, zd, ze, zb]) hl ?_ | refine zf (by simp [Low_d, dmT, dm, dm1, pack, zd, ze, zb]) hl ?_)
      exact hK
    · rw [if_neg hfull, if_neg hfull] at hK
      have hd : decide ((l.length : Int) ≥ 1048576) = false := by simp; omega
      have s1 : ∀ X τ, (σ ++ τ).set id X = σ.set id X ++ τ := fun X τ => zbb hT
      have g1 : ∀ X τ, (σ.set id X ++ τ)[id]? = some X := fun X τ => zI (zen hT)
      have bl : (bcs b).length = b.length := zbj b
      have b1 : ∀ e ∈ bcs b, e.length = 1 := zcS
      have t1 : ∀ e ∈ tabE l, e.length = 1 := znT (f := fun b => [D.slice (bcs b)]) (fun _ => rfl) l
      (repeat' (first | (refine gq10 (gqc0 hb (gqc0 hb0 (gqc0 hlen (gqc0 hd (gqc0 s1 (gqc0 g1 bl)))))) ?_; try with_reducible exact True.intro) | ((with_reducible refine And.intro ?_ ?_); focus (first | omega | rfl | decide | (simp; done)))))
      have e : tabE l ++ [[D.slice (bcs b)]] = tabE (l ++ [b]) := by simp [tabE]
      rw [e]
      exact znf hT (by simp [Low_d, dmT, dm, dm1, pack]) hl hK
theorem gq11 {A P Q : Prop} (a : A) (h : Q) (e : A → P = Q := by intro a; simp -dsimp only [↓zae, ↓loopL, ↓binC, ↓unC, ↓zL, ↓zD, ↓zE, ↓zF, ↓zP, ↓lenC, ↓slcC, ↓convC, ↓boxC, ↓zH, ↓loadC, ↓zp, ↓nilC, ↓zh, ↓zV, ↓zr, ↓idxSC, ↓idxAC, ↓zi, ↓zG, ↓zl, ↓zt, ↓zZ, ↓maxC, ↓minC, ↓zab, ↓zac, ↓mgetC, ↓msetC, ↓mdelC, ↓zn, ↓zW, ↓zC, ↓zq, ↓zN, binA, intOp, strOp, unA, esOf, bnd, intV, zR, fillV, srcE, dm, dm1, consO, cellA, maxL, minL, keepO, Q0, Q1, Q2, Q3, Q4, Q5, zK, zm, zw, zx, zy, Q6, Q7, Q8, Q9, Q10, Q11, Q12, Q13, Q14, Nat.reduceAdd, Q15, Int.reduceToNat, Q16, Q17, Q18, Q19, Q20, reduceIte, Q21, Q22, zu, rep, zO, toDs, toD, zaa, Q23, Q24, Q25, Q26, Q27, Q28, Nat.reduceLeDiff, Q29, Nat.reduceSub, Q30, Q31, Q32, sc, Q33, Q34, Q35, Q36, Q37, Q26, Q38, Q39, n0gt, n1gt, n2gt, n0eq, n1eq0, n1eq, n2eq, n0ne, n1ne, n1ne0, n0ne1, i0ne, i0eq, Bool.not_true, Bool.not_false, List.length_map, beq_self_eq_true, zaZ, signD, a]; rfl) : P := (e a).mpr h
theorem gq12 {A P Q : Prop} (a : A) (h : Q) (e : A → P = Q := by intro a; simp -dsimp only [↓zae, ↓loopL, ↓binC, ↓unC, ↓zL, ↓zD, ↓zE, ↓zF, ↓zP, ↓lenC, ↓slcC, ↓convC, ↓boxC, ↓zH, ↓loadC, ↓zp, ↓nilC, ↓zh, ↓zV, ↓zr, ↓idxSC, ↓idxAC, ↓zi, ↓zG, ↓zl, ↓zt, ↓zZ, ↓maxC, ↓minC, ↓zab, ↓zac, ↓mgetC, ↓msetC, ↓mdelC, ↓zn, ↓zW, ↓zC, ↓zq, ↓zN, binA, intOp, strOp, unA, esOf, bnd, intV, zR, fillV, srcE, dm, dm1, consO, cellA, maxL, minL, keepO, Q0, Q1, Q2, Q3, Q4, Q5, zK, zm, zw, zx, zy, Q6, Q7, Q8, Q9, Q10, Q11, Q12, Q13, Q14, Nat.reduceAdd, Q15, Int.reduceToNat, Q16, Q17, Q18, Q19, Q20, reduceIte, Q21, Q22, zu, rep, zO, toDs, toD, zaa, Q23, Q24, Q25, Q26, Q27, Q28, Nat.reduceLeDiff, Q29, Nat.reduceSub, Q30, Q31, Q32, sc, Q33, Q34, Q35, Q36, Q37, Q26, Q38, Q39, n0gt, n1gt, n2gt, n0eq, n1eq0, n1eq, n2eq, n0ne, n1ne, n1ne0, n0ne1, i0ne, i0eq, Bool.not_true, Bool.not_false, List.length_map, Bool.false_and, zaZ, signD, a]; rfl) : P := (e a).mpr h
theorem gq13 {A P Q : Prop} (a : A) (h : Q) (e : A → P = Q := by intro a; simp -dsimp only [↓zae, ↓loopL, ↓binC, ↓unC, ↓zL, ↓zD, ↓zE, ↓zF, ↓zP, ↓lenC, ↓slcC, ↓convC, ↓boxC, ↓zH, ↓loadC, ↓zp, ↓nilC, ↓zh, ↓zV, ↓zr, ↓idxSC, ↓idxAC, ↓zi, ↓zG, ↓zl, ↓zt, ↓zZ, ↓maxC, ↓minC, ↓zab, ↓zac, ↓mgetC, ↓msetC, ↓mdelC, ↓zn, ↓zW, ↓zC, ↓zq, ↓zN, binA, intOp, strOp, unA, esOf, bnd, intV, zR, fillV, srcE, dm, dm1, consO, cellA, maxL, minL, keepO, Q0, Q1, Q2, Q3, Q4, Q5, zK, zm, zw, zx, zy, Q6, Q7, Q8, Q9, Q10, Q11, Q12, Q13, Q14, Nat.reduceAdd, Q15, Int.reduceToNat, Q16, Q17, Q18, Q19, Q20, reduceIte, Q21, Q22, zu, rep, zO, toDs, toD, zaa, Q23, Q24, Q25, Q26, Q27, Q28, Nat.reduceLeDiff, Q29, Nat.reduceSub, Q30, Q31, Q32, sc, Q33, Q34, Q35, Q36, Q37, Q26, Q38, Q39, n0gt, n1gt, n2gt, n0eq, n1eq0, n1eq, n2eq, n0ne, n1ne, n1ne0, n0ne1, i0ne, i0eq, Bool.not_true, Bool.not_false, List.length_map, Bool.true_and, zaZ, signD, a]; rfl) : P := (e a).mpr h
theorem zjO {σ : List AObj} {id : Nat} {g : List TSign} {s : TSign} (hG : σ[id]? = some (rlO g)) (hg0 : g.length ≤ 1073741824) {K : AV → List AObj → Prop} (hK : K (.d (.bool (decide (s ∈ g)))) σ) :
    ACall Tryz.prog zaS [.box id 0, .agg [.d (.int .i64 s.key), .d (.int .i64 s.dig)]] σ K := by
  refine zo zgi rfl fun hl _ => zhx ?_
  have hlen : (ledE g).length = g.length := List.length_map ..
  have hb : ∀ τ, (σ ++ τ)[id]? = some (.box [.d (.slice (ledE g))]) := fun τ => zI hG
  simp only [zdU]
  (repeat' (first | (refine gq1 ?_; try with_reducible exact True.intro) | ((with_reducible refine And.intro ?_ ?_); focus (first | omega | rfl | decide | (simp; done)))))
  refine zU g.length (fun k vs q => vs = [.d (.int .i64 k)] ∧ q = σ ++ [.box [.d (.int .i64 s.key), .d (.int .i64 s.dig)]] ∧ s ∉ g.take k) ⟨rfl, rfl, by simp⟩ ?_
  rintro k vs q hk ⟨rfl, rfl, hno⟩
  by_cases hlt : k < g.length
  · have hd : decide ((k : Int) < (g.length : Int)) = true := by simp; omega
    have hx : g[k]? = some g[k] := by simp [hlt]
    have hgx := zas (f := signD) hx
    obtain ⟨x, hxe⟩ : ∃ x, g[k] = x := ⟨_, rfl⟩
    rw [hxe] at hx hgx
    by_cases he : x = s
    · subst he
      rw [decide_eq_true (List.mem_of_getElem? hx)] at hK
      (repeat' (first | (refine gq11 (gqc0 hlen (gqc0 hd (gqc0 hb hgx))) ?_; try with_reducible exact True.intro) | ((with_reducible refine And.intro ?_ ?_); focus (first | omega | rfl | decide | (simp; done)))))
      (first | refine zg (by simp [Low_d, dmT, dm, dm1, pack, zd, ze, zb]) hl ?_ | refine zf (by simp [Low_d, dmT, dm, dm1, pack, zd, ze, zb]) hl ?_)
      exact hK
    · have hn2 : s ∉ g.take (k + 1) := by
        rw [List.take_add_one, hx]; simp
        exact ⟨hno, fun h => he h.symm⟩
      have e : x = s ↔ x.key = s.key ∧ x.dig = s.dig := by cases s; cases x; simp
      cases h1 : (x.key == s.key)
      · (repeat' (first | (refine gq12 (gqc0 hlen (gqc0 hd (gqc0 hb (gqc0 hgx (gqc0 h1 (wki k (by omega))))))) ?_; try with_reducible exact True.intro) | ((with_reducible refine And.intro ?_ ?_); focus (first | omega | rfl | decide | (simp; done)))))
        exact Again.next hlt ⟨rfl, rfl, hn2⟩
      · have h2 : (x.dig == s.dig) = false := by
          have : ¬ x.dig = s.dig := fun h => he (e.2 ⟨by simpa using h1, h⟩)
          simpa using this
        (repeat' (first | (refine gq13 (gqc0 hlen (gqc0 hd (gqc0 hb (gqc0 hgx (gqc0 h1 (gqc0 h2 (wki k (by omega)))))))) ?_; try with_reducible exact True.intro) | ((with_reducible refine And.intro ?_ ?_); focus (first | omega | rfl | decide | (simp; done)))))
        exact Again.next hlt ⟨rfl, rfl, hn2⟩
  · have hd : decide ((k : Int) < (g.length : Int)) = false := by simp; omega
    rw [List.take_of_length_le (by omega)] at hno
    rw [decide_eq_false hno] at hK
    (repeat' (first | (refine gq2 (gqc0 hlen (gqc0 hd hb)) ?_; try with_reducible exact True.intro) | ((with_reducible refine And.intro ?_ ?_); focus (first | omega | rfl | decide | (simp; done)))))
    (first | refine zg (by simp [Low_d, dmT, dm, dm1, pack, zd, ze, zb]) hl ?_ | refine zf (by simp [Low_d, dmT, dm, dm1, pack, zd, ze, zb]) hl ?_)
    exact hK
theorem c_rgSign {σ : List AObj} {id : Nat} {g : List TSign} {k d : Int} (hG : σ[id]? = some (rlO g)) (hgl : g.length ≤ 1073741824) {K : AV → List AObj → Prop}
    (hK : K (.tup [signA (signR k d), .d (.int .i64 (signF k d))]) (σ.set id (rlO (signG g k d)))) : ACall Tryz.prog zbJ [.box id 0, .d (.int .i64 k), .d (.int .i64 d)] σ K := by
  refine acall_ofW zhL rfl fun hl _ => zjf ?_
  have hb : ∀ τ, (σ ++ τ)[id]? = some (.box [.d (.slice (ledE g))]) := fun τ => zI hG
  have hlen : (ledE g).length = g.length := List.length_map ..
  have bad : signF k d ≠ 0 → K (.tup [.agg [.d (.int .i64 0), .d (.int .i64 0)], .d (.int .i64 (signF k d))]) σ := fun h => by
    rw [signR, signG, if_neg h, if_neg h, zaX hG] at hK
    exact hK
  simp only [zeV]
  (repeat' (first | (refine gq1 ?_; try with_reducible exact True.intro) | ((with_reducible refine And.intro ?_ ?_); focus (first | omega | rfl | decide | (simp; done)))))
  cases h1 : decide (k < 0)
  · cases h2 : decide (k ≥ 21)
    · have hk : ¬ (k < 0 ∨ k ≥ 21) := by simp at h1 h2; omega
      cases h3 : decide (d < 1)
      · have he : signF k d = 0 := by rw [signF, if_neg hk, if_neg (by simpa using h3)]
        rw [he, signR, signG, if_pos he, if_pos he] at hK
        (repeat' (first | (refine gq2 (gqc0 h1 (gqc0 h2 h3)) ?_; try with_reducible exact True.intro) | ((with_reducible refine And.intro ?_ ?_); focus (first | omega | rfl | decide | (simp; done)))))
        refine zjO (s := ⟨k, d⟩) (zI hG) hgl ?_
        by_cases hs : (⟨k, d⟩ : TSign) ∈ g
        · rw [decide_eq_true hs]
          rw [signL, if_pos hs, zaX hG] at hK
          (repeat' (first | (refine gq2 hb ?_; try with_reducible exact True.intro) | ((with_reducible refine And.intro ?_ ?_); focus (first | omega | rfl | decide | (simp; done)))))
          refine zgV ?_
          (first | refine zg (by simp [Low_d, dmT, dm, dm1, pack, zd, ze, zb]) hl ?_ | refine zf (by simp [Low_d, dmT, dm, dm1, pack, zd, ze, zb]) hl ?_)
          exact hK
        · rw [decide_eq_false hs]
          rw [signL, if_neg hs] at hK
          have s1 : ∀ X τ, (σ ++ τ).set id X = σ.set id X ++ τ := fun X τ => zbb hG
          have L1 : ∀ X : AObj, σ.length = (σ.set id X).length := fun X => by simp
          have e1 : ∀ X τ n, (σ.set id X ++ τ)[σ.length + n]? = τ[n]? := fun X τ n => by rw [L1 X]; exact zm ..
          have e3 : ∀ X τ W, (σ.set id X ++ τ).set σ.length W = σ.set id X ++ τ.set 0 W := fun X τ W => by rw [L1 X]; exact zy ..
          have e4 : ∀ X τ, (σ.set id X ++ τ)[σ.length]? = τ[0]? := fun X τ => by rw [L1 X]; exact zw ..
          (repeat' (first | (refine gq2 (gqc0 hb (gqc0 hlen (gqc0 s1 (gqc0 e1 (gqc0 e3 e4))))) ?_; try with_reducible exact True.intro) | ((with_reducible refine And.intro ?_ ?_); focus (first | omega | rfl | decide | (simp; done)))))
          have e : ledE g ++ [[D.int .i64 k, D.int .i64 d]] = ledE (g ++ [⟨k, d⟩]) := by simp [ledE, zaw, signD]
          refine ⟨znT (f := signD) (fun _ => rfl) g, by simp, by omega, by simp, by omega, ?_⟩
          rw [e]
          exact znf hG (by simp [Low_d, dmT, dm, dm1, pack, zd, ze]) hl hK
      · have he : signF k d = 1 := by rw [signF, if_neg hk, if_pos (by simpa using h3)]
        have := bad (by rw [he]; decide)
        rw [he] at this
        (repeat' (first | (refine gq2 (gqc0 h1 (gqc0 h2 h3)) ?_; try with_reducible exact True.intro) | ((with_reducible refine And.intro ?_ ?_); focus (first | omega | rfl | decide | (simp; done)))))
        refine zgV ?_
        (first | refine zg (by simp [Low_d, dmT, dm, dm1, pack, zd, ze, zb]) hl ?_ | refine zf (by simp [Low_d, dmT, dm, dm1, pack, zd, ze, zb]) hl ?_)
        exact this
    · have he : signF k d = 20 := by rw [signF, if_pos (by simp at h2; omega)]
      have := bad (by rw [he]; decide)
      rw [he] at this
      (repeat' (first | (refine gq2 (gqc0 h1 h2) ?_; try with_reducible exact True.intro) | ((with_reducible refine And.intro ?_ ?_); focus (first | omega | rfl | decide | (simp; done)))))
      refine zgV ?_
      (first | refine zg (by simp [Low_d, dmT, dm, dm1, pack, zd, ze, zb]) hl ?_ | refine zf (by simp [Low_d, dmT, dm, dm1, pack, zd, ze, zb]) hl ?_)
      exact this
  · have he : signF k d = 20 := by rw [signF, if_pos (by simp at h1; omega)]
    have := bad (by rw [he]; decide)
    rw [he] at this
    (repeat' (first | (refine gq2 h1 ?_; try with_reducible exact True.intro) | ((with_reducible refine And.intro ?_ ?_); focus (first | omega | rfl | decide | (simp; done)))))
    refine zgV ?_
    (first | refine zg (by simp [Low_d, dmT, dm, dm1, pack, zd, ze, zb]) hl ?_ | refine zf (by simp [Low_d, dmT, dm, dm1, pack, zd, ze, zb]) hl ?_)
    exact this
end Go.Proofs.YtcappjcojggehaaGreat
