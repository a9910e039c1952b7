/- Contracts: a ledger signs; a table's clone; whether both were made. -/
import Derived.Test.YtcappjcojggehaaGreatId2
set_option linter.all false
set_option maxRecDepth 100000
set_option linter.unusedSimpArgs false
set_option linter.unusedVariables false
namespace Go.Proofs.YtcappjcojggehaaGreat
open Go.AW

def signA (s : TSign) : AV := .agg [.d (.int .i64 s.key), .d (.int .i64 s.dig)]
def signR (k d : Int) : TSign := if signF k d = 0 then ⟨k, d⟩ else ⟨0, 0⟩
def signG (g : List TSign) (k d : Int) : List TSign := if signF k d = 0 then signL g ⟨k, d⟩ else g
theorem gq6 {A P Q : Prop} (a : A) (h : Q) (e : A → P = Q := by intro a; simp -dsimp only [↓zae, ↓loopL, ↓binC, ↓unC, ↓zL, ↓zD, ↓zE, ↓zF, ↓zP, ↓lenC, ↓slcC, ↓convC, ↓boxC, ↓zH, ↓loadC, ↓zp, ↓nilC, ↓zh, ↓zV, ↓zr, ↓idxSC, ↓idxAC, ↓zi, ↓zG, ↓zl, ↓zt, ↓zZ, ↓maxC, ↓minC, ↓zab, ↓zac, ↓mgetC, ↓msetC, ↓mdelC, ↓zn, ↓zW, ↓zC, ↓zq, ↓zN, binA, intOp, strOp, unA, esOf, bnd, intV, zR, fillV, srcE, dm, dm1, consO, cellA, maxL, minL, keepO, Q0, Q1, Q2, Q3, Q4, Q5, zK, zm, zw, zx, zy, Q6, Q7, Q8, Q9, Q10, Q11, Q12, Q13, Q14, Nat.reduceAdd, Q15, Int.reduceToNat, Q16, Q17, Q18, Q19, Q20, reduceIte, Q21, Q22, zu, rep, zO, toDs, toD, zaa, Q23, Q24, Q25, Q26, Q27, Q28, Nat.reduceLeDiff, Q29, Nat.reduceSub, Q30, Q31, Q32, sc, Q33, Q34, Q35, Q36, Q37, Q26, Q38, Q39, n0gt, n1gt, n2gt, n0eq, n1eq0, n1eq, n2eq, n0ne, n1ne, n1ne0, n0ne1, i0ne, i0eq, Bool.not_true, Bool.not_false, List.length_map, zbz, zaZ, zbD, mgetC, mgetR, msetC, a]; rfl) : P := (e a).mpr h
theorem c_gSign {σ : List AObj} {id m t : Nat} {g : List TSign} {k d : Int} (hG : LedAt σ id m t g) (hgl : g.length ≤ 1073741824) {K : AV → List AObj → Prop}
    (hK : K (.tup [signA (signR k d), .d (.int .i64 (signF k d))]) (putLed σ id m t (signG g k d))) : ACall Tryz.prog zbq [.box id 0, .d (.int .i64 k), .d (.int .i64 d)] σ K := by
  refine zo zgo rfl fun hl _ => zhD ?_
  have hb : ∀ τ, (σ ++ τ)[id]? = some (.box [.own t (ledE g), .map m]) := fun τ => zI hG.box
  have hm : ∀ τ, (σ ++ τ)[m]? = some (.map (ledM g)) := fun τ => zI hG.map
  obtain ⟨n1, n2, n3⟩ := hG.ne
  have hlen : (ledE g).length = g.length := List.length_map ..
  have bad : signF k d ≠ 0 → K (.tup [.agg [.d (.int .i64 0), .d (.int .i64 0)], .d (.int .i64 (signF k d))]) σ := fun h => by
    rw [signR, signG, if_neg h, if_neg h, hG.self] at hK
    exact hK
  simp only [zea]
  (repeat' (first | (refine gq1 ?_; try with_reducible exact True.intro) | ((with_reducible refine And.intro ?_ ?_); focus (first | omega | rfl | decide | (simp; done)))))
  refine zos (hG.app _) ?_
  cases h1 : decide (k < 0)
  · cases h2 : decide (k ≥ 21)
    · have hk : ¬ (k < 0 ∨ k ≥ 21) := by simp at h1 h2; omega
      cases h3 : decide (d < 1)
      · have he : signF k d = 0 := by rw [signF, if_neg hk, if_neg (by simpa using h3)]
        rw [he, signR, signG, if_pos he, if_pos he] at hK
        by_cases hs : (⟨k, d⟩ : TSign) ∈ g
        · obtain ⟨j, hf⟩ := zit hs
          simp only at hf
          rw [signL, if_pos hs, hG.self] at hK
          (repeat' (first | (refine gq4 (gqc0 h1 (gqc0 h2 (gqc0 h3 (gqc0 hb (gqc0 hm hf))))) ?_; try with_reducible exact True.intro) | ((with_reducible refine And.intro ?_ ?_); focus (first | omega | rfl | decide | (simp; done)))))
          (first | refine zg (by simp [Low_d, dmT, dm, dm1, pack, zd, ze, zb]) hl ?_ | refine zf (by simp [Low_d, dmT, dm, dm1, pack, zd, ze, zb]) hl ?_)
          exact hK
        · have hf := zko hs
          simp only at hf
          rw [signL, if_neg hs] at hK
          have hmm : σ[m]? = some (.map (ledM g)) := hG.map
          have s1 : ∀ X τ, (σ ++ τ).set m X = σ.set m X ++ τ := fun X τ => zbb hG.map
          have hb' : ∀ X, (σ.set m X)[id]? = some (.box [.own t (ledE g), .map m]) := fun X => by rw [List.getElem?_set_ne (Ne.symm n1)]; exact hG.box
          have ht' : ∀ X, (σ.set m X)[t]? = some (.tok 2 g.length) := fun X => by rw [List.getElem?_set_ne n3]; exact hG.tok
          have g3 : ∀ X τ, (σ.set m X ++ τ)[id]? = some (.box [.own t (ledE g), .map m]) := fun X τ => zI (hb' X)
          have g4 : ∀ X τ, (σ.set m X ++ τ)[t]? = some (.tok 2 g.length) := fun X τ => zI (ht' X)
          have s2 : ∀ X Y τ, (σ.set m X ++ τ).set t Y = (σ.set m X).set t Y ++ τ := fun X Y τ => zbb (ht' X)
          have hb2 : ∀ X Y, ((σ.set m X).set t Y)[id]? = some (.box [.own t (ledE g), .map m]) := fun X Y => by rw [List.getElem?_set_ne (Ne.symm n2)]; exact hb' X
          have s3 : ∀ X Y Z τ, ((σ.set m X).set t Y ++ τ).set id Z = ((σ.set m X).set t Y).set id Z ++ τ := fun X Y Z τ => zbb (hb2 X Y)
          have g5 : ∀ X Y τ, ((σ.set m X).set t Y ++ τ)[id]? = some (.box [.own t (ledE g), .map m]) := fun X Y τ => zI (hb2 X Y)
          have L1 : ∀ X : AObj, σ.length = (σ.set m X).length := fun X => by simp
          have L2 : ∀ X Y : AObj, σ.length = ((σ.set m X).set t Y).length := fun X Y => by simp
          have L3 : ∀ X Y Z : AObj, σ.length = (((σ.set m X).set t Y).set id Z).length := fun X Y Z => by simp
          have e1 : ∀ X τ n, (σ.set m X ++ τ)[σ.length + n]? = τ[n]? := fun X τ n => by rw [L1 X]; exact zm ..
          have e2 : ∀ X Y Z τ n, (((σ.set m X).set t Y).set id Z ++ τ)[σ.length + n]? = τ[n]? := fun X Y Z τ n => by rw [L3 X Y Z]; exact zm ..
          have e3 : ∀ X Y Z τ W, (((σ.set m X).set t Y).set id Z ++ τ).set σ.length W = ((σ.set m X).set t Y).set id Z ++ τ.set 0 W := fun X Y Z τ W => by rw [L3 X Y Z]; exact zy ..
          have e4 : ∀ X Y Z τ, (((σ.set m X).set t Y).set id Z ++ τ)[σ.length]? = τ[0]? := fun X Y Z τ => by rw [L3 X Y Z]; exact zw ..
          (repeat' (first | (refine gq6 (gqc0 h1 (gqc0 h2 (gqc0 h3 (gqc0 hb (gqc0 hm (gqc0 hf (gqc0 s1 (gqc0 g3 (gqc0 g4 (gqc0 s2 (gqc0 s3 (gqc0 g5 (gqc0 e1 (gqc0 e2 (gqc0 e3 (gqc0 e4 hlen)))))))))))))))) ?_; try with_reducible exact True.intro) | ((with_reducible refine And.intro ?_ ?_); focus (first | omega | rfl | decide | (simp; done)))))
          have e : putLed σ id m t (g ++ [⟨k, d⟩]) = (((σ.set m (AObj.map (ledM g ++ [(AV.agg [AV.d (D.int IntKind.i64 k), AV.d (D.int IntKind.i64 d)], AV.d (D.bool true))]))).set t (AObj.tok 2 (g.length + 1))).set id (AObj.box [AV.own t (ledE g ++ [[D.int IntKind.i64 k, D.int IntKind.i64 d]]), AV.map m])) := by
            rw [ledM_add g ⟨k, d⟩]
            simp [putLed, ledE, signD]
          rw [← e]
          exact zeo (putLed_len ..) (by simp [Low_d, dmT, dm, dm1, pack, zd, ze]) (hG.lows hl _) hK
      · have he : signF k d = 1 := by rw [signF, if_neg hk, if_pos (by simpa using h3)]
        have := bad (by rw [he]; decide)
        rw [he] at this
        (repeat' (first | (refine gq2 (gqc0 h1 (gqc0 h2 h3)) ?_; try with_reducible exact True.intro) | ((with_reducible refine And.intro ?_ ?_); focus (first | omega | rfl | decide | (simp; done)))))
        (first | refine zg (by simp [Low_d, dmT, dm, dm1, pack, zd, ze, zb]) hl ?_ | refine zf (by simp [Low_d, dmT, dm, dm1, pack, zd, ze, zb]) hl ?_)
        exact this
    · have he : signF k d = 20 := by rw [signF, if_pos (by simp at h2; omega)]
      have := bad (by rw [he]; decide)
      rw [he] at this
      (repeat' (first | (refine gq2 (gqc0 h1 h2) ?_; try with_reducible exact True.intro) | ((with_reducible refine And.intro ?_ ?_); focus (first | omega | rfl | decide | (simp; done)))))
      (first | refine zg (by simp [Low_d, dmT, dm, dm1, pack, zd, ze, zb]) hl ?_ | refine zf (by simp [Low_d, dmT, dm, dm1, pack, zd, ze, zb]) hl ?_)
      exact this
  · have he : signF k d = 20 := by rw [signF, if_pos (by simp at h1; omega)]
    have := bad (by rw [he]; decide)
    rw [he] at this
    (repeat' (first | (refine gq2 h1 ?_; try with_reducible exact True.intro) | ((with_reducible refine And.intro ?_ ?_); focus (first | omega | rfl | decide | (simp; done)))))
    (first | refine zg (by simp [Low_d, dmT, dm, dm1, pack, zd, ze, zb]) hl ?_ | refine zf (by simp [Low_d, dmT, dm, dm1, pack, zd, ze, zb]) hl ?_)
    exact this
theorem gq7 {P Q : Prop} (h : Q) (e : P = Q := by simp -dsimp only [↓zae, ↓loopL, ↓binC, ↓unC, ↓zL, ↓zD, ↓zE, ↓zF, ↓zP, ↓lenC, ↓slcC, ↓convC, ↓boxC, ↓zH, ↓loadC, ↓zp, ↓nilC, ↓zh, ↓zV, ↓zr, ↓idxSC, ↓idxAC, ↓zi, ↓zG, ↓zl, ↓zt, ↓zZ, ↓maxC, ↓minC, ↓zab, ↓zac, ↓mgetC, ↓msetC, ↓mdelC, ↓zn, ↓zW, ↓zC, ↓zq, ↓zN, binA, intOp, strOp, unA, esOf, bnd, intV, zR, fillV, srcE, dm, dm1, consO, cellA, maxL, minL, keepO, Q0, Q1, Q2, Q3, Q4, Q5, zK, zm, zw, zx, zy, Q6, Q7, Q8, Q9, Q10, Q11, Q12, Q13, Q14, Nat.reduceAdd, Q15, Int.reduceToNat, Q16, Q17, Q18, Q19, Q20, reduceIte, Q21, Q22, zu, rep, zO, toDs, toD, zaa, Q23, Q24, Q25, Q26, Q27, Q28, Nat.reduceLeDiff, Q29, Nat.reduceSub, Q30, Q31, Q32, sc, Q33, Q34, Q35, Q36, Q37, Q26, Q38, Q39, n0gt, n1gt, n2gt, n0eq, n1eq0, n1eq, n2eq, n0ne, n1ne, n1ne0, n0ne1, i0ne, i0eq, Bool.not_true, Bool.not_false, List.length_map, Option.isSome_none]; rfl) : P := e.mpr h
theorem c_From {σ : List AObj} {l : List (List UInt8)} (hn : l.Nodup) (hl0 : l.length ≤ 1048576) (hb : ∀ b ∈ l, b.length ≤ 1073741824) {K : AV → List AObj → Prop}
    (hK : K (.tup [.box (σ.length + 1) 0, .d (.int .i64 0)]) (σ ++ tabO σ.length l)) : ACall Tryz.prog zgd [.d (.slice (tabE l))] σ K := by
  refine zaQ zmG rfl (fun s => List.range' σ.length 3) fun hl _ => s_ideal_From ?_
  have hlen : (tabE l).length = l.length := List.length_map ..
  have hd : decide ((l.length : Int) > 1048576) = false := by simp; omega
  simp only [zkA]
  (repeat' (first | (refine gq2 (gqc0 hlen hd) ?_; try with_reducible exact True.intro) | ((with_reducible refine And.intro ?_ ?_); focus (first | omega | rfl | decide | (simp; done)))))
  refine znk ?_
  (repeat' (first | (refine gq1 ?_; try with_reducible exact True.intro) | ((with_reducible refine And.intro ?_ ?_); focus (first | omega | rfl | decide | (simp; done)))))
  refine zU l.length (fun k vs s => vs = [.d (.int .i64 k)] ∧ s = σ ++ tabO σ.length (l.take k)) ⟨rfl, rfl⟩ ?_
  rintro k vs s hk ⟨rfl, rfl⟩
  by_cases hlt : k < l.length
  · have hd : decide ((k : Int) < (l.length : Int)) = true := by simp; omega
    have hx : l[k]? = some l[k] := by simp [hlt]
    have hgx := zas (f := fun b => [D.slice (bcs b)]) hx
    have hxb := hb _ (List.getElem_mem hlt)
    have hnot : l[k] ∉ l.take k := fun hm => by
      obtain ⟨i, hi, he⟩ := List.mem_take_iff_getElem.1 hm
      have := (List.getElem_inj hn).1 he
      omega
    obtain ⟨x, hxe⟩ : ∃ x, l[k] = x := ⟨_, rfl⟩
    rw [hxe] at hx hgx hxb hnot
    have hno := zmZ hnot
    have hT : TabAt (σ ++ tabO σ.length (l.take k)) (σ.length + 1) σ.length (σ.length + 2) (l.take k) := by simpa using tabAt_new σ (l.take k) []
    have hP : ∀ l', putTab (σ ++ tabO σ.length (l.take k)) (σ.length + 1) σ.length (σ.length + 2) l' = σ ++ tabO σ.length l' := fun l' => by simpa using putTab_new σ (l.take k) l' []
    (repeat' (first | (refine gq2 (gqc0 hlen (gqc0 hd hgx)) ?_; try with_reducible exact True.intro) | ((with_reducible refine And.intro ?_ ?_); focus (first | omega | rfl | decide | (simp; done)))))
    refine zon hT ?_
    rw [hno]
    (repeat' (first | (refine gq7 ?_; try with_reducible exact True.intro) | ((with_reducible refine And.intro ?_ ?_); focus (first | omega | rfl | decide | (simp; done)))))
    refine c_tSum hT hxb (by rw [List.length_take]; omega) ?_
    rw [hP]
    have e : sumL (l.take k) x = l.take (k + 1) := by
      have h1 : (l.take k).length = k := by rw [List.length_take]; omega
      rw [sumL, hno]
      simp only [h1]
      rw [if_neg (by omega), List.take_add_one, hx]; rfl
    rw [e]
    have hw : IntKind.i64.wrap ((k : Int) + 1) = ((k + 1 : Nat) : Int) := by rw [zad (by omega) (by omega)]; rfl
    (repeat' (first | (refine gq2 hw ?_; try with_reducible exact True.intro) | ((with_reducible refine And.intro ?_ ?_); focus (first | omega | rfl | decide | (simp; done)))))
    exact Again.next hlt ⟨rfl, rfl⟩
  · have hd : decide ((k : Int) < (l.length : Int)) = false := by simp; omega
    rw [List.take_of_length_le (by omega)]
    (repeat' (first | (refine gq2 (gqc0 hlen hd) ?_; try with_reducible exact True.intro) | ((with_reducible refine And.intro ?_ ?_); focus (first | omega | rfl | decide | (simp; done)))))
    refine zcx (σ' := σ) (os := tabO σ.length l) rfl rfl hl (low_tabO _ _) ?_ hK
    exact .tup _ (by simp [Low_d]; exact .box _ _ (by simp))
theorem c_tClone {σ : List AObj} {id m t : Nat} {l : List (List UInt8)} (hT : TabAt σ id m t l) (hn : l.Nodup) (hl0 : l.length ≤ 1048576) (hb : ∀ b ∈ l, b.length ≤ 1073741824) {K : AV → List AObj → Prop}
    (hK : K (.box (σ.length + 1) 0) (σ ++ tabO σ.length l)) : ACall Tryz.prog zbp [.box id 0] σ K := by
  refine zaQ zgm rfl (fun s => List.range' σ.length 3) fun hl _ => zhB ?_
  have hbx := hT.box
  simp only [zdY]
  (repeat' (first | (refine gq1 ?_; try with_reducible exact True.intro) | ((with_reducible refine And.intro ?_ ?_); focus (first | omega | rfl | decide | (simp; done)))))
  refine zom hT ?_
  (repeat' (first | (refine gq2 hbx ?_; try with_reducible exact True.intro) | ((with_reducible refine And.intro ?_ ?_); focus (first | omega | rfl | decide | (simp; done)))))
  refine c_From hn hl0 hb ?_
  (repeat' (first | (refine gq1 ?_; try with_reducible exact True.intro) | ((with_reducible refine And.intro ?_ ?_); focus (first | omega | rfl | decide | (simp; done)))))
  exact zcx (σ' := σ) (os := tabO σ.length l) rfl rfl hl (low_tabO _ _) (.box _ _ (by simp)) hK
end Go.Proofs.YtcappjcojggehaaGreat
