/- Contracts: a ledger signs; a table's clone; whether both were made. -/
import Derived.Test.YtcappjcojggehaaGreatId2
set_option linter.all false
set_option maxRecDepth 100000
set_option linter.unusedSimpArgs false
set_option linter.unusedVariables false
namespace Go.Proofs.YtcappjcojggehaaGreat
open Go.AW

def zlD (s : zR) : AV := .agg [.d (.int .i64 s.key), .d (.int .i64 s.dig)]
def signR (k d : Int) : zR := if zdm k d = 0 then ⟨k, d⟩ else ⟨0, 0⟩
def zeB (g : List zR) (k d : Int) : List zR := if zdm k d = 0 then zmQ g ⟨k, d⟩ else g
theorem gq6 {A P Q : Prop} (a : A) (h : Q) (e : A → P = Q := by intro a; simp -dsimp only [↓zcS, ↓zal, ↓zaI, ↓zcT, ↓zcN, ↓zcL, ↓zcO, ↓zcM, ↓zaN, ↓zaJ, ↓zaO, ↓zaK, ↓zcP, ↓zaH, ↓zaP, ↓zaL, ↓zaQ, ↓zaM, ↓zcK, ↓zcQ, ↓zaG, ↓zaR, ↓zcH, ↓zcG, ↓zcJ, iN, bT, bF, eN, ↓zbI, ↓unC, ↓zJ, ↓zx, ↓zy, ↓zC, ↓zQ, ↓zaA, ↓zbD, ↓zaa, ↓zbg, ↓zU, ↓zl, ↓zu, ↓zba, ↓ze, ↓zY, ↓zH, ↓zap, ↓zaw, ↓zc, ↓zD, ↓zj, ↓zo, ↓zad, ↓zbM, ↓zbX, ↓zaf, ↓zaj, ↓zar, ↓zax, ↓zaC, ↓zh, ↓zZ, ↓zB, ↓zk, ↓zO, zbS, zaF, zaD, unA, zcd, bnd, zcp, zT, zag, zcs, dm, dm1, zN, zaq, zcv, zcu, zL, Q0, Q1, Q2, Q3, Q4, Q5, zI, zg, zr, zt, zw, Q6, Q7, Q8, Q9, Q10, Q11, Q12, Q13, Q14, Nat.reduceAdd, Q15, Int.reduceToNat, Q16, Q17, Q18, Q19, Q20, reduceIte, Q21, Q22, zq, rep, zP, zcI, toD, zae, Q23, Q24, Q25, Q26, Q27, Q28, Nat.reduceLeDiff, Q29, Nat.reduceSub, Q30, Q31, Q32, sc, Q33, Q34, Q35, Q36, Q37, Q26, Q38, Q39, zfN, zfK, zfH, zfO, zbV, zfL, zfI, zfM, zfJ, zbU, zbW, zfQ, zfR, Bool.not_true, Bool.not_false, List.length_map, zcq, zbH, zct, zar, mgetR, zax, a]; rfl) : P := (e a).mpr h
theorem c_gSign {σ : List zb} {id m t : Nat} {g : List zR} {k d : Int} (hG : zcz σ id m t g) (hgl : g.length ≤ 1073741824) {K : AV → List zb → Prop}
    (hK : K (.tup [zlD (signR k d), .d (.int .i64 (zdm k d))]) (putLed σ id m t (zeB g k d))) : zK Tryz.prog zci [.box id 0, .d (.int .i64 k), .d (.int .i64 d)] σ K := by
  refine zi zeR.is rfl fun hl _ => zeR.goes ?_
  have hb : ∀ τ, (σ ++ τ)[id]? = some (.box [.own t (ziS g), .map m]) := fun τ => zE hG.box
  have hm : ∀ τ, (σ ++ τ)[m]? = some (.map (zmO g)) := fun τ => zE hG.map
  obtain ⟨n1, n2, n3⟩ := hG.ne
  have hlen : (ziS g).length = g.length := List.length_map ..
  have bad : zdm k d ≠ 0 → K (.tup [.agg [.d (.int .i64 0), .d (.int .i64 0)], .d (.int .i64 (zdm k d))]) σ := fun h => by
    rw [signR, zeB, if_neg h, if_neg h, hG.self] at hK
    exact hK
  simp only [zfb, iN, bT, bF, eN]
  (repeat' first | refine gq1 ?_ | with_reducible first | exact ⟨⟩ | refine zn ?_ | fail)
  refine zoP (hG.app _) ?_
  cases h1 : decide (k < 0)
  · cases h2 : decide (k ≥ 21)
    · have hk : ¬ (k < 0 ∨ k ≥ 21) := by simp at h1 h2; omega
      cases h3 : decide (d < 1)
      · have he : zdm k d = 0 := by rw [zdm, if_neg hk, if_neg (by simpa using h3)]
        rw [he, signR, zeB, if_pos he, if_pos he] at hK
        by_cases hs : (⟨k, d⟩ : zR) ∈ g
        · obtain ⟨j, hf⟩ := zjn hs
          simp only at hf
          rw [zmQ, if_pos hs, hG.self] at hK
          (repeat' first | refine gq4 (zp h1 (zp h2 (zp h3 (zp hb (zp hm hf))))) ?_ | with_reducible first | exact ⟨⟩ | refine zn ?_ | fail)
          (first | refine zai hl ?_ | refine zah hl ?_)
          exact hK
        · have hf := zkN hs
          simp only at hf
          rw [zmQ, if_neg hs] at hK
          have hmm : σ[m]? = some (.map (zmO g)) := hG.map
          have s1 : ∀ X τ, (σ ++ τ).set m X = σ.set m X ++ τ := fun X τ => zbO hG.map
          have hb' : ∀ X, (σ.set m X)[id]? = some (.box [.own t (ziS g), .map m]) := fun X => by rw [List.getElem?_set_ne (Ne.symm n1)]; exact hG.box
          have ht' : ∀ X, (σ.set m X)[t]? = some (.tok 2 g.length) := fun X => by rw [List.getElem?_set_ne n3]; exact hG.tok
          have g3 : ∀ X τ, (σ.set m X ++ τ)[id]? = some (.box [.own t (ziS g), .map m]) := fun X τ => zE (hb' X)
          have g4 : ∀ X τ, (σ.set m X ++ τ)[t]? = some (.tok 2 g.length) := fun X τ => zE (ht' X)
          have s2 : ∀ X Y τ, (σ.set m X ++ τ).set t Y = (σ.set m X).set t Y ++ τ := fun X Y τ => zbO (ht' X)
          have hb2 : ∀ X Y, ((σ.set m X).set t Y)[id]? = some (.box [.own t (ziS g), .map m]) := fun X Y => by rw [List.getElem?_set_ne (Ne.symm n2)]; exact hb' X
          have s3 : ∀ X Y Z τ, ((σ.set m X).set t Y ++ τ).set id Z = ((σ.set m X).set t Y).set id Z ++ τ := fun X Y Z τ => zbO (hb2 X Y)
          have g5 : ∀ X Y τ, ((σ.set m X).set t Y ++ τ)[id]? = some (.box [.own t (ziS g), .map m]) := fun X Y τ => zE (hb2 X Y)
          have L1 : ∀ X : zb, σ.length = (σ.set m X).length := fun X => by simp
          have L2 : ∀ X Y : zb, σ.length = ((σ.set m X).set t Y).length := fun X Y => by simp
          have L3 : ∀ X Y Z : zb, σ.length = (((σ.set m X).set t Y).set id Z).length := fun X Y Z => by simp
          have e1 : ∀ X τ n, (σ.set m X ++ τ)[σ.length + n]? = τ[n]? := fun X τ n => by rw [L1 X]; exact zg ..
          have e2 : ∀ X Y Z τ n, (((σ.set m X).set t Y).set id Z ++ τ)[σ.length + n]? = τ[n]? := fun X Y Z τ n => by rw [L3 X Y Z]; exact zg ..
          have e3 : ∀ X Y Z τ W, (((σ.set m X).set t Y).set id Z ++ τ).set σ.length W = ((σ.set m X).set t Y).set id Z ++ τ.set 0 W := fun X Y Z τ W => by rw [L3 X Y Z]; exact zw ..
          have e4 : ∀ X Y Z τ, (((σ.set m X).set t Y).set id Z ++ τ)[σ.length]? = τ[0]? := fun X Y Z τ => by rw [L3 X Y Z]; exact zr ..
          (repeat' first | refine gq6 (zp h1 (zp h2 (zp h3 (zp hb (zp hm (zp hf (zp s1 (zp g3 (zp g4 (zp s2 (zp s3 (zp g5 (zp e1 (zp e2 (zp e3 (zp e4 hlen)))))))))))))))) ?_ | with_reducible first | exact ⟨⟩ | refine zn ?_ | fail)
          have e : putLed σ id m t (g ++ [⟨k, d⟩]) = (((σ.set m (zb.map (zmO g ++ [(AV.agg [AV.d (D.int IntKind.i64 k), AV.d (D.int IntKind.i64 d)], AV.d (D.bool true))]))).set t (zb.tok 2 (g.length + 1))).set id (zb.box [AV.own t (ziS g ++ [[D.int IntKind.i64 k, D.int IntKind.i64 d]]), AV.map m])) := by
            rw [ledM_add g ⟨k, d⟩]
            simp [putLed, ziS, zhu]
          rw [← e]
          exact zfm (putLed_len ..) (by simp [zhr, dmT, dm, dm1, zcV, zej, zgI]) (hG.lows hl _) hK
      · have he : zdm k d = 1 := by rw [zdm, if_neg hk, if_pos (by simpa using h3)]
        have := bad (by rw [he]; decide)
        rw [he] at this
        (repeat' first | refine gq2 (zp h1 (zp h2 h3)) ?_ | with_reducible first | exact ⟨⟩ | refine zn ?_ | fail)
        (first | refine zai hl ?_ | refine zah hl ?_)
        exact this
    · have he : zdm k d = 20 := by rw [zdm, if_pos (by simp at h2; omega)]
      have := bad (by rw [he]; decide)
      rw [he] at this
      (repeat' first | refine gq2 (zp h1 h2) ?_ | with_reducible first | exact ⟨⟩ | refine zn ?_ | fail)
      (first | refine zai hl ?_ | refine zah hl ?_)
      exact this
  · have he : zdm k d = 20 := by rw [zdm, if_pos (by simp at h1; omega)]
    have := bad (by rw [he]; decide)
    rw [he] at this
    (repeat' first | refine gq2 h1 ?_ | with_reducible first | exact ⟨⟩ | refine zn ?_ | fail)
    (first | refine zai hl ?_ | refine zah hl ?_)
    exact this
theorem gq7 {P Q : Prop} (h : Q) (e : P = Q := by simp -dsimp only [↓zcS, ↓zal, ↓zaI, ↓zcT, ↓zcN, ↓zcL, ↓zcO, ↓zcM, ↓zaN, ↓zaJ, ↓zaO, ↓zaK, ↓zcP, ↓zaH, ↓zaP, ↓zaL, ↓zaQ, ↓zaM, ↓zcK, ↓zcQ, ↓zaG, ↓zaR, ↓zcH, ↓zcG, ↓zcJ, iN, bT, bF, eN, ↓zbI, ↓unC, ↓zJ, ↓zx, ↓zy, ↓zC, ↓zQ, ↓zaA, ↓zbD, ↓zaa, ↓zbg, ↓zU, ↓zl, ↓zu, ↓zba, ↓ze, ↓zY, ↓zH, ↓zap, ↓zaw, ↓zc, ↓zD, ↓zj, ↓zo, ↓zad, ↓zbM, ↓zbX, ↓zaf, ↓zaj, ↓zar, ↓zax, ↓zaC, ↓zh, ↓zZ, ↓zB, ↓zk, ↓zO, zbS, zaF, zaD, unA, zcd, bnd, zcp, zT, zag, zcs, dm, dm1, zN, zaq, zcv, zcu, zL, Q0, Q1, Q2, Q3, Q4, Q5, zI, zg, zr, zt, zw, Q6, Q7, Q8, Q9, Q10, Q11, Q12, Q13, Q14, Nat.reduceAdd, Q15, Int.reduceToNat, Q16, Q17, Q18, Q19, Q20, reduceIte, Q21, Q22, zq, rep, zP, zcI, toD, zae, Q23, Q24, Q25, Q26, Q27, Q28, Nat.reduceLeDiff, Q29, Nat.reduceSub, Q30, Q31, Q32, sc, Q33, Q34, Q35, Q36, Q37, Q26, Q38, Q39, zfN, zfK, zfH, zfO, zbV, zfL, zfI, zfM, zfJ, zbU, zbW, zfQ, zfR, Bool.not_true, Bool.not_false, List.length_map, Option.isSome_none]; rfl) : P := e.mpr h
theorem c_From {σ : List zb} {l : List (List UInt8)} (hn : l.Nodup) (hl0 : l.length ≤ 1048576) (hb : ∀ b ∈ l, b.length ≤ 1073741824) {K : AV → List zb → Prop}
    (hK : K (.tup [.box (σ.length + 1) 0, .d (.int .i64 0)]) (σ ++ tabO σ.length l)) : zK Tryz.prog zhB [.d (.slice (zjW l))] σ K := by
  refine zbw zkX.is rfl (fun s => List.range' σ.length 3) fun hl _ => zkX.goes ?_
  have hlen : (zjW l).length = l.length := List.length_map ..
  have hd : decide ((l.length : Int) > 1048576) = false := by simp; omega
  simp only [zlj, iN, bT, bF, eN]
  (repeat' first | refine gq2 (zp hlen hd) ?_ | with_reducible first | exact ⟨⟩ | refine zn ?_ | fail)
  refine znS ?_
  (repeat' first | refine gq1 ?_ | with_reducible first | exact ⟨⟩ | refine zn ?_ | fail)
  refine zX l.length (fun k vs s => vs = [.d (.int .i64 k)] ∧ s = σ ++ tabO σ.length (l.take k)) ⟨rfl, rfl⟩ ?_
  rintro k vs s hk ⟨rfl, rfl⟩
  by_cases hlt : k < l.length
  · have hd : decide ((k : Int) < (l.length : Int)) = true := by simp; omega
    have hx : l[k]? = some l[k] := by simp [hlt]
    have hgx := zaS (f := fun b => [D.slice (bcs b)]) hx
    have hxb := hb _ (List.getElem_mem hlt)
    have hnot : l[k] ∉ l.take k := fun hm => by
      obtain ⟨i, hi, he⟩ := List.mem_take_iff_getElem.1 hm
      have := (List.getElem_inj hn).1 he
      omega
    obtain ⟨x, hxe⟩ : ∃ x, l[k] = x := ⟨_, rfl⟩
    rw [hxe] at hx hgx hxb hnot
    have hno := zns hnot
    have hT : zcy (σ ++ tabO σ.length (l.take k)) (σ.length + 1) σ.length (σ.length + 2) (l.take k) := by simpa using tabAt_new σ (l.take k) []
    have hP : ∀ l', putTab (σ ++ tabO σ.length (l.take k)) (σ.length + 1) σ.length (σ.length + 2) l' = σ ++ tabO σ.length l' := fun l' => by simpa using putTab_new σ (l.take k) l' []
    (repeat' first | refine gq2 (zp hlen (zp hd hgx)) ?_ | with_reducible first | exact ⟨⟩ | refine zn ?_ | fail)
    refine zoK hT ?_
    rw [hno]
    (repeat' first | refine gq7 ?_ | with_reducible first | exact ⟨⟩ | refine zn ?_ | fail)
    refine c_tSum hT hxb (by rw [List.length_take]; omega) ?_
    rw [hP]
    have e : zjc (l.take k) x = l.take (k + 1) := by
      have h1 : (l.take k).length = k := by rw [List.length_take]; omega
      rw [zjc, hno]
      simp only [h1]
      rw [if_neg (by omega), List.take_add_one, hx]; rfl
    rw [e]
    have hw : IntKind.i64.wrap ((k : Int) + 1) = ((k + 1 : Nat) : Int) := by rw [zak (by omega) (by omega)]; rfl
    (repeat' first | refine gq2 hw ?_ | with_reducible first | exact ⟨⟩ | refine zn ?_ | fail)
    exact zbh.next hlt ⟨rfl, rfl⟩
  · have hd : decide ((k : Int) < (l.length : Int)) = false := by simp; omega
    rw [List.take_of_length_le (by omega)]
    (repeat' first | refine gq2 (zp hlen hd) ?_ | with_reducible first | exact ⟨⟩ | refine zn ?_ | fail)
    refine zdu (σ' := σ) (os := tabO σ.length l) rfl rfl hl (low_tabO _ _) ?_ hK
    exact .tup _ (by simp [zhr]; exact .box _ _ (by simp))
theorem c_tClone {σ : List zb} {id m t : Nat} {l : List (List UInt8)} (hT : zcy σ id m t l) (hn : l.Nodup) (hl0 : l.length ≤ 1048576) (hb : ∀ b ∈ l, b.length ≤ 1073741824) {K : AV → List zb → Prop}
    (hK : K (.box (σ.length + 1) 0) (σ ++ tabO σ.length l)) : zK Tryz.prog zch [.box id 0] σ K := by
  refine zbw zeP.is rfl (fun s => List.range' σ.length 3) fun hl _ => zeP.goes ?_
  have hbx := hT.box
  simp only [zeZ, iN, bT, bF, eN]
  (repeat' first | refine gq1 ?_ | with_reducible first | exact ⟨⟩ | refine zn ?_ | fail)
  refine zoJ hT ?_
  (repeat' first | refine gq2 hbx ?_ | with_reducible first | exact ⟨⟩ | refine zn ?_ | fail)
  refine c_From hn hl0 hb ?_
  (repeat' first | refine gq1 ?_ | with_reducible first | exact ⟨⟩ | refine zn ?_ | fail)
  exact zdu (σ' := σ) (os := tabO σ.length l) rfl rfl hl (low_tabO _ _) (.box _ _ (by simp)) hK
end Go.Proofs.YtcappjcojggehaaGreat
