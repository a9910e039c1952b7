/- Contracts: a ledger signs; a table's clone; whether both were made. -/
import Derived.Test.YtcappjcojggehaaGreatId2
set_option linter.all false
set_option maxRecDepth 100000
set_option linter.unusedSimpArgs false
set_option linter.unusedVariables false
namespace Go.Proofs.YtcappjcojggehaaGreat
open Go.AW

def zlo (s : zR) : AV := .agg [.d (.int .i64 s.key), .d (.int .i64 s.dig)]
def signR (k d : Int) : zR := if zcV k d = 0 then ⟨k, d⟩ else ⟨0, 0⟩
def zdW (g : List zR) (k d : Int) : List zR := if zcV k d = 0 then zkR g ⟨k, d⟩ else g
theorem gq6 {A P Q : Prop} (a : A) (h : Q) (e : A → P = Q := by intro a; simp -dsimp only [↓zcI, ↓zai, ↓zaH, ↓zcJ, ↓zcE, ↓zcC, ↓zcF, ↓zcD, ↓zaM, ↓zaI, ↓zaN, ↓zaJ, ↓zcG, ↓zaG, ↓zaO, ↓zaK, ↓zaP, ↓zaL, ↓zcB, ↓zcH, ↓zaF, ↓zaQ, ↓zcy, ↓zcx, ↓zcA, iN, bT, bF, eN, ↓zbL, ↓unC, ↓zH, ↓zw, ↓zx, ↓zB, ↓zK, ↓zaz, ↓zbv, ↓zY, ↓zbh, ↓zP, ↓zr, ↓zp, ↓zbj, ↓zf, ↓zU, ↓zF, ↓zan, ↓zas, ↓zc, ↓zC, ↓zj, ↓zl, ↓zab, ↓zbK, ↓zbJ, ↓zae, ↓zah, ↓zam, ↓zav, ↓zaB, ↓zg, ↓zW, ↓zy, ↓zi, ↓zJ, zbM, zaE, zaD, unA, zbQ, bnd, zcb, zQ, zag, zcd, dm, dm1, zM, zao, zcr, zcq, zS, Q0, Q1, Q2, Q3, Q4, Q5, zG, zh, zn, zq, zt, Q6, Q7, Q8, Q9, Q10, Q11, Q12, Q13, Q14, Nat.reduceAdd, Q15, Int.reduceToNat, Q16, Q17, Q18, Q19, Q20, reduceIte, Q21, Q22, zm, rep, zL, zcz, toD, zac, Q23, Q24, Q25, Q26, Q27, Q28, Nat.reduceLeDiff, Q29, Nat.reduceSub, Q30, Q31, Q32, sc, Q33, Q34, Q35, Q36, Q37, Q26, Q38, Q39, zfa, zeX, zeU, zfb, zbC, zeY, zeV, zeZ, zeW, zbB, zbD, zfd, zfe, Bool.not_true, Bool.not_false, List.length_map, zby, zbx, zcc, zam, zlB, zav, a]; rfl) : P := (e a).mpr h
theorem c_gSign {σ : List zb} {id m t : Nat} {g : List zR} {k d : Int} (hG : zcU σ id m t g) (hgl : g.length ≤ 1073741824) {K : AV → List zb → Prop}
    (hK : K (.tup [zlo (signR k d), .d (.int .i64 (zcV k d))]) (putLed σ id m t (zdW g k d))) : zN Tryz.prog zci [.box id 0, .d (.int .i64 k), .d (.int .i64 d)] σ K := by
  refine zk zeJ.is rfl fun hl _ => zeJ.goes ?_
  have hb : ∀ τ, (σ ++ τ)[id]? = some (.box [.own t (ziZ g), .map m]) := fun τ => zaa hG.box
  have hm : ∀ τ, (σ ++ τ)[m]? = some (.map (zmz g)) := fun τ => zaa hG.map
  obtain ⟨n1, n2, n3⟩ := hG.ne
  have hlen : (ziZ g).length = g.length := List.length_map ..
  have bad : zcV k d ≠ 0 → K (.tup [.agg [.d (.int .i64 0), .d (.int .i64 0)], .d (.int .i64 (zcV k d))]) σ := fun h => by
    rw [signR, zdW, if_neg h, if_neg h, hG.self] at hK
    exact hK
  simp only [zeS, iN, bT, bF, eN]
  (repeat' first | refine gq1 ?_ | with_reducible first | exact ⟨⟩ | refine zA ?_ | fail)
  refine c_gNone (hG.app _) ?_
  cases h1 : decide (k < 0)
  · cases h2 : decide (k ≥ 21)
    · have hk : ¬ (k < 0 ∨ k ≥ 21) := by simp at h1 h2; omega
      cases h3 : decide (d < 1)
      · have he : zcV k d = 0 := by rw [zcV, if_neg hk, if_neg (by simpa using h3)]
        rw [he, signR, zdW, if_pos he, if_pos he] at hK
        by_cases hs : (⟨k, d⟩ : zR) ∈ g
        · obtain ⟨j, hf⟩ := ziX hs
          simp only at hf
          rw [zkR, if_pos hs, hG.self] at hK
          (repeat' first | refine gq4 (zu h1 (zu h2 (zu h3 (zu hb (zu hm hf))))) ?_ | with_reducible first | exact ⟨⟩ | refine zA ?_ | fail)
          (first | refine zar hl ?_ | refine zaq hl ?_)
          exact hK
        · have hf := zku hs
          simp only at hf
          rw [zkR, if_neg hs] at hK
          have hmm : σ[m]? = some (.map (zmz g)) := hG.map
          have s1 : ∀ X τ, (σ ++ τ).set m X = σ.set m X ++ τ := fun X τ => zbR hG.map
          have hb' : ∀ X, (σ.set m X)[id]? = some (.box [.own t (ziZ g), .map m]) := fun X => by rw [List.getElem?_set_ne (Ne.symm n1)]; exact hG.box
          have ht' : ∀ X, (σ.set m X)[t]? = some (.tok 2 g.length) := fun X => by rw [List.getElem?_set_ne n3]; exact hG.tok
          have g3 : ∀ X τ, (σ.set m X ++ τ)[id]? = some (.box [.own t (ziZ g), .map m]) := fun X τ => zaa (hb' X)
          have g4 : ∀ X τ, (σ.set m X ++ τ)[t]? = some (.tok 2 g.length) := fun X τ => zaa (ht' X)
          have s2 : ∀ X Y τ, (σ.set m X ++ τ).set t Y = (σ.set m X).set t Y ++ τ := fun X Y τ => zbR (ht' X)
          have hb2 : ∀ X Y, ((σ.set m X).set t Y)[id]? = some (.box [.own t (ziZ g), .map m]) := fun X Y => by rw [List.getElem?_set_ne (Ne.symm n2)]; exact hb' X
          have s3 : ∀ X Y Z τ, ((σ.set m X).set t Y ++ τ).set id Z = ((σ.set m X).set t Y).set id Z ++ τ := fun X Y Z τ => zbR (hb2 X Y)
          have g5 : ∀ X Y τ, ((σ.set m X).set t Y ++ τ)[id]? = some (.box [.own t (ziZ g), .map m]) := fun X Y τ => zaa (hb2 X Y)
          have L1 : ∀ X : zb, σ.length = (σ.set m X).length := fun X => by simp
          have L2 : ∀ X Y : zb, σ.length = ((σ.set m X).set t Y).length := fun X Y => by simp
          have L3 : ∀ X Y Z : zb, σ.length = (((σ.set m X).set t Y).set id Z).length := fun X Y Z => by simp
          have e1 : ∀ X τ n, (σ.set m X ++ τ)[σ.length + n]? = τ[n]? := fun X τ n => by rw [L1 X]; exact zh ..
          have e2 : ∀ X Y Z τ n, (((σ.set m X).set t Y).set id Z ++ τ)[σ.length + n]? = τ[n]? := fun X Y Z τ n => by rw [L3 X Y Z]; exact zh ..
          have e3 : ∀ X Y Z τ W, (((σ.set m X).set t Y).set id Z ++ τ).set σ.length W = ((σ.set m X).set t Y).set id Z ++ τ.set 0 W := fun X Y Z τ W => by rw [L3 X Y Z]; exact zt ..
          have e4 : ∀ X Y Z τ, (((σ.set m X).set t Y).set id Z ++ τ)[σ.length]? = τ[0]? := fun X Y Z τ => by rw [L3 X Y Z]; exact zn ..
          (repeat' first | refine gq6 (zu h1 (zu h2 (zu h3 (zu hb (zu hm (zu hf (zu s1 (zu g3 (zu g4 (zu s2 (zu s3 (zu g5 (zu e1 (zu e2 (zu e3 (zu e4 hlen)))))))))))))))) ?_ | with_reducible first | exact ⟨⟩ | refine zA ?_ | fail)
          have e : putLed σ id m t (g ++ [⟨k, d⟩]) = (((σ.set m (zb.map (zmz g ++ [(AV.agg [AV.d (D.int IntKind.i64 k), AV.d (D.int IntKind.i64 d)], AV.d (D.bool true))]))).set t (zb.tok 2 (g.length + 1))).set id (zb.box [AV.own t (ziZ g ++ [[D.int IntKind.i64 k, D.int IntKind.i64 d]]), AV.map m])) := by
            rw [ledM_add g ⟨k, d⟩]
            simp [putLed, ziZ, zia]
          rw [← e]
          exact zfm (putLed_len ..) (by simp [zhi, dmT, dm, dm1, zcW, zec, zgB]) (hG.lows hl _) hK
      · have he : zcV k d = 1 := by rw [zcV, if_neg hk, if_pos (by simpa using h3)]
        have := bad (by rw [he]; decide)
        rw [he] at this
        (repeat' first | refine gq2 (zu h1 (zu h2 h3)) ?_ | with_reducible first | exact ⟨⟩ | refine zA ?_ | fail)
        (first | refine zar hl ?_ | refine zaq hl ?_)
        exact this
    · have he : zcV k d = 20 := by rw [zcV, if_pos (by simp at h2; omega)]
      have := bad (by rw [he]; decide)
      rw [he] at this
      (repeat' first | refine gq2 (zu h1 h2) ?_ | with_reducible first | exact ⟨⟩ | refine zA ?_ | fail)
      (first | refine zar hl ?_ | refine zaq hl ?_)
      exact this
  · have he : zcV k d = 20 := by rw [zcV, if_pos (by simp at h1; omega)]
    have := bad (by rw [he]; decide)
    rw [he] at this
    (repeat' first | refine gq2 h1 ?_ | with_reducible first | exact ⟨⟩ | refine zA ?_ | fail)
    (first | refine zar hl ?_ | refine zaq hl ?_)
    exact this
theorem gq7 {P Q : Prop} (h : Q) (e : P = Q := by simp -dsimp only [↓zcI, ↓zai, ↓zaH, ↓zcJ, ↓zcE, ↓zcC, ↓zcF, ↓zcD, ↓zaM, ↓zaI, ↓zaN, ↓zaJ, ↓zcG, ↓zaG, ↓zaO, ↓zaK, ↓zaP, ↓zaL, ↓zcB, ↓zcH, ↓zaF, ↓zaQ, ↓zcy, ↓zcx, ↓zcA, iN, bT, bF, eN, ↓zbL, ↓unC, ↓zH, ↓zw, ↓zx, ↓zB, ↓zK, ↓zaz, ↓zbv, ↓zY, ↓zbh, ↓zP, ↓zr, ↓zp, ↓zbj, ↓zf, ↓zU, ↓zF, ↓zan, ↓zas, ↓zc, ↓zC, ↓zj, ↓zl, ↓zab, ↓zbK, ↓zbJ, ↓zae, ↓zah, ↓zam, ↓zav, ↓zaB, ↓zg, ↓zW, ↓zy, ↓zi, ↓zJ, zbM, zaE, zaD, unA, zbQ, bnd, zcb, zQ, zag, zcd, dm, dm1, zM, zao, zcr, zcq, zS, Q0, Q1, Q2, Q3, Q4, Q5, zG, zh, zn, zq, zt, Q6, Q7, Q8, Q9, Q10, Q11, Q12, Q13, Q14, Nat.reduceAdd, Q15, Int.reduceToNat, Q16, Q17, Q18, Q19, Q20, reduceIte, Q21, Q22, zm, rep, zL, zcz, toD, zac, Q23, Q24, Q25, Q26, Q27, Q28, Nat.reduceLeDiff, Q29, Nat.reduceSub, Q30, Q31, Q32, sc, Q33, Q34, Q35, Q36, Q37, Q26, Q38, Q39, zfa, zeX, zeU, zfb, zbC, zeY, zeV, zeZ, zeW, zbB, zbD, zfd, zfe, Bool.not_true, Bool.not_false, List.length_map, Option.isSome_none]; rfl) : P := e.mpr h
theorem c_From {σ : List zb} {l : List (List UInt8)} (hn : l.Nodup) (hl0 : l.length ≤ 1048576) (hb : ∀ b ∈ l, b.length ≤ 1073741824) {K : AV → List zb → Prop}
    (hK : K (.tup [.box (σ.length + 1) 0, .d (.int .i64 0)]) (σ ++ tabO σ.length l)) : zN Tryz.prog zhp [.d (.slice (zkQ l))] σ K := by
  refine zbu zkD.is rfl (fun s => List.range' σ.length 3) fun hl _ => zkD.goes ?_
  have hlen : (zkQ l).length = l.length := List.length_map ..
  have hd : decide ((l.length : Int) > 1048576) = false := by simp; omega
  simp only [zkO, iN, bT, bF, eN]
  (repeat' first | refine gq2 (zu hlen hd) ?_ | with_reducible first | exact ⟨⟩ | refine zA ?_ | fail)
  refine znG ?_
  (repeat' first | refine gq1 ?_ | with_reducible first | exact ⟨⟩ | refine zA ?_ | fail)
  refine zV l.length (fun k vs s => vs = [.d (.int .i64 k)] ∧ s = σ ++ tabO σ.length (l.take k)) ⟨rfl, rfl⟩ ?_
  rintro k vs s hk ⟨rfl, rfl⟩
  by_cases hlt : k < l.length
  · have hd : decide ((k : Int) < (l.length : Int)) = true := by simp; omega
    have hx : l[k]? = some l[k] := by simp [hlt]
    have hgx := zaT (f := fun b => [D.slice (bcs b)]) hx
    have hxb := hb _ (List.getElem_mem hlt)
    have hnot : l[k] ∉ l.take k := fun hm => by
      obtain ⟨i, hi, he⟩ := List.mem_take_iff_getElem.1 hm
      have := (List.getElem_inj hn).1 he
      omega
    obtain ⟨x, hxe⟩ : ∃ x, l[k] = x := ⟨_, rfl⟩
    rw [hxe] at hx hgx hxb hnot
    have hno := znd hnot
    have hT : zcT (σ ++ tabO σ.length (l.take k)) (σ.length + 1) σ.length (σ.length + 2) (l.take k) := by simpa using tabAt_new σ (l.take k) []
    have hP : ∀ l', putTab (σ ++ tabO σ.length (l.take k)) (σ.length + 1) σ.length (σ.length + 2) l' = σ ++ tabO σ.length l' := fun l' => by simpa using putTab_new σ (l.take k) l' []
    (repeat' first | refine gq2 (zu hlen (zu hd hgx)) ?_ | with_reducible first | exact ⟨⟩ | refine zA ?_ | fail)
    refine zou hT ?_
    rw [hno]
    (repeat' first | refine gq7 ?_ | with_reducible first | exact ⟨⟩ | refine zA ?_ | fail)
    refine c_tSum hT hxb (by rw [List.length_take]; omega) ?_
    rw [hP]
    have e : zhQ (l.take k) x = l.take (k + 1) := by
      have h1 : (l.take k).length = k := by rw [List.length_take]; omega
      rw [zhQ, hno]
      simp only [h1]
      rw [if_neg (by omega), List.take_add_one, hx]; rfl
    rw [e]
    have hw : IntKind.i64.wrap ((k : Int) + 1) = ((k + 1 : Nat) : Int) := by rw [zaj (by omega) (by omega)]; rfl
    (repeat' first | refine gq2 hw ?_ | with_reducible first | exact ⟨⟩ | refine zA ?_ | fail)
    exact zaR.next hlt ⟨rfl, rfl⟩
  · have hd : decide ((k : Int) < (l.length : Int)) = false := by simp; omega
    rw [List.take_of_length_le (by omega)]
    (repeat' first | refine gq2 (zu hlen hd) ?_ | with_reducible first | exact ⟨⟩ | refine zA ?_ | fail)
    refine zdr (σ' := σ) (os := tabO σ.length l) rfl rfl hl (low_tabO _ _) ?_ hK
    exact .tup _ (by simp [zhi]; exact .box _ _ (by simp))
theorem c_tClone {σ : List zb} {id m t : Nat} {l : List (List UInt8)} (hT : zcT σ id m t l) (hn : l.Nodup) (hl0 : l.length ≤ 1048576) (hb : ∀ b ∈ l, b.length ≤ 1073741824) {K : AV → List zb → Prop}
    (hK : K (.box (σ.length + 1) 0) (σ ++ tabO σ.length l)) : zN Tryz.prog zch [.box id 0] σ K := by
  refine zbu zeH.is rfl (fun s => List.range' σ.length 3) fun hl _ => zeH.goes ?_
  have hbx := hT.box
  simp only [zeQ, iN, bT, bF, eN]
  (repeat' first | refine gq1 ?_ | with_reducible first | exact ⟨⟩ | refine zA ?_ | fail)
  refine c_tNone hT ?_
  (repeat' first | refine gq2 hbx ?_ | with_reducible first | exact ⟨⟩ | refine zA ?_ | fail)
  refine c_From hn hl0 hb ?_
  (repeat' first | refine gq1 ?_ | with_reducible first | exact ⟨⟩ | refine zA ?_ | fail)
  exact zdr (σ' := σ) (os := tabO σ.length l) rfl rfl hl (low_tabO _ _) (.box _ _ (by simp)) hK
end Go.Proofs.YtcappjcojggehaaGreat
