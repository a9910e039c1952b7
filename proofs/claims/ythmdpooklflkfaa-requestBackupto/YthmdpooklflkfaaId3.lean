/- Contracts: a ledger signs; a table's clone; whether both were made. -/
import Derived.Test.YthmdpooklflkfaaId2
set_option linter.all false
set_option maxRecDepth 100000
set_option linter.unusedSimpArgs false
set_option linter.unusedVariables false
namespace Go.Proofs.Ythmdpooklflkfaa
open Go.AW

def signA (s : TSign) : AV := .agg [.d (.int .i64 s.key), .d (.int .i64 s.dig)]
def signR (k d : Int) : TSign := if signF k d = 0 then ⟨k, d⟩ else ⟨0, 0⟩
def signG (g : List TSign) (k d : Int) : List TSign := if signF k d = 0 then signL g ⟨k, d⟩ else g
theorem gq6 {A P Q : Prop} (a : A) (h : Q) (e : A → P = Q := by intro a; simp -dsimp only [↓acallL, ↓loopL, ↓binC, ↓unC, ↓condC_b, ↓guardC_T, ↓guardC_F, ↓guardC_0, ↓pickC_b, ↓lenC, ↓slcC, ↓convC, ↓boxC, ↓allocC, ↓loadC, ↓storeC, ↓nilC, ↓faddrC, ↓fieldC, ↓iaddrC, ↓idxSC, ↓idxAC, ↓extractC, ↓buildC, ↓mksliceC, ↓appendC, ↓isnilC, ↓maxC, ↓minC, ↓callvC, ↓mkmapC, ↓mgetC, ↓msetC, ↓mdelC, ↓headC_cons, ↓rangeC, ↓BBL_true, ↓BBL_false, ↓BBL_not, binA, intOp, strOp, unA, esOf, bnd, intV, cellsA, fillV, srcE, dm, dm1, consO, cellA, maxL, minL, keepO, Q0, Q1, Q2, Q3, Q4, Q5, len_app, get_app, get_app0, set_app, set_app0, Q6, Q7, Q8, Q9, Q10, Q11, Q12, Q13, Q14, Nat.reduceAdd, Q15, Int.reduceToNat, Q16, Q17, Q18, Q19, Q20, reduceIte, Q21, Q22, recsE_len, rep, splice, toDs, toD, chunks, Q23, Q24, Q25, Q26, Q27, Q28, Nat.reduceLeDiff, Q29, Nat.reduceSub, Q30, Q31, Q32, sc, Q33, Q34, Q35, Q36, Q37, Q26, Q38, Q39, n0gt, n1gt, n2gt, n0eq, n1eq0, n1eq, n2eq, n0ne, n1ne, n1ne0, n0ne1, i0ne, i0eq, Bool.not_true, Bool.not_false, List.length_map, entriesOf, intsEq, keyFit, mgetC, mgetR, msetC, a]; rfl) : P := (e a).mpr h
theorem c_gSign {σ : List AObj} {id m t : Nat} {g : List TSign} {k d : Int} (hG : LedAt σ id m t g) (hgl : g.length ≤ 1073741824) {K : AV → List AObj → Prop}
    (hK : K (.tup [signA (signR k d), .d (.int .i64 (signF k d))]) (putLed σ id m t (signG g k d))) : ACall Try.prog n_ideal_Ledger_Sign [.box id 0, .d (.int .i64 k), .d (.int .i64 d)] σ K := by
  refine acall_of isA_ideal_Ledger_Sign rfl fun hl _ => s_ideal_Ledger_Sign ?_
  have hb : ∀ τ, (σ ++ τ)[id]? = some (.box [.own t (ledE g), .map m]) := fun τ => get_left hG.box
  have hm : ∀ τ, (σ ++ τ)[m]? = some (.map (ledM g)) := fun τ => get_left hG.map
  obtain ⟨n1, n2, n3⟩ := hG.ne
  have hlen : (ledE g).length = g.length := List.length_map ..
  have bad : signF k d ≠ 0 → K (.tup [.agg [.d (.int .i64 0), .d (.int .i64 0)], .d (.int .i64 (signF k d))]) σ := fun h => by
    rw [signR, signG, if_neg h, if_neg h, hG.self] at hK
    exact hK
  simp only [S_ideal_Ledger_Sign]
  (repeat' (first | (refine gq1 ?_; try with_reducible exact True.intro) | ((with_reducible refine And.intro ?_ ?_); focus (first | omega | rfl | decide | (simp; done)))))
  refine c_gNone (hG.app _) ?_
  cases h1 : decide (k < 0)
  · cases h2 : decide (k ≥ 21)
    · have hk : ¬ (k < 0 ∨ k ≥ 21) := by simp at h1 h2; omega
      cases h3 : decide (d < 1)
      · have he : signF k d = 0 := by rw [signF, if_neg hk, if_neg (by simpa using h3)]
        rw [he, signR, signG, if_pos he, if_pos he] at hK
        by_cases hs : (⟨k, d⟩ : TSign) ∈ g
        · obtain ⟨j, hf⟩ := mfind_led_yes hs
          simp only at hf
          rw [signL, if_pos hs, hG.self] at hK
          (repeat' (first | (refine gq4 (gqc0 h1 (gqc0 h2 (gqc0 h3 (gqc0 hb (gqc0 hm hf))))) ?_; try with_reducible exact True.intro) | ((with_reducible refine And.intro ?_ ?_); focus (first | omega | rfl | decide | (simp; done)))))
          (first | refine ends_plain (by simp [Low_d, dmT, dm, dm1, pack, Low_tup, Low_agg, Low_exact]) hl ?_ | refine ends_plain0 (by simp [Low_d, dmT, dm, dm1, pack, Low_tup, Low_agg, Low_exact]) hl ?_)
          exact hK
        · have hf := mfind_led_no hs
          simp only at hf
          rw [signL, if_neg hs] at hK
          have hmm : σ[m]? = some (.map (ledM g)) := hG.map
          have s1 : ∀ X τ, (σ ++ τ).set m X = σ.set m X ++ τ := fun X τ => set_left hG.map
          have hb' : ∀ X, (σ.set m X)[id]? = some (.box [.own t (ledE g), .map m]) := fun X => by rw [List.getElem?_set_ne (Ne.symm n1)]; exact hG.box
          have ht' : ∀ X, (σ.set m X)[t]? = some (.tok 2 g.length) := fun X => by rw [List.getElem?_set_ne n3]; exact hG.tok
          have g3 : ∀ X τ, (σ.set m X ++ τ)[id]? = some (.box [.own t (ledE g), .map m]) := fun X τ => get_left (hb' X)
          have g4 : ∀ X τ, (σ.set m X ++ τ)[t]? = some (.tok 2 g.length) := fun X τ => get_left (ht' X)
          have s2 : ∀ X Y τ, (σ.set m X ++ τ).set t Y = (σ.set m X).set t Y ++ τ := fun X Y τ => set_left (ht' X)
          have hb2 : ∀ X Y, ((σ.set m X).set t Y)[id]? = some (.box [.own t (ledE g), .map m]) := fun X Y => by rw [List.getElem?_set_ne (Ne.symm n2)]; exact hb' X
          have s3 : ∀ X Y Z τ, ((σ.set m X).set t Y ++ τ).set id Z = ((σ.set m X).set t Y).set id Z ++ τ := fun X Y Z τ => set_left (hb2 X Y)
          have g5 : ∀ X Y τ, ((σ.set m X).set t Y ++ τ)[id]? = some (.box [.own t (ledE g), .map m]) := fun X Y τ => get_left (hb2 X Y)
          have L1 : ∀ X : AObj, σ.length = (σ.set m X).length := fun X => by simp
          have L2 : ∀ X Y : AObj, σ.length = ((σ.set m X).set t Y).length := fun X Y => by simp
          have L3 : ∀ X Y Z : AObj, σ.length = (((σ.set m X).set t Y).set id Z).length := fun X Y Z => by simp
          have e1 : ∀ X τ n, (σ.set m X ++ τ)[σ.length + n]? = τ[n]? := fun X τ n => by rw [L1 X]; exact get_app ..
          have e2 : ∀ X Y Z τ n, (((σ.set m X).set t Y).set id Z ++ τ)[σ.length + n]? = τ[n]? := fun X Y Z τ n => by rw [L3 X Y Z]; exact get_app ..
          have e3 : ∀ X Y Z τ W, (((σ.set m X).set t Y).set id Z ++ τ).set σ.length W = ((σ.set m X).set t Y).set id Z ++ τ.set 0 W := fun X Y Z τ W => by rw [L3 X Y Z]; exact set_app0 ..
          have e4 : ∀ X Y Z τ, (((σ.set m X).set t Y).set id Z ++ τ)[σ.length]? = τ[0]? := fun X Y Z τ => by rw [L3 X Y Z]; exact get_app0 ..
          (repeat' (first | (refine gq6 (gqc0 h1 (gqc0 h2 (gqc0 h3 (gqc0 hb (gqc0 hm (gqc0 hf (gqc0 s1 (gqc0 g3 (gqc0 g4 (gqc0 s2 (gqc0 s3 (gqc0 g5 (gqc0 e1 (gqc0 e2 (gqc0 e3 (gqc0 e4 hlen)))))))))))))))) ?_; try with_reducible exact True.intro) | ((with_reducible refine And.intro ?_ ?_); focus (first | omega | rfl | decide | (simp; done)))))
          have e : putLed σ id m t (g ++ [⟨k, d⟩]) = (((σ.set m (AObj.map (ledM g ++ [(AV.agg [AV.d (D.int IntKind.i64 k), AV.d (D.int IntKind.i64 d)], AV.d (D.bool true))]))).set t (AObj.tok 2 (g.length + 1))).set id (AObj.box [AV.own t (ledE g ++ [[D.int IntKind.i64 k, D.int IntKind.i64 d]]), AV.map m])) := by
            rw [ledM_add g ⟨k, d⟩]
            simp [putLed, ledE, signD]
          rw [← e]
          exact ends_all (putLed_len ..) (by simp [Low_d, dmT, dm, dm1, pack, Low_tup, Low_agg]) (hG.lows hl _) hK
      · have he : signF k d = 1 := by rw [signF, if_neg hk, if_pos (by simpa using h3)]
        have := bad (by rw [he]; decide)
        rw [he] at this
        (repeat' (first | (refine gq2 (gqc0 h1 (gqc0 h2 h3)) ?_; try with_reducible exact True.intro) | ((with_reducible refine And.intro ?_ ?_); focus (first | omega | rfl | decide | (simp; done)))))
        (first | refine ends_plain (by simp [Low_d, dmT, dm, dm1, pack, Low_tup, Low_agg, Low_exact]) hl ?_ | refine ends_plain0 (by simp [Low_d, dmT, dm, dm1, pack, Low_tup, Low_agg, Low_exact]) hl ?_)
        exact this
    · have he : signF k d = 20 := by rw [signF, if_pos (by simp at h2; omega)]
      have := bad (by rw [he]; decide)
      rw [he] at this
      (repeat' (first | (refine gq2 (gqc0 h1 h2) ?_; try with_reducible exact True.intro) | ((with_reducible refine And.intro ?_ ?_); focus (first | omega | rfl | decide | (simp; done)))))
      (first | refine ends_plain (by simp [Low_d, dmT, dm, dm1, pack, Low_tup, Low_agg, Low_exact]) hl ?_ | refine ends_plain0 (by simp [Low_d, dmT, dm, dm1, pack, Low_tup, Low_agg, Low_exact]) hl ?_)
      exact this
  · have he : signF k d = 20 := by rw [signF, if_pos (by simp at h1; omega)]
    have := bad (by rw [he]; decide)
    rw [he] at this
    (repeat' (first | (refine gq2 h1 ?_; try with_reducible exact True.intro) | ((with_reducible refine And.intro ?_ ?_); focus (first | omega | rfl | decide | (simp; done)))))
    (first | refine ends_plain (by simp [Low_d, dmT, dm, dm1, pack, Low_tup, Low_agg, Low_exact]) hl ?_ | refine ends_plain0 (by simp [Low_d, dmT, dm, dm1, pack, Low_tup, Low_agg, Low_exact]) hl ?_)
    exact this
theorem gq7 {P Q : Prop} (h : Q) (e : P = Q := by simp -dsimp only [↓acallL, ↓loopL, ↓binC, ↓unC, ↓condC_b, ↓guardC_T, ↓guardC_F, ↓guardC_0, ↓pickC_b, ↓lenC, ↓slcC, ↓convC, ↓boxC, ↓allocC, ↓loadC, ↓storeC, ↓nilC, ↓faddrC, ↓fieldC, ↓iaddrC, ↓idxSC, ↓idxAC, ↓extractC, ↓buildC, ↓mksliceC, ↓appendC, ↓isnilC, ↓maxC, ↓minC, ↓callvC, ↓mkmapC, ↓mgetC, ↓msetC, ↓mdelC, ↓headC_cons, ↓rangeC, ↓BBL_true, ↓BBL_false, ↓BBL_not, binA, intOp, strOp, unA, esOf, bnd, intV, cellsA, fillV, srcE, dm, dm1, consO, cellA, maxL, minL, keepO, Q0, Q1, Q2, Q3, Q4, Q5, len_app, get_app, get_app0, set_app, set_app0, Q6, Q7, Q8, Q9, Q10, Q11, Q12, Q13, Q14, Nat.reduceAdd, Q15, Int.reduceToNat, Q16, Q17, Q18, Q19, Q20, reduceIte, Q21, Q22, recsE_len, rep, splice, toDs, toD, chunks, Q23, Q24, Q25, Q26, Q27, Q28, Nat.reduceLeDiff, Q29, Nat.reduceSub, Q30, Q31, Q32, sc, Q33, Q34, Q35, Q36, Q37, Q26, Q38, Q39, n0gt, n1gt, n2gt, n0eq, n1eq0, n1eq, n2eq, n0ne, n1ne, n1ne0, n0ne1, i0ne, i0eq, Bool.not_true, Bool.not_false, List.length_map, Option.isSome_none]; rfl) : P := e.mpr h
theorem c_From {σ : List AObj} {l : List (List UInt8)} (hn : l.Nodup) (hl0 : l.length ≤ 1048576) (hb : ∀ b ∈ l, b.length ≤ 1073741824) {K : AV → List AObj → Prop}
    (hK : K (.tup [.box (σ.length + 1) 0, .d (.int .i64 0)]) (σ ++ tabO σ.length l)) : ACall Try.prog n_ideal_From [.d (.slice (tabE l))] σ K := by
  refine acall_keep isA_ideal_From rfl (fun s => List.range' σ.length 3) fun hl _ => s_ideal_From ?_
  have hlen : (tabE l).length = l.length := List.length_map ..
  have hd : decide ((l.length : Int) > 1048576) = false := by simp; omega
  simp only [S_ideal_From]
  (repeat' (first | (refine gq2 (gqc0 hlen hd) ?_; try with_reducible exact True.intro) | ((with_reducible refine And.intro ?_ ?_); focus (first | omega | rfl | decide | (simp; done)))))
  refine c_NewTable ?_
  (repeat' (first | (refine gq1 ?_; try with_reducible exact True.intro) | ((with_reducible refine And.intro ?_ ?_); focus (first | omega | rfl | decide | (simp; done)))))
  refine loopC_count l.length (fun k vs s => vs = [.d (.int .i64 k)] ∧ s = σ ++ tabO σ.length (l.take k)) ⟨rfl, rfl⟩ ?_
  rintro k vs s hk ⟨rfl, rfl⟩
  by_cases hlt : k < l.length
  · have hd : decide ((k : Int) < (l.length : Int)) = true := by simp; omega
    have hx : l[k]? = some l[k] := by simp [hlt]
    have hgx := map_get (f := fun b => [D.slice (bcs b)]) hx
    have hxb := hb _ (List.getElem_mem hlt)
    have hnot : l[k] ∉ l.take k := fun hm => by
      obtain ⟨i, hi, he⟩ := List.mem_take_iff_getElem.1 hm
      have := (List.getElem_inj hn).1 he
      omega
    obtain ⟨x, hxe⟩ : ∃ x, l[k] = x := ⟨_, rfl⟩
    rw [hxe] at hx hgx hxb hnot
    have hno := look_notin hnot
    have hT : TabAt (σ ++ tabO σ.length (l.take k)) (σ.length + 1) σ.length (σ.length + 2) (l.take k) := by simpa using tabAt_new σ (l.take k) []
    have hP : ∀ l', putTab (σ ++ tabO σ.length (l.take k)) (σ.length + 1) σ.length (σ.length + 2) l' = σ ++ tabO σ.length l' := fun l' => by simpa using putTab_new σ (l.take k) l' []
    (repeat' (first | (refine gq2 (gqc0 hlen (gqc0 hd hgx)) ?_; try with_reducible exact True.intro) | ((with_reducible refine And.intro ?_ ?_); focus (first | omega | rfl | decide | (simp; done)))))
    refine c_tLook hT ?_
    rw [hno]
    (repeat' (first | (refine gq7 ?_; try with_reducible exact True.intro) | ((with_reducible refine And.intro ?_ ?_); focus (first | omega | rfl | decide | (simp; done)))))
    refine c_tSum hT hxb (by rw [List.length_take]; omega) ?_
    rw [hP]
    have e : sumL (l.take k) x = l.take (k + 1) := by
      have h1 : (l.take k).length = k := by rw [List.length_take]; omega
      rw [sumL, hno]
      simp only [h1]
      rw [if_neg (by omega), List.take_add_one, hx]; rfl
    rw [e]
    have hw : IntKind.i64.wrap ((k : Int) + 1) = ((k + 1 : Nat) : Int) := by rw [wrap64i (by omega) (by omega)]; rfl
    (repeat' (first | (refine gq2 hw ?_; try with_reducible exact True.intro) | ((with_reducible refine And.intro ?_ ?_); focus (first | omega | rfl | decide | (simp; done)))))
    exact Again.next hlt ⟨rfl, rfl⟩
  · have hd : decide ((k : Int) < (l.length : Int)) = false := by simp; omega
    rw [List.take_of_length_le (by omega)]
    (repeat' (first | (refine gq2 (gqc0 hlen hd) ?_; try with_reducible exact True.intro) | ((with_reducible refine And.intro ?_ ?_); focus (first | omega | rfl | decide | (simp; done)))))
    refine endsK_prefix0 (σ' := σ) (os := tabO σ.length l) rfl rfl hl (low_tabO _ _) ?_ hK
    exact .tup _ (by simp [Low_d]; exact .box _ _ (by simp))
theorem c_tClone {σ : List AObj} {id m t : Nat} {l : List (List UInt8)} (hT : TabAt σ id m t l) (hn : l.Nodup) (hl0 : l.length ≤ 1048576) (hb : ∀ b ∈ l, b.length ≤ 1073741824) {K : AV → List AObj → Prop}
    (hK : K (.box (σ.length + 1) 0) (σ ++ tabO σ.length l)) : ACall Try.prog n_ideal_Table_Clone [.box id 0] σ K := by
  refine acall_keep isA_ideal_Table_Clone rfl (fun s => List.range' σ.length 3) fun hl _ => s_ideal_Table_Clone ?_
  have hbx := hT.box
  simp only [S_ideal_Table_Clone]
  (repeat' (first | (refine gq1 ?_; try with_reducible exact True.intro) | ((with_reducible refine And.intro ?_ ?_); focus (first | omega | rfl | decide | (simp; done)))))
  refine c_tNone hT ?_
  (repeat' (first | (refine gq2 hbx ?_; try with_reducible exact True.intro) | ((with_reducible refine And.intro ?_ ?_); focus (first | omega | rfl | decide | (simp; done)))))
  refine c_From hn hl0 hb ?_
  (repeat' (first | (refine gq1 ?_; try with_reducible exact True.intro) | ((with_reducible refine And.intro ?_ ?_); focus (first | omega | rfl | decide | (simp; done)))))
  exact endsK_prefix0 (σ' := σ) (os := tabO σ.length l) rfl rfl hl (low_tabO _ _) (.box _ _ (by simp)) hK
theorem c_known {σ : List AObj} {id m t : Nat} {l : List (List UInt8)} (hT : TabAt σ id m t l) (hn : l.Nodup) (hl0 : l.length ≤ 1048576) (hb : ∀ b ∈ l, b.length ≤ 1073741824) {K : AV → List AObj → Prop}
    (hK : K (.d (.bool true)) σ) : ACall Try.prog n_request_known [.box id 0] σ K := by
  refine acall_of isA_request_known rfl fun hl _ => s_request_known ?_
  simp only [S_request_known]
  (repeat' (first | (refine gq1 ?_; try with_reducible exact True.intro) | ((with_reducible refine And.intro ?_ ?_); focus (first | omega | rfl | decide | (simp; done)))))
  refine c_tLen hT ?_
  cases h : decide ((l.length : Int) > 0)
  · (repeat' (first | (refine gq2 h ?_; try with_reducible exact True.intro) | ((with_reducible refine And.intro ?_ ?_); focus (first | omega | rfl | decide | (simp; done)))))
    refine c_tClone hT hn hl0 hb ?_
    (repeat' (first | (refine gq2 h ?_; try with_reducible exact True.intro) | ((with_reducible refine And.intro ?_ ?_); focus (first | omega | rfl | decide | (simp; done)))))
    (first | refine ends_plain (by simp [Low_d, dmT, dm, dm1, pack, Low_tup, Low_agg, Low_exact]) hl ?_ | refine ends_plain0 (by simp [Low_d, dmT, dm, dm1, pack, Low_tup, Low_agg, Low_exact]) hl ?_)
    exact hK
  · (repeat' (first | (refine gq2 h ?_; try with_reducible exact True.intro) | ((with_reducible refine And.intro ?_ ?_); focus (first | omega | rfl | decide | (simp; done)))))
    (first | refine ends_plain (by simp [Low_d, dmT, dm, dm1, pack, Low_tup, Low_agg, Low_exact]) hl ?_ | refine ends_plain0 (by simp [Low_d, dmT, dm, dm1, pack, Low_tup, Low_agg, Low_exact]) hl ?_)
    exact hK
theorem gq8 {A P Q : Prop} (a : A) (h : Q) (e : A → P = Q := by intro a; simp -dsimp only [↓acallL, ↓loopL, ↓binC, ↓unC, ↓condC_b, ↓guardC_T, ↓guardC_F, ↓guardC_0, ↓pickC_b, ↓lenC, ↓slcC, ↓convC, ↓boxC, ↓allocC, ↓loadC, ↓storeC, ↓nilC, ↓faddrC, ↓fieldC, ↓iaddrC, ↓idxSC, ↓idxAC, ↓extractC, ↓buildC, ↓mksliceC, ↓appendC, ↓isnilC, ↓maxC, ↓minC, ↓callvC, ↓mkmapC, ↓mgetC, ↓msetC, ↓mdelC, ↓headC_cons, ↓rangeC, ↓BBL_true, ↓BBL_false, ↓BBL_not, binA, intOp, strOp, unA, esOf, bnd, intV, cellsA, fillV, srcE, dm, dm1, consO, cellA, maxL, minL, keepO, Q0, Q1, Q2, Q3, Q4, Q5, len_app, get_app, get_app0, set_app, set_app0, Q6, Q7, Q8, Q9, Q10, Q11, Q12, Q13, Q14, Nat.reduceAdd, Q15, Int.reduceToNat, Q16, Q17, Q18, Q19, Q20, reduceIte, Q21, Q22, recsE_len, rep, splice, toDs, toD, chunks, Q23, Q24, Q25, Q26, Q27, Q28, Nat.reduceLeDiff, Q29, Nat.reduceSub, Q30, Q31, Q32, sc, Q33, Q34, Q35, Q36, Q37, Q26, Q38, Q39, n0gt, n1gt, n2gt, n0eq, n1eq0, n1eq, n2eq, n0ne, n1ne, n1ne0, n0ne1, i0ne, i0eq, Bool.not_true, Bool.not_false, List.length_map, ledE, signsE, a]; rfl) : P := (e a).mpr h
theorem c_gClone0 {σ : List AObj} {id m t : Nat} (hG : LedAt σ id m t []) {K : AV → List AObj → Prop} (hK : K (.box (σ.length + 1) 0) (σ ++ ledO σ.length [])) : ACall Try.prog n_ideal_Ledger_Clone [.box id 0] σ K := by
  refine acall_keep isA_ideal_Ledger_Clone rfl (fun s => List.range' σ.length 3) fun hl _ => s_ideal_Ledger_Clone ?_
  have hbx : ∀ τ, (σ ++ τ)[id]? = _ := fun τ => get_left hG.box
  simp only [S_ideal_Ledger_Clone]
  (repeat' (first | (refine gq1 ?_; try with_reducible exact True.intro) | ((with_reducible refine And.intro ?_ ?_); focus (first | omega | rfl | decide | (simp; done)))))
  refine c_gNone hG ?_
  (repeat' (first | (refine gq2 hbx ?_; try with_reducible exact True.intro) | ((with_reducible refine And.intro ?_ ?_); focus (first | omega | rfl | decide | (simp; done)))))
  refine c_NewLedger ?_
  (repeat' (first | (refine gq2 hbx ?_; try with_reducible exact True.intro) | ((with_reducible refine And.intro ?_ ?_); focus (first | omega | rfl | decide | (simp; done)))))
  refine loopC_count 0 (fun k vs s => vs = [.d (.int .i64 0)] ∧ s = σ ++ ledO σ.length []) ⟨rfl, rfl⟩ ?_
  rintro k vs s hk ⟨rfl, rfl⟩
  have hd : decide ((0 : Int) < ((0 : Nat) : Int)) = false := rfl
  (repeat' (first | (refine gq8 hd ?_; try with_reducible exact True.intro) | ((with_reducible refine And.intro ?_ ?_); focus (first | omega | rfl | decide | (simp; done)))))
  exact endsK_prefix0 (σ' := σ) (os := ledO σ.length []) rfl rfl hl (low_ledO _ _) (.box _ _ (by simp)) hK
theorem c_made {σ : List AObj} {id m t id2 m2 t2 : Nat} {l : List (List UInt8)} {g : List TSign} (hT : TabAt σ id m t l) (hG : LedAt σ id2 m2 t2 g) (hn : l.Nodup) (hl0 : l.length ≤ 1048576) (hb : ∀ b ∈ l, b.length ≤ 1073741824) {K : AV → List AObj → Prop}
    (hK : K (.d (.bool true)) σ) : ACall Try.prog n_request_made [.box id 0, .box id2 0] σ K := by
  refine acall_of isA_request_made rfl fun hl _ => s_request_made ?_
  simp only [S_request_made]
  (repeat' (first | (refine gq1 ?_; try with_reducible exact True.intro) | ((with_reducible refine And.intro ?_ ?_); focus (first | omega | rfl | decide | (simp; done)))))
  refine c_known hT hn hl0 hb ?_
  (repeat' (first | (refine gq1 ?_; try with_reducible exact True.intro) | ((with_reducible refine And.intro ?_ ?_); focus (first | omega | rfl | decide | (simp; done)))))
  refine c_gLen hG ?_
  cases h : decide ((g.length : Int) > 0)
  · have hg : g = [] := by simpa using h
    subst hg
    (repeat' (first | (refine gq2 h ?_; try with_reducible exact True.intro) | ((with_reducible refine And.intro ?_ ?_); focus (first | omega | rfl | decide | (simp; done)))))
    refine c_gClone0 hG ?_
    (repeat' (first | (refine gq2 h ?_; try with_reducible exact True.intro) | ((with_reducible refine And.intro ?_ ?_); focus (first | omega | rfl | decide | (simp; done)))))
    (first | refine ends_plain (by simp [Low_d, dmT, dm, dm1, pack, Low_tup, Low_agg, Low_exact]) hl ?_ | refine ends_plain0 (by simp [Low_d, dmT, dm, dm1, pack, Low_tup, Low_agg, Low_exact]) hl ?_)
    exact hK
  · (repeat' (first | (refine gq2 h ?_; try with_reducible exact True.intro) | ((with_reducible refine And.intro ?_ ?_); focus (first | omega | rfl | decide | (simp; done)))))
    (first | refine ends_plain (by simp [Low_d, dmT, dm, dm1, pack, Low_tup, Low_agg, Low_exact]) hl ?_ | refine ends_plain0 (by simp [Low_d, dmT, dm, dm1, pack, Low_tup, Low_agg, Low_exact]) hl ?_)
    exact hK
end Go.Proofs.Ythmdpooklflkfaa
