/- Contracts: a ledger signs; a table's clone; whether both were made. -/
import Derived.Test.YtjjchfbckfopkaaGreatId2
set_option linter.all false
set_option maxRecDepth 100000
set_option linter.unusedSimpArgs false
set_option linter.unusedVariables false
namespace Go.Proofs.YtjjchfbckfopkaaGreat
open Go.AW

def zly (s : zO) : AV := .agg [.d (.int .i64 s.key), .d (.int .i64 s.dig)]
def signR (k d : Int) : zO := if zdm k d = 0 then ⟨k, d⟩ else ⟨0, 0⟩
def zeP (g : List zO) (k d : Int) : List zO := if zdm k d = 0 then zmK g ⟨k, d⟩ else g
theorem c_gSign {σ : List zb} {id m t : Nat} {g : List zO} {k d : Int} (hG : zcS σ id m t g) (hgl : g.length ≤ 1073741824) {K : AV → List zb → Prop}
    (hK : K (.tup [zly (signR k d), .d (.int .i64 (zdm k d))]) (putLed σ id m t (zeP g k d))) : zn Tryz.prog zcc [.box id 0, .d (.int .i64 k), .d (.int .i64 d)] σ K := by
  refine acE3 ziu fun hl => ?_
  have hb : ∀ τ, (σ ++ τ)[id]? = some (.box [.own t (ziS g), .map m]) := fun τ => zk hG.box
  have hm : ∀ τ, (σ ++ τ)[m]? = some (.map (zmI g)) := fun τ => zk hG.map
  obtain ⟨n1, n2, n3⟩ := hG.ne
  have hlen : (ziS g).length = g.length := List.length_map ..
  have bad : zdm k d ≠ 0 → K (.tup [.agg [.d (.int .i64 0), .d (.int .i64 0)], .d (.int .i64 (zdm k d))]) σ := fun h => by
    rw [signR, zeP, if_neg h, if_neg h, hG.self] at hK
    exact hK
  simp only [zfg, iN, bT, bF, eN]
  refine gq1 ?_
  refine c_gNone (hG.app _) ?_
  cases h1 : decide (k < 0)
  · cases h2 : decide (k ≥ 21)
    · have hk : ¬ (k < 0 ∨ k ≥ 21) := by simp at h1 h2; omega
      cases h3 : decide (d < 1)
      · have he : zdm k d = 0 := by rw [zdm, if_neg hk, if_neg (by simpa using h3)]
        rw [he, signR, zeP, if_pos he, if_pos he] at hK
        by_cases hs : (⟨k, d⟩ : zO) ∈ g
        · obtain ⟨j, hf⟩ := ziQ hs
          simp only at hf
          rw [zmK, if_pos hs, hG.self] at hK
          refine gq4 (zo h1 (zo h2 (zo h3 (zo hb (zo hm hf))))) ?_
          refine zam hl ?_
          exact hK
        · have hf := zkz hs
          simp only at hf
          rw [zmK, if_neg hs] at hK
          have hmm : σ[m]? = some (.map (zmI g)) := hG.map
          have s1 : ∀ X τ, (σ ++ τ).set m X = σ.set m X ++ τ := fun X τ => zbR hG.map
          have hb' : ∀ X, (σ.set m X)[id]? = some (.box [.own t (ziS g), .map m]) := fun X => by rw [List.getElem?_set_ne (Ne.symm n1)]; exact hG.box
          have ht' : ∀ X, (σ.set m X)[t]? = some (.tok 2 g.length) := fun X => by rw [List.getElem?_set_ne n3]; exact hG.tok
          have g3 : ∀ X τ, (σ.set m X ++ τ)[id]? = some (.box [.own t (ziS g), .map m]) := fun X τ => zk (hb' X)
          have g4 : ∀ X τ, (σ.set m X ++ τ)[t]? = some (.tok 2 g.length) := fun X τ => zk (ht' X)
          have s2 : ∀ X Y τ, (σ.set m X ++ τ).set t Y = (σ.set m X).set t Y ++ τ := fun X Y τ => zbR (ht' X)
          have hb2 : ∀ X Y, ((σ.set m X).set t Y)[id]? = some (.box [.own t (ziS g), .map m]) := fun X Y => by rw [List.getElem?_set_ne (Ne.symm n2)]; exact hb' X
          have s3 : ∀ X Y Z τ, ((σ.set m X).set t Y ++ τ).set id Z = ((σ.set m X).set t Y).set id Z ++ τ := fun X Y Z τ => zbR (hb2 X Y)
          have g5 : ∀ X Y τ, ((σ.set m X).set t Y ++ τ)[id]? = some (.box [.own t (ziS g), .map m]) := fun X Y τ => zk (hb2 X Y)
          have L1 : ∀ X : zb, σ.length = (σ.set m X).length := fun X => by simp
          have L2 : ∀ X Y : zb, σ.length = ((σ.set m X).set t Y).length := fun X Y => by simp
          have L3 : ∀ X Y Z : zb, σ.length = (((σ.set m X).set t Y).set id Z).length := fun X Y Z => by simp
          have e1 : ∀ X τ n, (σ.set m X ++ τ)[σ.length + n]? = τ[n]? := fun X τ n => by rw [L1 X]; exact zg ..
          have e2 : ∀ X Y Z τ n, (((σ.set m X).set t Y).set id Z ++ τ)[σ.length + n]? = τ[n]? := fun X Y Z τ n => by rw [L3 X Y Z]; exact zg ..
          have e3 : ∀ X Y Z τ W, (((σ.set m X).set t Y).set id Z ++ τ).set σ.length W = ((σ.set m X).set t Y).set id Z ++ τ.set 0 W := fun X Y Z τ W => by rw [L3 X Y Z]; exact zC ..
          have e4 : ∀ X Y Z τ, (((σ.set m X).set t Y).set id Z ++ τ)[σ.length]? = τ[0]? := fun X Y Z τ => by rw [L3 X Y Z]; exact zp ..
          refine gq4 (zo h1 (zo h2 (zo h3 (zo hb (zo hm (zo hf (zo s1 (zo g3 (zo g4 (zo s2 (zo s3 (zo g5 (zo e1 (zo e2 (zo e3 (zo e4 hlen)))))))))))))))) ?_
          have e : putLed σ id m t (g ++ [⟨k, d⟩]) = (((σ.set m (zb.map (zmI g ++ [(AV.agg [AV.d (D.int IntKind.i64 k), AV.d (D.int IntKind.i64 d)], AV.d (D.bool true))]))).set t (zb.tok 2 (g.length + 1))).set id (zb.box [AV.own t (ziS g ++ [[D.int IntKind.i64 k, D.int IntKind.i64 d]]), AV.map m])) := by
            rw [ledM_add g ⟨k, d⟩]
            simp [putLed, ziS, zgb]
          rw [← e]
          exact zfp (putLed_len ..) (by simp [zfj, dmT, dm, dm1, zcm, zdS, zfA]) (hG.lows hl _) hK
      · have he : zdm k d = 1 := by rw [zdm, if_neg hk, if_pos (by simpa using h3)]
        have := bad (by rw [he]; decide)
        rw [he] at this
        refine gq2 (zo h1 (zo h2 h3)) ?_
        refine zam hl ?_
        exact this
    · have he : zdm k d = 20 := by rw [zdm, if_pos (by simp at h2; omega)]
      have := bad (by rw [he]; decide)
      rw [he] at this
      refine gq2 (zo h1 h2) ?_
      refine zam hl ?_
      exact this
  · have he : zdm k d = 20 := by rw [zdm, if_pos (by simp at h1; omega)]
    have := bad (by rw [he]; decide)
    rw [he] at this
    refine gq2 h1 ?_
    refine zam hl ?_
    exact this
theorem gq5 {P Q : Prop} (h : Q) (e : Hd Q → P := by intro h; (repeat' first | simp -dsimp only [↓zem, ↓zas, ↓zbe, ↓zen, ↓zeg, ↓zee, ↓zeh, ↓zef, ↓zbj, ↓zbf, ↓zbk, ↓zbg, ↓zei, ↓zbd, ↓zbl, ↓zbh, ↓zbm, ↓zbi, ↓zec, ↓zel, ↓zbc, ↓zbo, ↓zdY, ↓zdX, ↓zeb, iN, bT, bF, eN, ↓zcx, ↓unC, ↓zU, ↓zE, ↓zF, ↓zI, ↓zaa, ↓zaE, ↓zco, ↓zZ, ↓zbw, ↓zQ, ↓zl, ↓zm, ↓zbF, ↓zf, ↓zab, ↓zK, ↓zay, ↓zaD, ↓zc, ↓zy, ↓zi, ↓zr, ↓zai, ↓zcz, ↓zcG, ↓zal, ↓zap, ↓zax, ↓zaG, ↓zaN, ↓zj, ↓zad, ↓zG, ↓zq, ↓zX, zcE, zaZ, zaW, unA, zcH, bnd, zdj, zY, zac, zdk, dm, dm1, zJ, zar, zdD, zdC, zT, Q0, Q1, Q2, Q3, Q4, Q5, zS, zg, zp, zu, zC, Q6, Q7, Q8, Q9, Q10, Q11, Q12, Q13, Q14, Nat.reduceAdd, Q15, Int.reduceToNat, Q16, Q17, Q18, Q19, Q20, reduceIte, Q21, Q22, zA, rep, zV, zdZ, toD, zaj, Q23, Q24, Q25, Q26, Q27, Q28, Nat.reduceLeDiff, Q29, Nat.reduceSub, Q30, Q31, Q32, sc, Q33, Q34, Q35, Q36, Q37, Q26, Q38, Q39, zjL, zjI, zjF, zjM, zdO, zjJ, zjG, zjK, zjH, zdN, zdP, zjT, zjU, Bool.not_true, Bool.not_false, List.length_map, Bool.and_false, Bool.and_self, Bool.false_and, Bool.not_false, Bool.not_true, Bool.true_and, Int.toNat_natCast, Int.toNat_zero, List.drop_zero, List.length_map, List.length_nil, List.nil_append, List.take_length, Nat.sub_zero, Nat.zero_add, Option.isSome_none, Option.isSome_some, Option.map_none, Option.map_some, zaq, beq_self_eq_true, bne_self_eq_false] | with_reducible refine zkm ?_ | fail); exact h.go) : P := e ⟨h⟩
theorem c_From {σ : List zb} {l : List (List UInt8)} (hn : l.Nodup) (hl0 : l.length ≤ 1048576) (hb : ∀ b ∈ l, b.length ≤ 1073741824) {K : AV → List zb → Prop}
    (hK : K (.tup [.box (σ.length + 1) 0, .d (.int .i64 0)]) (σ ++ tabO σ.length l)) : zn Tryz.prog zgZ [.d (.slice (zkV l))] σ K := by
  refine zby zkI.is rfl (fun s => List.range' σ.length 3) fun hl _ => zkI.goes ?_
  have hlen : (zkV l).length = l.length := List.length_map ..
  have hd : decide ((l.length : Int) > 1048576) = false := by simp; omega
  simp only [zkS, iN, bT, bF, eN]
  refine gq2 (zo hlen hd) ?_
  refine zki ?_
  refine gq1 ?_
  refine zR l.length (fun k vs s => vs = [.d (.int .i64 k)] ∧ s = σ ++ tabO σ.length (l.take k)) ⟨rfl, rfl⟩ ?_
  rintro k vs s hk ⟨rfl, rfl⟩
  by_cases hlt : k < l.length
  · have hd : decide ((k : Int) < (l.length : Int)) = true := by simp; omega
    have hx : l[k]? = some l[k] := by simp [hlt]
    have hgx := zaT (f := fun b => [D.slice (bcs b)]) hx
    have hxb := hb _ (List.getElem_mem hlt)
    have hnot : l[k] ∉ l.take k := fun hm => by
      obtain ⟨i, hi, he⟩ := List.mem_take_iff_getElem.1 hm
      have := (List.getElem_inj hn).1 he
      omega
    obtain ⟨x, hxe⟩ : ∃ x, l[k] = x := ⟨_, rfl⟩
    rw [hxe] at hx hgx hxb hnot
    have hno := znq hnot
    have hT : zcF (σ ++ tabO σ.length (l.take k)) (σ.length + 1) σ.length (σ.length + 2) (l.take k) := by simpa using tabAt_new σ (l.take k) []
    have hP : ∀ l', putTab (σ ++ tabO σ.length (l.take k)) (σ.length + 1) σ.length (σ.length + 2) l' = σ ++ tabO σ.length l' := fun l' => by simpa using putTab_new σ (l.take k) l' []
    refine gq2 (zo hlen (zo hd hgx)) ?_
    refine zoC hT ?_
    rw [hno]
    refine gq5 ?_
    refine c_tSum hT hxb (by rw [List.length_take]; omega) ?_
    rw [hP]
    have e : ziG (l.take k) x = l.take (k + 1) := by
      have h1 : (l.take k).length = k := by rw [List.length_take]; omega
      rw [ziG, hno]
      simp only [h1]
      rw [if_neg (by omega), List.take_add_one, hx]; rfl
    rw [e]
    have hw : IntKind.i64.wrap ((k : Int) + 1) = ((k + 1 : Nat) : Int) := by rw [zao (by omega) (by omega)]; rfl
    refine gq2 hw ?_
    exact zbq.next hlt ⟨rfl, rfl⟩
  · have hd : decide ((k : Int) < (l.length : Int)) = false := by simp; omega
    rw [List.take_of_length_le (by omega)]
    refine gq2 (zo hlen hd) ?_
    refine zdv (σ' := σ) (os := tabO σ.length l) rfl rfl hl (low_tabO _ _) ?_ hK
    exact .tup _ (by simp [zfj]; exact .box _ _ (by simp))
theorem zoD {σ : List zb} {id m t : Nat} {l : List (List UInt8)} (hT : zcF σ id m t l) (hn : l.Nodup) (hl0 : l.length ≤ 1048576) (hb : ∀ b ∈ l, b.length ≤ 1073741824) {K : AV → List zb → Prop}
    (hK : K (.box (σ.length + 1) 0) (σ ++ tabO σ.length l)) : zn Tryz.prog zbB [.box id 0] σ K := by
  refine zby zdc.is rfl (fun s => List.range' σ.length 3) fun hl _ => zdc.goes ?_
  have hbx := hT.box
  simp only [zde, iN, bT, bF, eN]
  refine gq1 ?_
  refine c_tNone hT ?_
  refine gq2 hbx ?_
  refine c_From hn hl0 hb ?_
  refine gq1 ?_
  exact zdv (σ' := σ) (os := tabO σ.length l) rfl rfl hl (low_tabO _ _) (.box _ _ (by simp)) hK
end Go.Proofs.YtjjchfbckfopkaaGreat
