/- Contracts: a ledger signs; a table's clone; whether both were made. -/
import Derived.Test.YtncpaekiidpchaaGreatId2
set_option linter.all false
set_option maxRecDepth 100000
namespace Go.Proofs.YtncpaekiidpchaaGreat
open Go.AW
def ztP (s : zJ) : AV := .agg [.d (.int .i64 s.key), .d (.int .i64 s.dig)]
def signR (k d : Int) : zJ := if zdu k d = 0 then ⟨k,d⟩ else ⟨0, 0⟩
def zeL (g : List zJ) (k d : Int) : List zJ := if zdu k d = 0 then zkg g ⟨k,d⟩ else g
theorem gq6 {A P Q : Prop} (a : A) (h : Q) (e : A → P = Q := by intro a; simp -dsimp only [↓zey, ↓zau, ↓zbj, ↓zeA, ↓zes, ↓zeq, ↓zet, ↓zer, ↓zbo, ↓zbk, ↓zbp, ↓zbl, ↓zeu, ↓zbi, ↓zbq, ↓zbm, ↓zbr, ↓zbn, ↓zep, ↓zew, ↓zbh, ↓zbs, ↓zeg, ↓zef, ↓zeo,iN,bT,bF,eN, ↓zcS, ↓unC, ↓zW, ↓zK, ↓zL, ↓zN, ↓zZ, ↓zaw, ↓zbT, ↓zag, ↓zbu, ↓zP, ↓zq, ↓zo, ↓zby, ↓zl, ↓zaf, ↓zH, ↓zaC, ↓zaG, ↓ze, ↓zC, ↓zt, ↓zw, ↓zan, ↓zcC, ↓zdb, ↓zal, ↓zat, ↓zaF, ↓zaP, ↓zaW, ↓zu, ↓zai, ↓zM, ↓zA, ↓zaa,zdi,zbd,zba,unA,zdk,bnd,zdw,zac,zS,zdy,dm,dm1,zB,zak,zdP,zdO,zQ,Q0,Q1,Q2,Q3,Q4,Q5,zR,zr,zy,zO,zI,Q6,Q7,Q8,Q9,Q10,Q11,Q12,Q13,Q14,Nat.reduceAdd,Q15,Int.reduceToNat,Q16,Q17,Q18,Q19,Q20,reduceIte,Q21,Q22,zE,rep,zV,zdG,toD,zab,Q23,Q24,Q25,Q26,Q27,Q28,Nat.reduceLeDiff,Q29,Nat.reduceSub,Q30,Q31,Q32,sc,Q33,Q34,Q35,Q36,Q37,Q26,Q38,Q39,zgH,zgE,zgB,zgI,zcf,zgF,zgC,zgG,zgD,zce,zcg,zgJ,zgK,Bool.not_true,Bool.not_false,List.length_map,zdY,zcT,zeE,zaF,mgetR,zaP,a]; rfl) : P := (e a).mpr h
theorem c_gSign {σ : List zg} {id m t : Nat} {g : List zJ} {k d : Int} (hG : zdV σ id m t g) (hgl : g.length ≤ 1073741824) {K : KT}
  (hK : K (.tup [ztP (signR k d), .d (.int .i64 (zdu k d))]) (putLed σ id m t (zeL g k d))) : zD Tryz.prog zda [.box id 0, .d (.int .i64 k), .d (.int .i64 d)] σ K := by
 refine zj zhm.is rfl fun hl _ => zhm.goes ?_
 have hb : ∀ τ,(σ ++ τ)[id]? = some (.box [.own t (zoh g), .map m]) := fun τ => zf hG.box
 have hm : ∀ τ,(σ ++ τ)[m]? = some (.map (zrY g)) := fun τ => zf hG.map
 obtain ⟨n1,n2,n3⟩ := hG.ne
 have hlen : (zoh g).length = g.length := List.length_map ..
 have bad : zdu k d ≠ 0 → K (.tup [.agg [.d (.int .i64 0), .d (.int .i64 0)], .d (.int .i64 (zdu k d))]) σ := fun h => by
  rw [signR,zeL,if_neg h,if_neg h,hG.self] at hK
  exact hK
 simp only [zhz,iN,bT,bF,eN]
 (repeat' first | refine gq1 ?_ | with_reducible first | exact ⟨⟩ | refine zh ?_ | fail)
 refine zur (hG.app _) ?_
 cases h1 : decide (k < 0)
 ·cases h2 : decide (k ≥ 21)
  ·have hk : ¬ (k < 0 ∨ k ≥ 21) := by simp at h1 h2; omega
   cases h3 : decide (d < 1)
   ·have he : zdu k d = 0 := by rw [zdu,if_neg hk,if_neg (by simpa using h3)]
    rw [he,signR,zeL,if_pos he,if_pos he] at hK
    by_cases hs : (⟨k,d⟩ : zJ) ∈ g
    ·obtain ⟨j,hf⟩ := znf hs
     simp only at hf
     rw [zkg,if_pos hs,hG.self] at hK
     (repeat' first | refine gq4 (zd h1 (zd h2 (zd h3 (zd hb (zd hm hf))))) ?_ | with_reducible first | exact ⟨⟩ | refine zh ?_ | fail)
     (first | refine zaq hl ?_ | refine zap hl ?_)
     exact hK
    ·have hf := zpl hs
     simp only at hf
     rw [zkg,if_neg hs] at hK
     have hmm : σ[m]? = some (.map (zrY g)) := hG.map
     have s1 : ∀ X τ,(σ ++ τ).set m X = σ.set m X ++ τ := fun X τ => zbI hG.map
     have hb' : ∀ X,(σ.set m X)[id]? = some (.box [.own t (zoh g), .map m]) := fun X => by rw [List.getElem?_set_ne (Ne.symm n1)]; exact hG.box
     have ht' : ∀ X,(σ.set m X)[t]? = some (.tok 2 g.length) := fun X => by rw [List.getElem?_set_ne n3]; exact hG.tok
     have g3 : ∀ X τ,(σ.set m X ++ τ)[id]? = some (.box [.own t (zoh g), .map m]) := fun X τ => zf (hb' X)
     have g4 : ∀ X τ,(σ.set m X ++ τ)[t]? = some (.tok 2 g.length) := fun X τ => zf (ht' X)
     have s2 : ∀ X Y τ,(σ.set m X ++ τ).set t Y = (σ.set m X).set t Y ++ τ := fun X Y τ => zbI (ht' X)
     have hb2 : ∀ X Y,((σ.set m X).set t Y)[id]? = some (.box [.own t (zoh g), .map m]) := fun X Y => by rw [List.getElem?_set_ne (Ne.symm n2)]; exact hb' X
     have s3 : ∀ X Y Z τ,((σ.set m X).set t Y ++ τ).set id Z = ((σ.set m X).set t Y).set id Z ++ τ := fun X Y Z τ => zbI (hb2 X Y)
     have g5 : ∀ X Y τ,((σ.set m X).set t Y ++ τ)[id]? = some (.box [.own t (zoh g), .map m]) := fun X Y τ => zf (hb2 X Y)
     have L1 : ∀ X : zg, σ.length = (σ.set m X).length := fun X => by simp
     have L2 : ∀ X Y : zg, σ.length = ((σ.set m X).set t Y).length := fun X Y => by simp
     have L3 : ∀ X Y Z : zg, σ.length = (((σ.set m X).set t Y).set id Z).length := fun X Y Z => by simp
     have e1 : ∀ X τ n,(σ.set m X ++ τ)[σ.length + n]? = τ[n]? := fun X τ n => by rw [L1 X]; exact zr ..
     have e2 : ∀ X Y Z τ n,(((σ.set m X).set t Y).set id Z ++ τ)[σ.length + n]? = τ[n]? := fun X Y Z τ n => by rw [L3 X Y Z]; exact zr ..
     have e3 : ∀ X Y Z τ W,(((σ.set m X).set t Y).set id Z ++ τ).set σ.length W = ((σ.set m X).set t Y).set id Z ++ τ.set 0 W := fun X Y Z τ W => by rw [L3 X Y Z]; exact zI ..
     have e4 : ∀ X Y Z τ,(((σ.set m X).set t Y).set id Z ++ τ)[σ.length]? = τ[0]? := fun X Y Z τ => by rw [L3 X Y Z]; exact zy ..
     (repeat' first | refine gq6 (zd h1 (zd h2 (zd h3 (zd hb (zd hm (zd hf (zd s1 (zd g3 (zd g4 (zd s2 (zd s3 (zd g5 (zd e1 (zd e2 (zd e3 (zd e4 hlen)))))))))))))))) ?_ | with_reducible first | exact ⟨⟩ | refine zh ?_ | fail)
     have e : putLed σ id m t (g ++ [⟨k,d⟩]) = (((σ.set m (zg.map (zrY g ++ [(AV.agg [AV.d (D.int IntKind.i64 k),AV.d (D.int IntKind.i64 d)],AV.d (D.bool true))]))).set t (zg.tok 2 (g.length + 1))).set id (zg.box [AV.own t (zoh g ++ [[D.int IntKind.i64 k,D.int IntKind.i64 d]]),AV.map m])) := by
      rw [ledM_add g ⟨k,d⟩]
      simp [putLed,zoh,zid]
     rw [← e]
     exact zdc (putLed_len ..) (by simp [zdh,dmT,dm,dm1,zca,zbv,zeB]) (hG.lows hl _) hK
   ·have he : zdu k d = 1 := by rw [zdu,if_neg hk,if_pos (by simpa using h3)]
    have := bad (by rw [he]; decide)
    rw [he] at this
    (repeat' first | refine gq2 (zd h1 (zd h2 h3)) ?_ | with_reducible first | exact ⟨⟩ | refine zh ?_ | fail)
    (first | refine zaq hl ?_ | refine zap hl ?_)
    exact this
  ·have he : zdu k d = 20 := by rw [zdu,if_pos (by simp at h2; omega)]
   have := bad (by rw [he]; decide)
   rw [he] at this
   (repeat' first | refine gq2 (zd h1 h2) ?_ | with_reducible first | exact ⟨⟩ | refine zh ?_ | fail)
   (first | refine zaq hl ?_ | refine zap hl ?_)
   exact this
 ·have he : zdu k d = 20 := by rw [zdu,if_pos (by simp at h1; omega)]
  have := bad (by rw [he]; decide)
  rw [he] at this
  (repeat' first | refine gq2 h1 ?_ | with_reducible first | exact ⟨⟩ | refine zh ?_ | fail)
  (first | refine zaq hl ?_ | refine zap hl ?_)
  exact this
theorem gq7 {P Q : Prop} (h : Q) (e : P = Q := by simp -dsimp only [↓zey, ↓zau, ↓zbj, ↓zeA, ↓zes, ↓zeq, ↓zet, ↓zer, ↓zbo, ↓zbk, ↓zbp, ↓zbl, ↓zeu, ↓zbi, ↓zbq, ↓zbm, ↓zbr, ↓zbn, ↓zep, ↓zew, ↓zbh, ↓zbs, ↓zeg, ↓zef, ↓zeo,iN,bT,bF,eN, ↓zcS, ↓unC, ↓zW, ↓zK, ↓zL, ↓zN, ↓zZ, ↓zaw, ↓zbT, ↓zag, ↓zbu, ↓zP, ↓zq, ↓zo, ↓zby, ↓zl, ↓zaf, ↓zH, ↓zaC, ↓zaG, ↓ze, ↓zC, ↓zt, ↓zw, ↓zan, ↓zcC, ↓zdb, ↓zal, ↓zat, ↓zaF, ↓zaP, ↓zaW, ↓zu, ↓zai, ↓zM, ↓zA, ↓zaa,zdi,zbd,zba,unA,zdk,bnd,zdw,zac,zS,zdy,dm,dm1,zB,zak,zdP,zdO,zQ,Q0,Q1,Q2,Q3,Q4,Q5,zR,zr,zy,zO,zI,Q6,Q7,Q8,Q9,Q10,Q11,Q12,Q13,Q14,Nat.reduceAdd,Q15,Int.reduceToNat,Q16,Q17,Q18,Q19,Q20,reduceIte,Q21,Q22,zE,rep,zV,zdG,toD,zab,Q23,Q24,Q25,Q26,Q27,Q28,Nat.reduceLeDiff,Q29,Nat.reduceSub,Q30,Q31,Q32,sc,Q33,Q34,Q35,Q36,Q37,Q26,Q38,Q39,zgH,zgE,zgB,zgI,zcf,zgF,zgC,zgG,zgD,zce,zcg,zgJ,zgK,Bool.not_true,Bool.not_false,List.length_map,Option.isSome_none]; rfl) : P := e.mpr h
theorem c_From {σ : List zg} {l : List (List UInt8)} (hn : l.Nodup) (hl0 : l.length ≤ 1048576) (hb : ∀ b ∈ l,b.length ≤ 1073741824) {K : KT}
  (hK : K (.tup [.box (σ.length + 1) 0, .d (.int .i64 0)]) (σ ++ tabO σ.length l)) : zD Tryz.prog zkz [.d (.slice (zdt l))] σ K := by
 refine zcr zpA.is rfl (fun s => List.range' σ.length 3) fun hl _ => zpA.goes ?_
 have hlen : (zdt l).length = l.length := List.length_map ..
 have hd : decide ((l.length : Int) > 1048576) = false := by simp; omega
 simp only [zpP,iN,bT,bF,eN]
 (repeat' first | refine gq2 (zd hlen hd) ?_ | with_reducible first | exact ⟨⟩ | refine zh ?_ | fail)
 refine ztn ?_
 (repeat' first | refine gq1 ?_ | with_reducible first | exact ⟨⟩ | refine zh ?_ | fail)
 refine zG l.length (fun k vs s => vs = [.d (.int .i64 k)] ∧ s = σ ++ tabO σ.length (l.take k)) ⟨rfl,rfl⟩ ?_
 rintro k vs s hk ⟨rfl,rfl⟩
 by_cases hlt : k < l.length
 ·have hd : decide ((k : Int) < (l.length : Int)) = true := by simp; omega
  have hx : l[k]? = some l[k] := by simp [hlt]
  have hgx := zae (f := fun b => [D.slice (bcs b)]) hx
  have hxb := hb _ (List.getElem_mem hlt)
  have hnot : l[k] ∉ l.take k := fun hm => by
   obtain ⟨i,hi,he⟩ := List.mem_take_iff_getElem.1 hm
   have := (List.getElem_inj hn).1 he
   omega
  obtain ⟨x,hxe⟩ : ∃ x,l[k] = x := ⟨_,rfl⟩
  rw [hxe] at hx hgx hxb hnot
  have hno := zsx hnot
  have hT : zcl (σ ++ tabO σ.length (l.take k)) (σ.length + 1) σ.length (σ.length + 2) (l.take k) := by simpa using tabAt_new σ (l.take k) []
  have hP : ∀ l',putTab (σ ++ tabO σ.length (l.take k)) (σ.length + 1) σ.length (σ.length + 2) l' = σ ++ tabO σ.length l' := fun l' => by simpa using putTab_new σ (l.take k) l' []
  (repeat' first | refine gq2 (zd hlen (zd hd hgx)) ?_ | with_reducible first | exact ⟨⟩ | refine zh ?_ | fail)
  refine zmI hT ?_
  rw [hno]
  (repeat' first | refine gq7 ?_ | with_reducible first | exact ⟨⟩ | refine zh ?_ | fail)
  refine zti hT hxb (by rw [List.length_take]; omega) ?_
  rw [hP]
  have e : zdH (l.take k) x = l.take (k + 1) := by
   have h1 : (l.take k).length = k := by rw [List.length_take]; omega
   rw [zdH,hno]
   simp only [h1]
   rw [if_neg (by omega),List.take_add_one,hx]; rfl
  rw [e]
  have hw : IntKind.i64.wrap ((k : Int) + 1) = ((k + 1 : Nat) : Int) := by rw [zX (by omega) (by omega)]; rfl
  (repeat' first | refine gq2 hw ?_ | with_reducible first | exact ⟨⟩ | refine zh ?_ | fail)
  exact zav.next hlt ⟨rfl,rfl⟩
 ·have hd : decide ((k : Int) < (l.length : Int)) = false := by simp; omega
  rw [List.take_of_length_le (by omega)]
  (repeat' first | refine gq2 (zd hlen hd) ?_ | with_reducible first | exact ⟨⟩ | refine zh ?_ | fail)
  refine zeX (σ' := σ) (os := tabO σ.length l) rfl rfl hl (low_tabO _ _) ?_ hK
  exact .tup _ (by simp [zdh]; exact .box _ _ (by simp))
theorem zlA {σ : List zg} {id m t : Nat} {l : List (List UInt8)} (hT : zcl σ id m t l) (hn : l.Nodup) (hl0 : l.length ≤ 1048576) (hb : ∀ b ∈ l,b.length ≤ 1073741824) {K : KT}
  (hK : K (.box (σ.length + 1) 0) (σ ++ tabO σ.length l)) : zD Tryz.prog zaS [.box id 0] σ K := by
 refine zcr zhk.is rfl (fun s => List.range' σ.length 3) fun hl _ => zhk.goes ?_
 have hbx := hT.box
 simp only [zhx,iN,bT,bF,eN]
 (repeat' first | refine gq1 ?_ | with_reducible first | exact ⟨⟩ | refine zh ?_ | fail)
 refine zui hT ?_
 (repeat' first | refine gq2 hbx ?_ | with_reducible first | exact ⟨⟩ | refine zh ?_ | fail)
 refine c_From hn hl0 hb ?_
 (repeat' first | refine gq1 ?_ | with_reducible first | exact ⟨⟩ | refine zh ?_ | fail)
 exact zeX (σ' := σ) (os := tabO σ.length l) rfl rfl hl (low_tabO _ _) (.box _ _ (by simp)) hK
end Go.Proofs.YtncpaekiidpchaaGreat
