/- Contracts: a ledger signs; a table's clone; whether both were made. -/
import Derived.Test.YtncpaekiidpchaaGreatId2
set_option linter.all false
set_option maxRecDepth 100000
namespace Go.Proofs.YtncpaekiidpchaaGreat
open Go.AW
def ztW (s : zJ) : AV := .agg [.d (.int .i64 s.key), .d (.int .i64 s.dig)]
def signR (k d : Int) : zJ := if zdx k d = 0 then ⟨k,d⟩ else ⟨0, 0⟩
def zew (g : List zJ) (k d : Int) : List zJ := if zdx k d = 0 then zkp g ⟨k,d⟩ else g
theorem gq6 {A P Q : Prop} (a : A) (h : Q) (e : A → P = Q := by intro a; simp -dsimp only [↓zes, ↓zaw, ↓zbf, ↓zet, ↓zen, ↓zel, ↓zeo, ↓zem, ↓zbk, ↓zbg, ↓zbl, ↓zbh, ↓zep, ↓zbe, ↓zbm, ↓zbi, ↓zbn, ↓zbj, ↓zek, ↓zeq, ↓zbd, ↓zbo, ↓zef, ↓zee, ↓zej,iN,bT,bF,eN, ↓zcS, ↓unC, ↓zU, ↓zK, ↓zL, ↓zN, ↓zZ, ↓zax, ↓zbQ, ↓zaf, ↓zbp, ↓zP, ↓zq, ↓zo, ↓zbu, ↓zl, ↓zah, ↓zI, ↓zaD, ↓zaG, ↓ze, ↓zC, ↓zt, ↓zw, ↓zan, ↓zcC, ↓zcV, ↓zal, ↓zat, ↓zaE, ↓zaN, ↓zaS, ↓zu, ↓zai, ↓zM, ↓zA, ↓zaa,zcZ,zba,zaV,unA,zdg,bnd,zdy,zad,zS,zdz,dm,dm1,zB,zak,zdQ,zdP,zR,Q0,Q1,Q2,Q3,Q4,Q5,zQ,zr,zy,zO,zH,Q6,Q7,Q8,Q9,Q10,Q11,Q12,Q13,Q14,Nat.reduceAdd,Q15,Int.reduceToNat,Q16,Q17,Q18,Q19,Q20,reduceIte,Q21,Q22,zD,rep,zV,zdK,toD,zac,Q23,Q24,Q25,Q26,Q27,Q28,Nat.reduceLeDiff,Q29,Nat.reduceSub,Q30,Q31,Q32,sc,Q33,Q34,Q35,Q36,Q37,Q26,Q38,Q39,zgF,zgC,zgz,zgG,zcb,zgD,zgA,zgE,zgB,zca,zcc,zgK,zgL,Bool.not_true,Bool.not_false,List.length_map,zec,zcW,zeK,zaE,mgetR,zaN,a]; rfl) : P := (e a).mpr h
theorem c_gSign {σ : List zg} {id m t : Nat} {g : List zJ} {k d : Int} (hG : zdZ σ id m t g) (hgl : g.length ≤ 1073741824) {K : KT}
  (hK : K (.tup [ztW (signR k d), .d (.int .i64 (zdx k d))]) (putLed σ id m t (zew g k d))) : zE Tryz.prog zci [.box id 0, .d (.int .i64 k), .d (.int .i64 d)] σ K := by
 refine zi zhr.is rfl fun hl _ => zhr.goes ?_
 have hb : ∀ τ,(σ ++ τ)[id]? = some (.box [.own t (zoj g), .map m]) := fun τ => zf hG.box
 have hm : ∀ τ,(σ ++ τ)[m]? = some (.map (zsg g)) := fun τ => zf hG.map
 obtain ⟨n1,n2,n3⟩ := hG.ne
 have hlen : (zoj g).length = g.length := List.length_map ..
 have bad : zdx k d ≠ 0 → K (.tup [.agg [.d (.int .i64 0), .d (.int .i64 0)], .d (.int .i64 (zdx k d))]) σ := fun h => by
  rw [signR,zew,if_neg h,if_neg h,hG.self] at hK
  exact hK
 simp only [zhD,iN,bT,bF,eN]
 (repeat' first | refine gq1 ?_ | with_reducible first | exact ⟨⟩ | refine zh ?_ | fail)
 refine zuA (hG.app _) ?_
 cases h1 : decide (k < 0)
 ·cases h2 : decide (k ≥ 21)
  ·have hk : ¬ (k < 0 ∨ k ≥ 21) := by simp at h1 h2; omega
   cases h3 : decide (d < 1)
   ·have he : zdx k d = 0 := by rw [zdx,if_neg hk,if_neg (by simpa using h3)]
    rw [he,signR,zew,if_pos he,if_pos he] at hK
    by_cases hs : (⟨k,d⟩ : zJ) ∈ g
    ·obtain ⟨j,hf⟩ := znp hs
     simp only at hf
     rw [zkp,if_pos hs,hG.self] at hK
     (repeat' first | refine gq4 (zd h1 (zd h2 (zd h3 (zd hb (zd hm hf))))) ?_ | with_reducible first | exact ⟨⟩ | refine zh ?_ | fail)
     (first | refine zar hl ?_ | refine zaq hl ?_)
     exact hK
    ·have hf := zpp hs
     simp only at hf
     rw [zkp,if_neg hs] at hK
     have hmm : σ[m]? = some (.map (zsg g)) := hG.map
     have s1 : ∀ X τ,(σ ++ τ).set m X = σ.set m X ++ τ := fun X τ => zbD hG.map
     have hb' : ∀ X,(σ.set m X)[id]? = some (.box [.own t (zoj g), .map m]) := fun X => by rw [List.getElem?_set_ne (Ne.symm n1)]; exact hG.box
     have ht' : ∀ X,(σ.set m X)[t]? = some (.tok 2 g.length) := fun X => by rw [List.getElem?_set_ne n3]; exact hG.tok
     have g3 : ∀ X τ,(σ.set m X ++ τ)[id]? = some (.box [.own t (zoj g), .map m]) := fun X τ => zf (hb' X)
     have g4 : ∀ X τ,(σ.set m X ++ τ)[t]? = some (.tok 2 g.length) := fun X τ => zf (ht' X)
     have s2 : ∀ X Y τ,(σ.set m X ++ τ).set t Y = (σ.set m X).set t Y ++ τ := fun X Y τ => zbD (ht' X)
     have hb2 : ∀ X Y,((σ.set m X).set t Y)[id]? = some (.box [.own t (zoj g), .map m]) := fun X Y => by rw [List.getElem?_set_ne (Ne.symm n2)]; exact hb' X
     have s3 : ∀ X Y Z τ,((σ.set m X).set t Y ++ τ).set id Z = ((σ.set m X).set t Y).set id Z ++ τ := fun X Y Z τ => zbD (hb2 X Y)
     have g5 : ∀ X Y τ,((σ.set m X).set t Y ++ τ)[id]? = some (.box [.own t (zoj g), .map m]) := fun X Y τ => zf (hb2 X Y)
     have L1 : ∀ X : zg, σ.length = (σ.set m X).length := fun X => by simp
     have L2 : ∀ X Y : zg, σ.length = ((σ.set m X).set t Y).length := fun X Y => by simp
     have L3 : ∀ X Y Z : zg, σ.length = (((σ.set m X).set t Y).set id Z).length := fun X Y Z => by simp
     have e1 : ∀ X τ n,(σ.set m X ++ τ)[σ.length + n]? = τ[n]? := fun X τ n => by rw [L1 X]; exact zr ..
     have e2 : ∀ X Y Z τ n,(((σ.set m X).set t Y).set id Z ++ τ)[σ.length + n]? = τ[n]? := fun X Y Z τ n => by rw [L3 X Y Z]; exact zr ..
     have e3 : ∀ X Y Z τ W,(((σ.set m X).set t Y).set id Z ++ τ).set σ.length W = ((σ.set m X).set t Y).set id Z ++ τ.set 0 W := fun X Y Z τ W => by rw [L3 X Y Z]; exact zH ..
     have e4 : ∀ X Y Z τ,(((σ.set m X).set t Y).set id Z ++ τ)[σ.length]? = τ[0]? := fun X Y Z τ => by rw [L3 X Y Z]; exact zy ..
     (repeat' first | refine gq6 (zd h1 (zd h2 (zd h3 (zd hb (zd hm (zd hf (zd s1 (zd g3 (zd g4 (zd s2 (zd s3 (zd g5 (zd e1 (zd e2 (zd e3 (zd e4 hlen)))))))))))))))) ?_ | with_reducible first | exact ⟨⟩ | refine zh ?_ | fail)
     have e : putLed σ id m t (g ++ [⟨k,d⟩]) = (((σ.set m (zg.map (zsg g ++ [(AV.agg [AV.d (D.int IntKind.i64 k),AV.d (D.int IntKind.i64 d)],AV.d (D.bool true))]))).set t (zg.tok 2 (g.length + 1))).set id (zg.box [AV.own t (zoj g ++ [[D.int IntKind.i64 k,D.int IntKind.i64 d]]),AV.map m])) := by
      rw [ledM_add g ⟨k,d⟩]
      simp [putLed,zoj,zhF]
     rw [← e]
     exact zdh (putLed_len ..) (by simp [zcU,dmT,dm,dm1,zbZ,zbr,zeG]) (hG.lows hl _) hK
   ·have he : zdx k d = 1 := by rw [zdx,if_neg hk,if_pos (by simpa using h3)]
    have := bad (by rw [he]; decide)
    rw [he] at this
    (repeat' first | refine gq2 (zd h1 (zd h2 h3)) ?_ | with_reducible first | exact ⟨⟩ | refine zh ?_ | fail)
    (first | refine zar hl ?_ | refine zaq hl ?_)
    exact this
  ·have he : zdx k d = 20 := by rw [zdx,if_pos (by simp at h2; omega)]
   have := bad (by rw [he]; decide)
   rw [he] at this
   (repeat' first | refine gq2 (zd h1 h2) ?_ | with_reducible first | exact ⟨⟩ | refine zh ?_ | fail)
   (first | refine zar hl ?_ | refine zaq hl ?_)
   exact this
 ·have he : zdx k d = 20 := by rw [zdx,if_pos (by simp at h1; omega)]
  have := bad (by rw [he]; decide)
  rw [he] at this
  (repeat' first | refine gq2 h1 ?_ | with_reducible first | exact ⟨⟩ | refine zh ?_ | fail)
  (first | refine zar hl ?_ | refine zaq hl ?_)
  exact this
theorem gq7 {P Q : Prop} (h : Q) (e : P = Q := by simp -dsimp only [↓zes, ↓zaw, ↓zbf, ↓zet, ↓zen, ↓zel, ↓zeo, ↓zem, ↓zbk, ↓zbg, ↓zbl, ↓zbh, ↓zep, ↓zbe, ↓zbm, ↓zbi, ↓zbn, ↓zbj, ↓zek, ↓zeq, ↓zbd, ↓zbo, ↓zef, ↓zee, ↓zej,iN,bT,bF,eN, ↓zcS, ↓unC, ↓zU, ↓zK, ↓zL, ↓zN, ↓zZ, ↓zax, ↓zbQ, ↓zaf, ↓zbp, ↓zP, ↓zq, ↓zo, ↓zbu, ↓zl, ↓zah, ↓zI, ↓zaD, ↓zaG, ↓ze, ↓zC, ↓zt, ↓zw, ↓zan, ↓zcC, ↓zcV, ↓zal, ↓zat, ↓zaE, ↓zaN, ↓zaS, ↓zu, ↓zai, ↓zM, ↓zA, ↓zaa,zcZ,zba,zaV,unA,zdg,bnd,zdy,zad,zS,zdz,dm,dm1,zB,zak,zdQ,zdP,zR,Q0,Q1,Q2,Q3,Q4,Q5,zQ,zr,zy,zO,zH,Q6,Q7,Q8,Q9,Q10,Q11,Q12,Q13,Q14,Nat.reduceAdd,Q15,Int.reduceToNat,Q16,Q17,Q18,Q19,Q20,reduceIte,Q21,Q22,zD,rep,zV,zdK,toD,zac,Q23,Q24,Q25,Q26,Q27,Q28,Nat.reduceLeDiff,Q29,Nat.reduceSub,Q30,Q31,Q32,sc,Q33,Q34,Q35,Q36,Q37,Q26,Q38,Q39,zgF,zgC,zgz,zgG,zcb,zgD,zgA,zgE,zgB,zca,zcc,zgK,zgL,Bool.not_true,Bool.not_false,List.length_map,Option.isSome_none]; rfl) : P := e.mpr h
theorem c_From {σ : List zg} {l : List (List UInt8)} (hn : l.Nodup) (hl0 : l.length ≤ 1048576) (hb : ∀ b ∈ l,b.length ≤ 1073741824) {K : KT}
  (hK : K (.tup [.box (σ.length + 1) 0, .d (.int .i64 0)]) (σ ++ tabO σ.length l)) : zE Tryz.prog zkG [.d (.slice (zdw l))] σ K := by
 refine zct zpE.is rfl (fun s => List.range' σ.length 3) fun hl _ => zpE.goes ?_
 have hlen : (zdw l).length = l.length := List.length_map ..
 have hd : decide ((l.length : Int) > 1048576) = false := by simp; omega
 simp only [zpT,iN,bT,bF,eN]
 (repeat' first | refine gq2 (zd hlen hd) ?_ | with_reducible first | exact ⟨⟩ | refine zh ?_ | fail)
 refine ztu ?_
 (repeat' first | refine gq1 ?_ | with_reducible first | exact ⟨⟩ | refine zh ?_ | fail)
 refine zG l.length (fun k vs s => vs = [.d (.int .i64 k)] ∧ s = σ ++ tabO σ.length (l.take k)) ⟨rfl,rfl⟩ ?_
 rintro k vs s hk ⟨rfl,rfl⟩
 by_cases hlt : k < l.length
 ·have hd : decide ((k : Int) < (l.length : Int)) = true := by simp; omega
  have hx : l[k]? = some l[k] := by simp [hlt]
  have hgx := zae (f := fun b => [D.slice (bcs b)]) hx
  have hxb := hb _ (List.getElem_mem hlt)
  have hnot : l[k] ∉ l.take k := fun hm => by
   obtain ⟨i,hi,he⟩ := List.mem_take_iff_getElem.1 hm
   have := (List.getElem_inj hn).1 he
   omega
  obtain ⟨x,hxe⟩ : ∃ x,l[k] = x := ⟨_,rfl⟩
  rw [hxe] at hx hgx hxb hnot
  have hno := zsE hnot
  have hT : zcm (σ ++ tabO σ.length (l.take k)) (σ.length + 1) σ.length (σ.length + 2) (l.take k) := by simpa using tabAt_new σ (l.take k) []
  have hP : ∀ l',putTab (σ ++ tabO σ.length (l.take k)) (σ.length + 1) σ.length (σ.length + 2) l' = σ ++ tabO σ.length l' := fun l' => by simpa using putTab_new σ (l.take k) l' []
  (repeat' first | refine gq2 (zd hlen (zd hd hgx)) ?_ | with_reducible first | exact ⟨⟩ | refine zh ?_ | fail)
  refine zmV hT ?_
  rw [hno]
  (repeat' first | refine gq7 ?_ | with_reducible first | exact ⟨⟩ | refine zh ?_ | fail)
  refine ztp hT hxb (by rw [List.length_take]; omega) ?_
  rw [hP]
  have e : zdD (l.take k) x = l.take (k + 1) := by
   have h1 : (l.take k).length = k := by rw [List.length_take]; omega
   rw [zdD,hno]
   simp only [h1]
   rw [if_neg (by omega),List.take_add_one,hx]; rfl
  rw [e]
  have hw : IntKind.i64.wrap ((k : Int) + 1) = ((k + 1 : Nat) : Int) := by rw [zY (by omega) (by omega)]; rfl
  (repeat' first | refine gq2 hw ?_ | with_reducible first | exact ⟨⟩ | refine zh ?_ | fail)
  exact zav.next hlt ⟨rfl,rfl⟩
 ·have hd : decide ((k : Int) < (l.length : Int)) = false := by simp; omega
  rw [List.take_of_length_le (by omega)]
  (repeat' first | refine gq2 (zd hlen hd) ?_ | with_reducible first | exact ⟨⟩ | refine zh ?_ | fail)
  refine zfc (σ' := σ) (os := tabO σ.length l) rfl rfl hl (low_tabO _ _) ?_ hK
  exact .tup _ (by simp [zcU]; exact .box _ _ (by simp))
theorem zlJ {σ : List zg} {id m t : Nat} {l : List (List UInt8)} (hT : zcm σ id m t l) (hn : l.Nodup) (hl0 : l.length ≤ 1048576) (hb : ∀ b ∈ l,b.length ≤ 1073741824) {K : KT}
  (hK : K (.box (σ.length + 1) 0) (σ ++ tabO σ.length l)) : zE Tryz.prog zaQ [.box id 0] σ K := by
 refine zct zhp.is rfl (fun s => List.range' σ.length 3) fun hl _ => zhp.goes ?_
 have hbx := hT.box
 simp only [zhB,iN,bT,bF,eN]
 (repeat' first | refine gq1 ?_ | with_reducible first | exact ⟨⟩ | refine zh ?_ | fail)
 refine zur hT ?_
 (repeat' first | refine gq2 hbx ?_ | with_reducible first | exact ⟨⟩ | refine zh ?_ | fail)
 refine c_From hn hl0 hb ?_
 (repeat' first | refine gq1 ?_ | with_reducible first | exact ⟨⟩ | refine zh ?_ | fail)
 exact zfc (σ' := σ) (os := tabO σ.length l) rfl rfl hl (low_tabO _ _) (.box _ _ (by simp)) hK
end Go.Proofs.YtncpaekiidpchaaGreat
