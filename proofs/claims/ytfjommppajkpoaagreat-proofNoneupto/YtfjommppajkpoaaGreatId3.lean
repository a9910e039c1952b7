/- Contracts: a ledger signs; a table's clone; whether both were made. -/
import Derived.Test.YtfjommppajkpoaaGreatId2
set_option linter.all false
set_option maxRecDepth 100000
namespace Go.Proofs.YtfjommppajkpoaaGreat
open Go.AW
def zut (s : zI) : AV := .agg [.d (.int .i64 s.key), .d (.int .i64 s.dig)]
def signR (k d : Int) : zI := if zeJ k d = 0 then ⟨k,d⟩ else ⟨0, 0⟩
def zgI (g : List zI) (k d : Int) : List zI := if zeJ k d = 0 then zsz g ⟨k,d⟩ else g
theorem c_gSign {σ : List zg} {id m t : Nat} {g : List zI} {k d : Int} (hG : zea σ id m t g) (hgl : g.length ≤ 1073741824) {K : KT}
  (hK : K (.tup [zut (signR k d), .d (.int .i64 (zeJ k d))]) (putLed σ id m t (zgI g k d))) : zq Tryz.prog zcW [.box id 0, .d (.int .i64 k), .d (.int .i64 d)] σ K := by
 refine acE3 zmR fun hl => ?_
 have hb : ∀ τ,(σ ++ τ)[id]? = some (.box [.own t (zny g), .map m]) := fun τ => zf hG.box
 have hm : ∀ τ,(σ ++ τ)[m]? = some (.map (zsw g)) := fun τ => zf hG.map
 obtain ⟨n1,n2,n3⟩ := hG.ne
 have hlen : (zny g).length = g.length := List.length_map ..
 have bad : zeJ k d ≠ 0 → K (.tup [.agg [.d (.int .i64 0), .d (.int .i64 0)], .d (.int .i64 (zeJ k d))]) σ := fun h => by
  rw [signR,zgI,if_neg h,if_neg h,hG.self] at hK
  exact hK
 simp only [zhG,iN,bT,bF,eN]
 refine gq1 ?_
 refine zvq (hG.app _) ?_
 cases h1 : decide (k < 0)
 ·cases h2 : decide (k ≥ 21)
  ·have hk : ¬ (k < 0 ∨ k ≥ 21) := by simp at h1 h2; omega
   cases h3 : decide (d < 1)
   ·have he : zeJ k d = 0 := by rw [zeJ,if_neg hk,if_neg (by simpa using h3)]
    rw [he,signR,zgI,if_pos he,if_pos he] at hK
    by_cases hs : (⟨k,d⟩ : zI) ∈ g
    ·obtain ⟨j,hf⟩ := znu hs
     simp only at hf
     rw [zsz,if_pos hs,hG.self] at hK
     refine gq4 (zc h1 (zc h2 (zc h3 (zc hb (zc hm hf))))) ?_
     refine zK hl ?_
     exact hK
    ·have hf := zps hs
     simp only at hf
     rw [zsz,if_neg hs] at hK
     have hmm : σ[m]? = some (.map (zsw g)) := hG.map
     have s1 : ∀ X τ,(σ ++ τ).set m X = σ.set m X ++ τ := fun X τ => zbz hG.map
     have hb' : ∀ X,(σ.set m X)[id]? = some (.box [.own t (zny g), .map m]) := fun X => by rw [List.getElem?_set_ne (Ne.symm n1)]; exact hG.box
     have ht' : ∀ X,(σ.set m X)[t]? = some (.tok 2 g.length) := fun X => by rw [List.getElem?_set_ne n3]; exact hG.tok
     have g3 : ∀ X τ,(σ.set m X ++ τ)[id]? = some (.box [.own t (zny g), .map m]) := fun X τ => zf (hb' X)
     have g4 : ∀ X τ,(σ.set m X ++ τ)[t]? = some (.tok 2 g.length) := fun X τ => zf (ht' X)
     have s2 : ∀ X Y τ,(σ.set m X ++ τ).set t Y = (σ.set m X).set t Y ++ τ := fun X Y τ => zbz (ht' X)
     have hb2 : ∀ X Y,((σ.set m X).set t Y)[id]? = some (.box [.own t (zny g), .map m]) := fun X Y => by rw [List.getElem?_set_ne (Ne.symm n2)]; exact hb' X
     have s3 : ∀ X Y Z τ,((σ.set m X).set t Y ++ τ).set id Z = ((σ.set m X).set t Y).set id Z ++ τ := fun X Y Z τ => zbz (hb2 X Y)
     have g5 : ∀ X Y τ,((σ.set m X).set t Y ++ τ)[id]? = some (.box [.own t (zny g), .map m]) := fun X Y τ => zf (hb2 X Y)
     have L1 : ∀ X : zg, σ.length = (σ.set m X).length := fun X => by simp
     have L2 : ∀ X Y : zg, σ.length = ((σ.set m X).set t Y).length := fun X Y => by simp
     have L3 : ∀ X Y Z : zg, σ.length = (((σ.set m X).set t Y).set id Z).length := fun X Y Z => by simp
     have e1 : ∀ X τ n,(σ.set m X ++ τ)[σ.length + n]? = τ[n]? := fun X τ n => by rw [L1 X]; exact zh ..
     have e2 : ∀ X Y Z τ n,(((σ.set m X).set t Y).set id Z ++ τ)[σ.length + n]? = τ[n]? := fun X Y Z τ n => by rw [L3 X Y Z]; exact zh ..
     have e3 : ∀ X Y Z τ W,(((σ.set m X).set t Y).set id Z ++ τ).set σ.length W = ((σ.set m X).set t Y).set id Z ++ τ.set 0 W := fun X Y Z τ W => by rw [L3 X Y Z]; exact zN ..
     have e4 : ∀ X Y Z τ,(((σ.set m X).set t Y).set id Z ++ τ)[σ.length]? = τ[0]? := fun X Y Z τ => by rw [L3 X Y Z]; exact zm ..
     refine gq4 (zc h1 (zc h2 (zc h3 (zc hb (zc hm (zc hf (zc s1 (zc g3 (zc g4 (zc s2 (zc s3 (zc g5 (zc e1 (zc e2 (zc e3 (zc e4 hlen)))))))))))))))) ?_
     have e : putLed σ id m t (g ++ [⟨k,d⟩]) = (((σ.set m (zg.map (zsw g ++ [(AV.agg [AV.d (D.int IntKind.i64 k),AV.d (D.int IntKind.i64 d)],AV.d (D.bool true))]))).set t (zg.tok 2 (g.length + 1))).set id (zg.box [AV.own t (zny g ++ [[D.int IntKind.i64 k,D.int IntKind.i64 d]]),AV.map m])) := by
      rw [ledM_add g ⟨k,d⟩]
      simp [putLed,zny,zfI]
     rw [← e]
     exact zcY (putLed_len ..) (by simp [zcO,dmT,dm,dm1,zbY,zbf,zdZ]) (hG.lows hl _) hK
   ·have he : zeJ k d = 1 := by rw [zeJ,if_neg hk,if_pos (by simpa using h3)]
    have := bad (by rw [he]; decide)
    rw [he] at this
    refine gq2 (zc h1 (zc h2 h3)) ?_
    refine zK hl ?_
    exact this
  ·have he : zeJ k d = 20 := by rw [zeJ,if_pos (by simp at h2; omega)]
   have := bad (by rw [he]; decide)
   rw [he] at this
   refine gq2 (zc h1 h2) ?_
   refine zK hl ?_
   exact this
 ·have he : zeJ k d = 20 := by rw [zeJ,if_pos (by simp at h1; omega)]
  have := bad (by rw [he]; decide)
  rw [he] at this
  refine gq2 h1 ?_
  refine zK hl ?_
  exact this
theorem gq5 {P Q : Prop} (h : Q) (e : Hd Q → P := by intro h; (repeat' first | simp -dsimp only [↓zgr, ↓zaF, ↓zbL, ↓zgt, ↓zgn, ↓zgl, ↓zgo, ↓zgm, ↓zbR, ↓zbN, ↓zbS, ↓zbO, ↓zgp, ↓zbJ, ↓zbT, ↓zbP, ↓zbU, ↓zbQ, ↓zgj, ↓zgq, ↓zbI, ↓zbX, ↓zgc, ↓zgb, ↓zgi,iN,bT,bF,eN, ↓zdN, ↓unC, ↓zac, ↓zQ, ↓zR, ↓zV, ↓zak, ↓zau, ↓zco, ↓zag, ↓zaJ, ↓zW, ↓zp, ↓zo, ↓zbF, ↓zl, ↓zan, ↓zF, ↓zaM, ↓zaW, ↓ze, ↓zC, ↓zu, ↓zy, ↓zav, ↓zdr, ↓zdU, ↓zat, ↓zaB, ↓zaU, ↓zbk, ↓zbv, ↓zD, ↓zaq, ↓zS, ↓zE, ↓zam,zeb,zbD,zbB,unA,zei,bnd,zeF,zai,zP,zeE,dm,dm1,zB,zal,zfg,zff,zx,Q0,Q1,Q2,Q3,Q4,Q5,zZ,zh,zm,zT,zN,Q6,Q7,Q8,Q9,Q10,Q11,Q12,Q13,Q14,Nat.reduceAdd,Q15,Int.reduceToNat,Q16,Q17,Q18,Q19,Q20,reduceIte,Q21,Q22,zH,rep,zX,zfc,toD,zah,Q23,Q24,Q25,Q26,Q27,Q28,Nat.reduceLeDiff,Q29,Nat.reduceSub,Q30,Q31,Q32,sc,Q33,Q34,Q35,Q36,Q37,Q26,Q38,Q39,zkn,zkk,zkh,zko,zdu,zkl,zki,zkm,zkj,zdt,zdv,zkp,zkq,Bool.not_true,Bool.not_false,List.length_map,Bool.and_false,Bool.and_self,Bool.false_and,Bool.not_false,Bool.not_true,Bool.true_and,Int.toNat_natCast,Int.toNat_zero,List.drop_zero,List.length_map,List.length_nil,List.nil_append,List.take_length,Nat.sub_zero,Nat.zero_add,Option.isSome_none,Option.isSome_some,Option.map_none,Option.map_some,zaH,beq_self_eq_true,bne_self_eq_false] | with_reducible refine zkr ?_ | fail); exact h.go) : P := e ⟨h⟩
theorem c_From {σ : List zg} {l : List (List UInt8)} (hn : l.Nodup) (hl0 : l.length ≤ 1048576) (hb : ∀ b ∈ l,b.length ≤ 1073741824) {K : KT}
  (hK : K (.tup [.box (σ.length + 1) 0, .d (.int .i64 0)]) (σ ++ zup σ.length l)) : zq Tryz.prog zkK [.d (.slice (zdo l))] σ K := by
 refine zct zpC.is rfl (fun s => List.range' σ.length 3) fun hl _ => zpC.goes ?_
 have hlen : (zdo l).length = l.length := List.length_map ..
 have hd : decide ((l.length : Int) > 1048576) = false := by simp; omega
 simp only [zpU,iN,bT,bF,eN]
 refine gq2 (zc hlen hd) ?_
 refine zeD ?_
 refine gq1 ?_
 refine zw l.length (fun k vs s => vs = [.d (.int .i64 k)] ∧ s = σ ++ zup σ.length (l.take k)) ⟨rfl,rfl⟩ ?_
 rintro k vs s hk ⟨rfl,rfl⟩
 by_cases hlt : k < l.length
 ·have hd : decide ((k : Int) < (l.length : Int)) = true := by simp; omega
  have hx : l[k]? = some l[k] := by simp [hlt]
  have hgx := zU (f := fun b => [D.slice (bcs b)]) hx
  have hxb := hb _ (List.getElem_mem hlt)
  have hnot : l[k] ∉ l.take k := fun hm => by
   obtain ⟨i,hi,he⟩ := List.mem_take_iff_getElem.1 hm
   have := (List.getElem_inj hn).1 he
   omega
  obtain ⟨x,hxe⟩ : ∃ x,l[k] = x := ⟨_,rfl⟩
  rw [hxe] at hx hgx hxb hnot
  have hno := ztm hnot
  have hT : zcd (σ ++ zup σ.length (l.take k)) (σ.length + 1) σ.length (σ.length + 2) (l.take k) := by simpa using tabAt_new σ (l.take k) []
  have hP : ∀ l',putTab (σ ++ zup σ.length (l.take k)) (σ.length + 1) σ.length (σ.length + 2) l' = σ ++ zup σ.length l' := fun l' => by simpa using putTab_new σ (l.take k) l' []
  refine gq2 (zc hlen (zc hd hgx)) ?_
  refine zmW hT ?_
  rw [hno]
  refine gq5 ?_
  refine ztJ hT hxb (by rw [List.length_take]; omega) ?_
  rw [hP]
  have e : zfe (l.take k) x = l.take (k + 1) := by
   have h1 : (l.take k).length = k := by rw [List.length_take]; omega
   rw [zfe,hno]
   simp only [h1]
   rw [if_neg (by omega),List.take_add_one,hx]; rfl
  rw [e]
  have hw : IntKind.i64.wrap ((k : Int) + 1) = ((k + 1 : Nat) : Int) := by rw [zJ (by omega) (by omega)]; rfl
  refine gq2 hw ?_
  exact zap.next hlt ⟨rfl,rfl⟩
 ·have hd : decide ((k : Int) < (l.length : Int)) = false := by simp; omega
  rw [List.take_of_length_le (by omega)]
  refine gq2 (zc hlen hd) ?_
  refine zeU (σ' := σ) (os := zup σ.length l) rfl rfl hl (low_tabO _ _) ?_ hK
  exact .tup _ (by simp [zcO]; exact .box _ _ (by simp))
theorem zjB {σ : List zg} {id m t : Nat} {l : List (List UInt8)} (hT : zcd σ id m t l) (hn : l.Nodup) (hl0 : l.length ≤ 1048576) (hb : ∀ b ∈ l,b.length ≤ 1073741824) {K : KT}
  (hK : K (.box (σ.length + 1) 0) (σ ++ zup σ.length l)) : zq Tryz.prog zaD [.box id 0] σ K := by
 refine zct zev.is rfl (fun s => List.range' σ.length 3) fun hl _ => zev.goes ?_
 have hbx := hT.box
 simp only [zex,iN,bT,bF,eN]
 refine gq1 ?_
 refine zvh hT ?_
 refine gq2 hbx ?_
 refine c_From hn hl0 hb ?_
 refine gq1 ?_
 exact zeU (σ' := σ) (os := zup σ.length l) rfl rfl hl (low_tabO _ _) (.box _ _ (by simp)) hK
end Go.Proofs.YtfjommppajkpoaaGreat
