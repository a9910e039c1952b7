/- Contracts: the document's tables and ledgers. -/
import Derived.Test.YtfgbofkdhfjegaaGreatId2
set_option linter.all false
set_option maxRecDepth 100000
namespace Go.Proofs.YtfgbofkdhfjegaaGreat
open Go.AW
def rtO (l : List (List UInt8)) : zh := .box [.d (.slice (zgZ l))]
def rlO (g : List zI) : zh := .box [.d (.slice (zpP g))]
theorem zfs (n : Nat) (l : List (List UInt8)) : zug n (rtO l) := by
 intro c hc
 simp only [List.mem_cons,List.not_mem_nil,or_false] at hc
 subst hc; exact .d _
theorem rlO_low (n : Nat) (g : List zI) : zug n (rlO g) := by
 intro c hc
 simp only [List.mem_cons,List.not_mem_nil,or_false] at hc
 subst hc; exact .d _
theorem wki (k : Nat) (h : k ≤ 1073741824) : IntKind.i64.wrap ((k : Int) + 1) = ((k + 1 : Nat) : Int) := by rw [zac (by omega) (by omega)]; rfl
theorem gq6 {P Q : Prop} (h : Q) (e : Hd Q → P := by intro h; (repeat' first | simp -dsimp only [↓zfT, ↓zaI, ↓zbP, ↓zfV, ↓zfN, ↓zfL, ↓zfO, ↓zfM, ↓zbU, ↓zbQ, ↓zbV, ↓zbR, ↓zfP, ↓zbN, ↓zbW, ↓zbS, ↓zbX, ↓zbT, ↓zfK, ↓zfQ, ↓zbM, ↓zbY, ↓zfF, ↓zfE, ↓zfH,iN,bT,bF,eN, ↓zcJ, ↓unC, ↓zaa, ↓zK, ↓zL, ↓zO, ↓zaf, ↓zaz, ↓zcK, ↓zar, ↓zbk, ↓zR, ↓zo, ↓zj, ↓zbz, ↓zg, ↓zam, ↓zH, ↓zaV, ↓zbc, ↓ze, ↓zB, ↓zu, ↓zC, ↓zap, ↓zdk, ↓zdO, ↓zav, ↓zaF, ↓zaZ, ↓zbj, ↓zbt, ↓zA, ↓zas, ↓zM, ↓zF, ↓zae,zdP,zbI,zbC,unA,zdL,bnd,zeq,zag,zQ,zek,dm,dm1,zD,zak,zeP,zeO,zP,Q0,Q1,Q2,Q3,Q4,Q5,zW,zt,zy,zN,zJ,Q6,Q7,Q8,Q9,Q10,Q11,Q12,Q13,Q14,Nat.reduceAdd,Q15,Int.reduceToNat,Q16,Q17,Q18,Q19,Q20,reduceIte,Q21,Q22,zG,rep,zab,zfq,toD,zaq,Q23,Q24,Q25,Q26,Q27,Q28,Nat.reduceLeDiff,Q29,Nat.reduceSub,Q30,Q31,Q32,sc,Q33,Q34,Q35,Q36,Q37,Q26,Q38,Q39,zjD,zjA,zjx,zjE,zdf,zjB,zjy,zjC,zjz,zde,zdg,zjG,zjH,Bool.not_true,Bool.not_false,List.length_map,Bool.and_false,Bool.and_self,Bool.false_and,Bool.not_false,Bool.not_true,Bool.true_and,Int.toNat_natCast,Int.toNat_zero,List.drop_zero,List.length_map,List.length_nil,List.nil_append,List.take_length,Nat.sub_zero,Nat.zero_add,Option.isSome_none,Option.isSome_some,Option.map_none,Option.map_some,zaH,beq_self_eq_true,bne_self_eq_false,zlq,zfb,zgp,zaZ,mgetR,zbj] | with_reducible refine zjK ?_ | fail); exact h.go) : P := e ⟨h⟩
theorem c_rtSame {σ : List zh} {a b : List UInt8} {K : KT} (hK : K (.d (.bool (a == b))) σ) : zp Tryz.prog zqh [.d (.slice (bcs a)), .d (.slice (bcs b))] σ K := by
 refine zfY e_r02_Same fun hl => ?_
 simp only [zvu,iN,bT,bF,eN]
 refine gq6 ?_
 refine zT hl ?_
 exact hK
theorem c_rtLook {σ : List zh} {id : Nat} {l : List (List UInt8)} {b : List UInt8} (hT : σ[id]? = some (rtO l)) (hl0 : l.length ≤ 1048576) {K : KT}
  (hK : K (.tup [.d (.int .i64 (zjU (zcW l b))), .d (.bool (zcW l b).isSome)]) σ) : zp Tryz.prog zht [.box id 0, .d (.slice (bcs b))] σ K := by
 refine zfY zrz fun hl => ?_
 have hlen : (zgZ l).length = l.length := List.length_map ..
 have hb : σ[id]? = some (.box [.d (.slice (zgZ l))]) := hT
 simp only [zlz,iN,bT,bF,eN]
 refine zr l.length (fun k vs s => vs = [.d (.int .i64 k)] ∧ s = σ ∧ zcW (l.take k) b = none) ⟨rfl,rfl,rfl⟩ ?_
 rintro k vs s hk ⟨rfl,rfl,hno⟩
 by_cases hlt : k < l.length
 ·have hd : decide ((k : Int) < (l.length : Int)) = true := by simp; omega
  have hx : l[k]? = some l[k] := by simp [hlt]
  have hgx := zS (f := fun b => [D.slice (bcs b)]) hx
  obtain ⟨x,hxe⟩ : ∃ x,l[k] = x := ⟨_,rfl⟩
  rw [hxe] at hx hgx
  refine gq2 (zf hlen (zf hd (zf hb hgx))) ?_
  refine c_rtSame ?_
  cases he : (x == b)
  ·refine gq2 (wki k (by omega)) ?_
   exact zaG.next hlt ⟨rfl,rfl,look_next hx hno he⟩
  ·rw [look_hit hx hno he] at hK
   refine gq2 (wki k (by omega)) ?_
   refine zT hl ?_
   exact hK
 ·have hd : decide ((k : Int) < (l.length : Int)) = false := by simp; omega
  rw [List.take_of_length_le (by omega)] at hno
  rw [hno] at hK
  refine gq2 (zf hlen (zf hd hb)) ?_
  refine zT hl ?_
  exact hK
theorem gq7 {P Q : Prop} (h : Q) (e : Hd Q → P := by intro h; (repeat' first | simp -dsimp only [↓zfT, ↓zaI, ↓zbP, ↓zfV, ↓zfN, ↓zfL, ↓zfO, ↓zfM, ↓zbU, ↓zbQ, ↓zbV, ↓zbR, ↓zfP, ↓zbN, ↓zbW, ↓zbS, ↓zbX, ↓zbT, ↓zfK, ↓zfQ, ↓zbM, ↓zbY, ↓zfF, ↓zfE, ↓zfH,iN,bT,bF,eN, ↓zcJ, ↓unC, ↓zaa, ↓zK, ↓zL, ↓zO, ↓zaf, ↓zaz, ↓zcK, ↓zar, ↓zbk, ↓zR, ↓zo, ↓zj, ↓zbz, ↓zg, ↓zam, ↓zH, ↓zaV, ↓zbc, ↓ze, ↓zB, ↓zu, ↓zC, ↓zap, ↓zdk, ↓zdO, ↓zav, ↓zaF, ↓zaZ, ↓zbj, ↓zbt, ↓zA, ↓zas, ↓zM, ↓zF, ↓zae,zdP,zbI,zbC,unA,zdL,bnd,zeq,zag,zQ,zek,dm,dm1,zD,zak,zeP,zeO,zP,Q0,Q1,Q2,Q3,Q4,Q5,zW,zt,zy,zN,zJ,Q6,Q7,Q8,Q9,Q10,Q11,Q12,Q13,Q14,Nat.reduceAdd,Q15,Int.reduceToNat,Q16,Q17,Q18,Q19,Q20,reduceIte,Q21,Q22,zG,rep,zab,zfq,toD,zaq,Q23,Q24,Q25,Q26,Q27,Q28,Nat.reduceLeDiff,Q29,Nat.reduceSub,Q30,Q31,Q32,sc,Q33,Q34,Q35,Q36,Q37,Q26,Q38,Q39,zjD,zjA,zjx,zjE,zdf,zjB,zjy,zjC,zjz,zde,zdg,zjG,zjH,Bool.not_true,Bool.not_false,List.length_map,Bool.and_false,Bool.and_self,Bool.false_and,Bool.not_false,Bool.not_true,Bool.true_and,Int.toNat_natCast,Int.toNat_zero,List.drop_zero,List.length_map,List.length_nil,List.nil_append,List.take_length,Nat.sub_zero,Nat.zero_add,Option.isSome_none,Option.isSome_some,Option.map_none,Option.map_some,zaH,beq_self_eq_true,bne_self_eq_false,zcv,zeu,zhB,zdT,zjU,opA,znX,zil,zcl] | with_reducible refine zjK ?_ | fail); exact h.go) : P := e ⟨h⟩
theorem gq8 {A P Q : Prop} (a : A) (h : Q) (e : A → Hd Q → P := by intro a h; (repeat' first | simp -dsimp only [↓zfT, ↓zaI, ↓zbP, ↓zfV, ↓zfN, ↓zfL, ↓zfO, ↓zfM, ↓zbU, ↓zbQ, ↓zbV, ↓zbR, ↓zfP, ↓zbN, ↓zbW, ↓zbS, ↓zbX, ↓zbT, ↓zfK, ↓zfQ, ↓zbM, ↓zbY, ↓zfF, ↓zfE, ↓zfH,iN,bT,bF,eN, ↓zcJ, ↓unC, ↓zaa, ↓zK, ↓zL, ↓zO, ↓zaf, ↓zaz, ↓zcK, ↓zar, ↓zbk, ↓zR, ↓zo, ↓zj, ↓zbz, ↓zg, ↓zam, ↓zH, ↓zaV, ↓zbc, ↓ze, ↓zB, ↓zu, ↓zC, ↓zap, ↓zdk, ↓zdO, ↓zav, ↓zaF, ↓zaZ, ↓zbj, ↓zbt, ↓zA, ↓zas, ↓zM, ↓zF, ↓zae,zdP,zbI,zbC,unA,zdL,bnd,zeq,zag,zQ,zek,dm,dm1,zD,zak,zeP,zeO,zP,Q0,Q1,Q2,Q3,Q4,Q5,zW,zt,zy,zN,zJ,Q6,Q7,Q8,Q9,Q10,Q11,Q12,Q13,Q14,Nat.reduceAdd,Q15,Int.reduceToNat,Q16,Q17,Q18,Q19,Q20,reduceIte,Q21,Q22,zG,rep,zab,zfq,toD,zaq,Q23,Q24,Q25,Q26,Q27,Q28,Nat.reduceLeDiff,Q29,Nat.reduceSub,Q30,Q31,Q32,sc,Q33,Q34,Q35,Q36,Q37,Q26,Q38,Q39,zjD,zjA,zjx,zjE,zdf,zjB,zjy,zjC,zjz,zde,zdg,zjG,zjH,Bool.not_true,Bool.not_false,List.length_map,Bool.and_false,Bool.and_self,Bool.false_and,Bool.not_false,Bool.not_true,Bool.true_and,Int.toNat_natCast,Int.toNat_zero,List.drop_zero,List.length_map,List.length_nil,List.nil_append,List.take_length,Nat.sub_zero,Nat.zero_add,Option.isSome_none,Option.isSome_some,Option.map_none,Option.map_some,zaH,beq_self_eq_true,bne_self_eq_false,zcv,zeu,zhB,zdT,zjU,opA,znX,zil,zcl,a] | with_reducible refine zjK ?_ | fail); exact h.go) : P := e a ⟨h⟩
theorem zlm {σ : List zh} {id : Nat} {l : List (List UInt8)} {b : List UInt8} (hT : σ[id]? = some (rtO l)) (hbl : b.length ≤ 1073741824) (hl0 : l.length ≤ 1048576) {K : KT}
  (hK : K (.d (.int .i64 (zdw l b))) (σ.set id (rtO (zeI l b)))) : zp Tryz.prog zbG [.box id 0, .d (.slice (bcs b))] σ K := by
 refine acall_ofW zmr.is rfl fun hl _ => zmr.goes ?_
 have hlen : (zgZ l).length = l.length := List.length_map ..
 have hb : ∀ τ,(σ ++ τ)[id]? = some (.box [.d (.slice (zgZ l))]) := fun τ => zd hT
 have hb0 : σ[id]? = some (.box [.d (.slice (zgZ l))]) := hT
 have hlt := zx hT
 simp only [zmF,iN,bT,bF,eN]
 refine gq1 ?_
 refine c_rtLook hT hl0 ?_
 cases ho : zcW l b with
 | some k =>
  simp only [zdw,zeI,ho] at hK
  rw [zbq hT] at hK
  refine gq7 ?_
  refine znd ?_
  refine zT hl ?_
  exact hK
 | none =>
  simp only [zdw,zeI,ho] at hK
  by_cases hfull : l.length ≥ 1048576
  ·rw [if_pos hfull,if_pos hfull,zbq hT] at hK
   have hd : decide ((l.length : Int) ≥ 1048576) = true := by simp; omega
   refine gq8 (zf hb0 (zf hlen hd)) ?_
   refine znd ?_
   refine zT hl ?_
   exact hK
  ·rw [if_neg hfull,if_neg hfull] at hK
   have hd : decide ((l.length : Int) ≥ 1048576) = false := by simp; omega
   have s1 : ∀ X τ,(σ ++ τ).set id X = σ.set id X ++ τ := fun X τ => zcd hT
   have g1 : ∀ X τ,(σ.set id X ++ τ)[id]? = some X := fun X τ => zd (zbv hT)
   have bl : (bcs b).length = b.length := zaH b
   have b1 : ∀ e ∈ bcs b,e.length = 1 := zfz
   have t1 : ∀ e ∈ zgZ l,e.length = 1 := zjt (f := fun b => [D.slice (bcs b)]) (fun _ => rfl) l
   refine gq8 (zf hb (zf hb0 (zf hlen (zf hd (zf s1 (zf g1 bl)))))) ?_
   have e : zgZ l ++ [[D.slice (bcs b)]] = zgZ (l ++ [b]) := by simp [zgZ]
   rw [e]
   exact zuR hT (by simp [zeU,dmT,dm,dm1,zcC]) hl hK
theorem c_rgSigned {σ : List zh} {id : Nat} {g : List zI} {s : zI} (hG : σ[id]? = some (rlO g)) (hg0 : g.length ≤ 1073741824) {K : KT} (hK : K (.d (.bool (decide (s ∈ g)))) σ) :
  zp Tryz.prog zfv [.box id 0, .agg [.d (.int .i64 s.key), .d (.int .i64 s.dig)]] σ K := by
 refine zfY zoo fun hl => ?_
 have hlen : (zpP g).length = g.length := List.length_map ..
 have hb : ∀ τ,(σ ++ τ)[id]? = some (.box [.d (.slice (zpP g))]) := fun τ => zd hG
 simp only [ziF,iN,bT,bF,eN]
 refine gq1 ?_
 refine zr g.length (fun k vs q => vs = [.d (.int .i64 k)] ∧ q = σ ++ [.box [.d (.int .i64 s.key), .d (.int .i64 s.dig)]] ∧ s ∉ g.take k) ⟨rfl,rfl,by simp⟩ ?_
 rintro k vs q hk ⟨rfl,rfl,hno⟩
 by_cases hlt : k < g.length
 ·have hd : decide ((k : Int) < (g.length : Int)) = true := by simp; omega
  have hx : g[k]? = some g[k] := by simp [hlt]
  have hgx := zS (f := zil) hx
  obtain ⟨x,hxe⟩ : ∃ x,g[k] = x := ⟨_,rfl⟩
  rw [hxe] at hx hgx
  by_cases he : x = s
  ·subst he
   rw [decide_eq_true (List.mem_of_getElem? hx)] at hK
   refine gq8 (zf hlen (zf hd (zf hb hgx))) ?_
   refine zT hl ?_
   exact hK
  ·have hn2 : s ∉ g.take (k + 1) := by
    rw [List.take_add_one,hx]; simp
    exact ⟨hno,fun h => he h.symm⟩
   have e : x = s ↔ x.key = s.key ∧ x.dig = s.dig := by cases s; cases x; simp
   cases h1 : (x.key == s.key)
   ·refine gq8 (zf hlen (zf hd (zf hb (zf hgx (zf h1 (wki k (by omega))))))) ?_
    exact zaG.next hlt ⟨rfl,rfl,hn2⟩
   ·have h2 : (x.dig == s.dig) = false := by
     have : ¬ x.dig = s.dig := fun h => he (e.2 ⟨by simpa using h1,h⟩)
     simpa using this
    refine gq8 (zf hlen (zf hd (zf hb (zf hgx (zf h1 (zf h2 (wki k (by omega)))))))) ?_
    exact zaG.next hlt ⟨rfl,rfl,hn2⟩
 ·have hd : decide ((k : Int) < (g.length : Int)) = false := by simp; omega
  rw [List.take_of_length_le (by omega)] at hno
  rw [decide_eq_false hno] at hK
  refine gq2 (zf hlen (zf hd hb)) ?_
  refine zT hl ?_
  exact hK
theorem c_rgSign {σ : List zh} {id : Nat} {g : List zI} {k d : Int} (hG : σ[id]? = some (rlO g)) (hgl : g.length ≤ 1073741824) {K : KT}
  (hK : K (.tup [zvE (signR k d), .d (.int .i64 (zeh k d))]) (σ.set id (rlO (zfW g k d)))) : zp Tryz.prog zez [.box id 0, .d (.int .i64 k), .d (.int .i64 d)] σ K := by
 refine acall_ofW zkj.is rfl fun hl _ => zkj.goes ?_
 have hb : ∀ τ,(σ ++ τ)[id]? = some (.box [.d (.slice (zpP g))]) := fun τ => zd hG
 have hlen : (zpP g).length = g.length := List.length_map ..
 have bad : zeh k d ≠ 0 → K (.tup [.agg [.d (.int .i64 0), .d (.int .i64 0)], .d (.int .i64 (zeh k d))]) σ := fun h => by
  rw [signR,zfW,if_neg h,if_neg h,zbq hG] at hK
  exact hK
 simp only [zkx,iN,bT,bF,eN]
 refine gq1 ?_
 cases h1 : decide (k < 0)
 ·cases h2 : decide (k ≥ 21)
  ·have hk : ¬ (k < 0 ∨ k ≥ 21) := by simp at h1 h2; omega
   cases h3 : decide (d < 1)
   ·have he : zeh k d = 0 := by rw [zeh,if_neg hk,if_neg (by simpa using h3)]
    rw [he,signR,zfW,if_pos he,if_pos he] at hK
    refine gq2 (zf h1 (zf h2 h3)) ?_
    refine c_rgSigned (s := ⟨k,d⟩) (zd hG) hgl ?_
    by_cases hs : (⟨k,d⟩ : zI) ∈ g
    ·rw [decide_eq_true hs]
     rw [zlJ,if_pos hs,zbq hG] at hK
     refine gq2 hb ?_
     refine znd ?_
     refine zT hl ?_
     exact hK
    ·rw [decide_eq_false hs]
     rw [zlJ,if_neg hs] at hK
     have s1 : ∀ X τ,(σ ++ τ).set id X = σ.set id X ++ τ := fun X τ => zcd hG
     have L1 : ∀ X : zh, σ.length = (σ.set id X).length := fun X => by simp
     have e1 : ∀ X τ n,(σ.set id X ++ τ)[σ.length + n]? = τ[n]? := fun X τ n => by rw [L1 X]; exact zt ..
     have e3 : ∀ X τ W,(σ.set id X ++ τ).set σ.length W = σ.set id X ++ τ.set 0 W := fun X τ W => by rw [L1 X]; exact zJ ..
     have e4 : ∀ X τ,(σ.set id X ++ τ)[σ.length]? = τ[0]? := fun X τ => by rw [L1 X]; exact zy ..
     refine gq2 (zf hb (zf hlen (zf s1 (zf e1 (zf e3 e4))))) ?_
     have e : zpP g ++ [[D.int .i64 k,D.int .i64 d]] = zpP (g ++ [⟨k,d⟩]) := by simp [zpP,zbd,zil]
     refine ⟨zjt (f := zil) (fun _ => rfl) g,by simp,by omega,by simp,by omega, ?_⟩
     rw [e]
     exact zuR hG (by simp [zeU,dmT,dm,dm1,zcC,zbL,zeV]) hl hK
   ·have he : zeh k d = 1 := by rw [zeh,if_neg hk,if_pos (by simpa using h3)]
    have := bad (by rw [he]; decide)
    rw [he] at this
    refine gq2 (zf h1 (zf h2 h3)) ?_
    refine znd ?_
    refine zT hl ?_
    exact this
  ·have he : zeh k d = 20 := by rw [zeh,if_pos (by simp at h2; omega)]
   have := bad (by rw [he]; decide)
   rw [he] at this
   refine gq2 (zf h1 h2) ?_
   refine znd ?_
   refine zT hl ?_
   exact this
 ·have he : zeh k d = 20 := by rw [zeh,if_pos (by simp at h1; omega)]
  have := bad (by rw [he]; decide)
  rw [he] at this
  refine gq2 h1 ?_
  refine znd ?_
  refine zT hl ?_
  exact this
end Go.Proofs.YtfgbofkdhfjegaaGreat
