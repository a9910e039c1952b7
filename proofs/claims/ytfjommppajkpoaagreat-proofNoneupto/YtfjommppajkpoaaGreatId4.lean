/- Contracts: the document's tables and ledgers. -/
import Derived.Test.YtfjommppajkpoaaGreatId3
set_option linter.all false
set_option maxRecDepth 100000
namespace Go.Proofs.YtfjommppajkpoaaGreat
open Go.AW
def rtO (l : List (List UInt8)) : zg := .box [.d (.slice (zdo l))]
def rlO (g : List zI) : zg := .box [.d (.slice (zny g))]
theorem zfn (n : Nat) (l : List (List UInt8)) : zuo n (rtO l) := by
 intro c hc
 simp only [List.mem_cons,List.not_mem_nil,or_false] at hc
 subst hc; exact .d _
theorem rlO_low (n : Nat) (g : List zI) : zuo n (rlO g) := by
 intro c hc
 simp only [List.mem_cons,List.not_mem_nil,or_false] at hc
 subst hc; exact .d _
theorem wki (k : Nat) (h : k ≤ 1073741824) : IntKind.i64.wrap ((k : Int) + 1) = ((k + 1 : Nat) : Int) := by rw [zJ (by omega) (by omega)]; rfl
theorem gq6 {P Q : Prop} (h : Q) (e : Hd Q → P := by intro h; (repeat' first | simp -dsimp only [↓zgr, ↓zaF, ↓zbL, ↓zgt, ↓zgn, ↓zgl, ↓zgo, ↓zgm, ↓zbR, ↓zbN, ↓zbS, ↓zbO, ↓zgp, ↓zbJ, ↓zbT, ↓zbP, ↓zbU, ↓zbQ, ↓zgj, ↓zgq, ↓zbI, ↓zbX, ↓zgc, ↓zgb, ↓zgi,iN,bT,bF,eN, ↓zdN, ↓unC, ↓zac, ↓zQ, ↓zR, ↓zV, ↓zak, ↓zau, ↓zco, ↓zag, ↓zaJ, ↓zW, ↓zp, ↓zo, ↓zbF, ↓zl, ↓zan, ↓zF, ↓zaM, ↓zaW, ↓ze, ↓zC, ↓zu, ↓zy, ↓zav, ↓zdr, ↓zdU, ↓zat, ↓zaB, ↓zaU, ↓zbk, ↓zbv, ↓zD, ↓zaq, ↓zS, ↓zE, ↓zam,zeb,zbD,zbB,unA,zei,bnd,zeF,zai,zP,zeE,dm,dm1,zB,zal,zfg,zff,zx,Q0,Q1,Q2,Q3,Q4,Q5,zZ,zh,zm,zT,zN,Q6,Q7,Q8,Q9,Q10,Q11,Q12,Q13,Q14,Nat.reduceAdd,Q15,Int.reduceToNat,Q16,Q17,Q18,Q19,Q20,reduceIte,Q21,Q22,zH,rep,zX,zfc,toD,zah,Q23,Q24,Q25,Q26,Q27,Q28,Nat.reduceLeDiff,Q29,Nat.reduceSub,Q30,Q31,Q32,sc,Q33,Q34,Q35,Q36,Q37,Q26,Q38,Q39,zkn,zkk,zkh,zko,zdu,zkl,zki,zkm,zkj,zdt,zdv,zkp,zkq,Bool.not_true,Bool.not_false,List.length_map,Bool.and_false,Bool.and_self,Bool.false_and,Bool.not_false,Bool.not_true,Bool.true_and,Int.toNat_natCast,Int.toNat_zero,List.drop_zero,List.length_map,List.length_nil,List.nil_append,List.take_length,Nat.sub_zero,Nat.zero_add,Option.isSome_none,Option.isSome_some,Option.map_none,Option.map_some,zaH,beq_self_eq_true,bne_self_eq_false,zmX,zej,zeC,zaU,mgetR,zbk] | with_reducible refine zkr ?_ | fail); exact h.go) : P := e ⟨h⟩
theorem c_rtSame {σ : List zg} {a b : List UInt8} {K : KT} (hK : K (.d (.bool (a == b))) σ) : zq Tryz.prog zoL [.d (.slice (bcs a)), .d (.slice (bcs b))] σ K := by
 refine zga e_r02_Same fun hl => ?_
 simp only [zuj,iN,bT,bF,eN]
 refine gq6 ?_
 refine zK hl ?_
 exact hK
theorem zjD {σ : List zg} {id : Nat} {l : List (List UInt8)} {b : List UInt8} (hT : σ[id]? = some (rtO l)) (hl0 : l.length ≤ 1048576) {K : KT}
  (hK : K (.tup [.d (.int .i64 (zji (zcN l b))), .d (.bool (zcN l b).isSome)]) σ) : zq Tryz.prog zbb [.box id 0, .d (.slice (bcs b))] σ K := by
 refine zga zqi fun hl => ?_
 have hlen : (zdo l).length = l.length := List.length_map ..
 have hb : σ[id]? = some (.box [.d (.slice (zdo l))]) := hT
 simp only [zjS,iN,bT,bF,eN]
 refine zw l.length (fun k vs s => vs = [.d (.int .i64 k)] ∧ s = σ ∧ zcN (l.take k) b = none) ⟨rfl,rfl,rfl⟩ ?_
 rintro k vs s hk ⟨rfl,rfl,hno⟩
 by_cases hlt : k < l.length
 ·have hd : decide ((k : Int) < (l.length : Int)) = true := by simp; omega
  have hx : l[k]? = some l[k] := by simp [hlt]
  have hgx := zU (f := fun b => [D.slice (bcs b)]) hx
  obtain ⟨x,hxe⟩ : ∃ x,l[k] = x := ⟨_,rfl⟩
  rw [hxe] at hx hgx
  refine gq2 (zc hlen (zc hd (zc hb hgx))) ?_
  refine c_rtSame ?_
  cases he : (x == b)
  ·refine gq2 (wki k (by omega)) ?_
   exact zap.next hlt ⟨rfl,rfl,look_next hx hno he⟩
  ·rw [look_hit hx hno he] at hK
   refine gq2 (wki k (by omega)) ?_
   refine zK hl ?_
   exact hK
 ·have hd : decide ((k : Int) < (l.length : Int)) = false := by simp; omega
  rw [List.take_of_length_le (by omega)] at hno
  rw [hno] at hK
  refine gq2 (zc hlen (zc hd hb)) ?_
  refine zK hl ?_
  exact hK
theorem gq7 {P Q : Prop} (h : Q) (e : Hd Q → P := by intro h; (repeat' first | simp -dsimp only [↓zgr, ↓zaF, ↓zbL, ↓zgt, ↓zgn, ↓zgl, ↓zgo, ↓zgm, ↓zbR, ↓zbN, ↓zbS, ↓zbO, ↓zgp, ↓zbJ, ↓zbT, ↓zbP, ↓zbU, ↓zbQ, ↓zgj, ↓zgq, ↓zbI, ↓zbX, ↓zgc, ↓zgb, ↓zgi,iN,bT,bF,eN, ↓zdN, ↓unC, ↓zac, ↓zQ, ↓zR, ↓zV, ↓zak, ↓zau, ↓zco, ↓zag, ↓zaJ, ↓zW, ↓zp, ↓zo, ↓zbF, ↓zl, ↓zan, ↓zF, ↓zaM, ↓zaW, ↓ze, ↓zC, ↓zu, ↓zy, ↓zav, ↓zdr, ↓zdU, ↓zat, ↓zaB, ↓zaU, ↓zbk, ↓zbv, ↓zD, ↓zaq, ↓zS, ↓zE, ↓zam,zeb,zbD,zbB,unA,zei,bnd,zeF,zai,zP,zeE,dm,dm1,zB,zal,zfg,zff,zx,Q0,Q1,Q2,Q3,Q4,Q5,zZ,zh,zm,zT,zN,Q6,Q7,Q8,Q9,Q10,Q11,Q12,Q13,Q14,Nat.reduceAdd,Q15,Int.reduceToNat,Q16,Q17,Q18,Q19,Q20,reduceIte,Q21,Q22,zH,rep,zX,zfc,toD,zah,Q23,Q24,Q25,Q26,Q27,Q28,Nat.reduceLeDiff,Q29,Nat.reduceSub,Q30,Q31,Q32,sc,Q33,Q34,Q35,Q36,Q37,Q26,Q38,Q39,zkn,zkk,zkh,zko,zdu,zkl,zki,zkm,zkj,zdt,zdv,zkp,zkq,Bool.not_true,Bool.not_false,List.length_map,Bool.and_false,Bool.and_self,Bool.false_and,Bool.not_false,Bool.not_true,Bool.true_and,Int.toNat_natCast,Int.toNat_zero,List.drop_zero,List.length_map,List.length_nil,List.nil_append,List.take_length,Nat.sub_zero,Nat.zero_add,Option.isSome_none,Option.isSome_some,Option.map_none,Option.map_some,zaH,beq_self_eq_true,bne_self_eq_false,zcl,zcv,zji,opA,zfI,zeI] | with_reducible refine zkr ?_ | fail); exact h.go) : P := e ⟨h⟩
theorem gq8 {A P Q : Prop} (a : A) (h : Q) (e : A → Hd Q → P := by intro a h; (repeat' first | simp -dsimp only [↓zgr, ↓zaF, ↓zbL, ↓zgt, ↓zgn, ↓zgl, ↓zgo, ↓zgm, ↓zbR, ↓zbN, ↓zbS, ↓zbO, ↓zgp, ↓zbJ, ↓zbT, ↓zbP, ↓zbU, ↓zbQ, ↓zgj, ↓zgq, ↓zbI, ↓zbX, ↓zgc, ↓zgb, ↓zgi,iN,bT,bF,eN, ↓zdN, ↓unC, ↓zac, ↓zQ, ↓zR, ↓zV, ↓zak, ↓zau, ↓zco, ↓zag, ↓zaJ, ↓zW, ↓zp, ↓zo, ↓zbF, ↓zl, ↓zan, ↓zF, ↓zaM, ↓zaW, ↓ze, ↓zC, ↓zu, ↓zy, ↓zav, ↓zdr, ↓zdU, ↓zat, ↓zaB, ↓zaU, ↓zbk, ↓zbv, ↓zD, ↓zaq, ↓zS, ↓zE, ↓zam,zeb,zbD,zbB,unA,zei,bnd,zeF,zai,zP,zeE,dm,dm1,zB,zal,zfg,zff,zx,Q0,Q1,Q2,Q3,Q4,Q5,zZ,zh,zm,zT,zN,Q6,Q7,Q8,Q9,Q10,Q11,Q12,Q13,Q14,Nat.reduceAdd,Q15,Int.reduceToNat,Q16,Q17,Q18,Q19,Q20,reduceIte,Q21,Q22,zH,rep,zX,zfc,toD,zah,Q23,Q24,Q25,Q26,Q27,Q28,Nat.reduceLeDiff,Q29,Nat.reduceSub,Q30,Q31,Q32,sc,Q33,Q34,Q35,Q36,Q37,Q26,Q38,Q39,zkn,zkk,zkh,zko,zdu,zkl,zki,zkm,zkj,zdt,zdv,zkp,zkq,Bool.not_true,Bool.not_false,List.length_map,Bool.and_false,Bool.and_self,Bool.false_and,Bool.not_false,Bool.not_true,Bool.true_and,Int.toNat_natCast,Int.toNat_zero,List.drop_zero,List.length_map,List.length_nil,List.nil_append,List.take_length,Nat.sub_zero,Nat.zero_add,Option.isSome_none,Option.isSome_some,Option.map_none,Option.map_some,zaH,beq_self_eq_true,bne_self_eq_false,zcl,zcv,zji,opA,zfI,zeI,a] | with_reducible refine zkr ?_ | fail); exact h.go) : P := e a ⟨h⟩
theorem zjC {σ : List zg} {id : Nat} {l : List (List UInt8)} {b : List UInt8} (hT : σ[id]? = some (rtO l)) (hbl : b.length ≤ 1073741824) (hl0 : l.length ≤ 1048576) {K : KT}
  (hK : K (.d (.int .i64 (zee l b))) (σ.set id (rtO (zfe l b)))) : zq Tryz.prog zaZ [.box id 0, .d (.slice (bcs b))] σ K := by
 refine acall_ofW zkS.is rfl fun hl _ => zkS.goes ?_
 have hlen : (zdo l).length = l.length := List.length_map ..
 have hb : ∀ τ,(σ ++ τ)[id]? = some (.box [.d (.slice (zdo l))]) := fun τ => zf hT
 have hb0 : σ[id]? = some (.box [.d (.slice (zdo l))]) := hT
 have hlt := zA hT
 simp only [zli,iN,bT,bF,eN]
 refine gq1 ?_
 refine zjD hT hl0 ?_
 cases ho : zcN l b with
 | some k =>
  simp only [zee,zfe,ho] at hK
  rw [zby hT] at hK
  refine gq7 ?_
  refine zlD ?_
  refine zK hl ?_
  exact hK
 | none =>
  simp only [zee,zfe,ho] at hK
  by_cases hfull : l.length ≥ 1048576
  ·rw [if_pos hfull,if_pos hfull,zby hT] at hK
   have hd : decide ((l.length : Int) ≥ 1048576) = true := by simp; omega
   refine gq8 (zc hb0 (zc hlen hd)) ?_
   refine zlD ?_
   refine zK hl ?_
   exact hK
  ·rw [if_neg hfull,if_neg hfull] at hK
   have hd : decide ((l.length : Int) ≥ 1048576) = false := by simp; omega
   have s1 : ∀ X τ,(σ ++ τ).set id X = σ.set id X ++ τ := fun X τ => zbz hT
   have g1 : ∀ X τ,(σ.set id X ++ τ)[id]? = some X := fun X τ => zf (zbs hT)
   have bl : (bcs b).length = b.length := zaH b
   have b1 : ∀ e ∈ bcs b,e.length = 1 := zgs
   have t1 : ∀ e ∈ zdo l,e.length = 1 := zhf (f := fun b => [D.slice (bcs b)]) (fun _ => rfl) l
   refine gq8 (zc hb (zc hb0 (zc hlen (zc hd (zc s1 (zc g1 bl)))))) ?_
   have e : zdo l ++ [[D.slice (bcs b)]] = zdo (l ++ [b]) := by simp [zdo]
   rw [e]
   exact ztB hT (by simp [zcO,dmT,dm,dm1,zbY]) hl hK
theorem ztM {σ : List zg} {id : Nat} {g : List zI} {s : zI} (hG : σ[id]? = some (rlO g)) (hg0 : g.length ≤ 1073741824) {K : KT} (hK : K (.d (.bool (decide (s ∈ g)))) σ) :
  zq Tryz.prog zcU [.box id 0, .agg [.d (.int .i64 s.key), .d (.int .i64 s.dig)]] σ K := by
 refine zga zmO fun hl => ?_
 have hlen : (zny g).length = g.length := List.length_map ..
 have hb : ∀ τ,(σ ++ τ)[id]? = some (.box [.d (.slice (zny g))]) := fun τ => zf hG
 simp only [zhD,iN,bT,bF,eN]
 refine gq1 ?_
 refine zw g.length (fun k vs q => vs = [.d (.int .i64 k)] ∧ q = σ ++ [.box [.d (.int .i64 s.key), .d (.int .i64 s.dig)]] ∧ s ∉ g.take k) ⟨rfl,rfl,by simp⟩ ?_
 rintro k vs q hk ⟨rfl,rfl,hno⟩
 by_cases hlt : k < g.length
 ·have hd : decide ((k : Int) < (g.length : Int)) = true := by simp; omega
  have hx : g[k]? = some g[k] := by simp [hlt]
  have hgx := zU (f := zfI) hx
  obtain ⟨x,hxe⟩ : ∃ x,g[k] = x := ⟨_,rfl⟩
  rw [hxe] at hx hgx
  by_cases he : x = s
  ·subst he
   rw [decide_eq_true (List.mem_of_getElem? hx)] at hK
   refine gq8 (zc hlen (zc hd (zc hb hgx))) ?_
   refine zK hl ?_
   exact hK
  ·have hn2 : s ∉ g.take (k + 1) := by
    rw [List.take_add_one,hx]; simp
    exact ⟨hno,fun h => he h.symm⟩
   have e : x = s ↔ x.key = s.key ∧ x.dig = s.dig := by cases s; cases x; simp
   cases h1 : (x.key == s.key)
   ·refine gq8 (zc hlen (zc hd (zc hb (zc hgx (zc h1 (wki k (by omega))))))) ?_
    exact zap.next hlt ⟨rfl,rfl,hn2⟩
   ·have h2 : (x.dig == s.dig) = false := by
     have : ¬ x.dig = s.dig := fun h => he (e.2 ⟨by simpa using h1,h⟩)
     simpa using this
    refine gq8 (zc hlen (zc hd (zc hb (zc hgx (zc h1 (zc h2 (wki k (by omega)))))))) ?_
    exact zap.next hlt ⟨rfl,rfl,hn2⟩
 ·have hd : decide ((k : Int) < (g.length : Int)) = false := by simp; omega
  rw [List.take_of_length_le (by omega)] at hno
  rw [decide_eq_false hno] at hK
  refine gq2 (zc hlen (zc hd hb)) ?_
  refine zK hl ?_
  exact hK
theorem c_rgSign {σ : List zg} {id : Nat} {g : List zI} {k d : Int} (hG : σ[id]? = some (rlO g)) (hgl : g.length ≤ 1073741824) {K : KT}
  (hK : K (.tup [zut (signR k d), .d (.int .i64 (zeJ k d))]) (σ.set id (rlO (zgI g k d)))) : zq Tryz.prog zdK [.box id 0, .d (.int .i64 k), .d (.int .i64 d)] σ K := by
 refine acall_ofW ziJ.is rfl fun hl _ => ziJ.goes ?_
 have hb : ∀ τ,(σ ++ τ)[id]? = some (.box [.d (.slice (zny g))]) := fun τ => zf hG
 have hlen : (zny g).length = g.length := List.length_map ..
 have bad : zeJ k d ≠ 0 → K (.tup [.agg [.d (.int .i64 0), .d (.int .i64 0)], .d (.int .i64 (zeJ k d))]) σ := fun h => by
  rw [signR,zgI,if_neg h,if_neg h,zby hG] at hK
  exact hK
 simp only [ziV,iN,bT,bF,eN]
 refine gq1 ?_
 cases h1 : decide (k < 0)
 ·cases h2 : decide (k ≥ 21)
  ·have hk : ¬ (k < 0 ∨ k ≥ 21) := by simp at h1 h2; omega
   cases h3 : decide (d < 1)
   ·have he : zeJ k d = 0 := by rw [zeJ,if_neg hk,if_neg (by simpa using h3)]
    rw [he,signR,zgI,if_pos he,if_pos he] at hK
    refine gq2 (zc h1 (zc h2 h3)) ?_
    refine ztM (s := ⟨k,d⟩) (zf hG) hgl ?_
    by_cases hs : (⟨k,d⟩ : zI) ∈ g
    ·rw [decide_eq_true hs]
     rw [zsz,if_pos hs,zby hG] at hK
     refine gq2 hb ?_
     refine zlD ?_
     refine zK hl ?_
     exact hK
    ·rw [decide_eq_false hs]
     rw [zsz,if_neg hs] at hK
     have s1 : ∀ X τ,(σ ++ τ).set id X = σ.set id X ++ τ := fun X τ => zbz hG
     have L1 : ∀ X : zg, σ.length = (σ.set id X).length := fun X => by simp
     have e1 : ∀ X τ n,(σ.set id X ++ τ)[σ.length + n]? = τ[n]? := fun X τ n => by rw [L1 X]; exact zh ..
     have e3 : ∀ X τ W,(σ.set id X ++ τ).set σ.length W = σ.set id X ++ τ.set 0 W := fun X τ W => by rw [L1 X]; exact zN ..
     have e4 : ∀ X τ,(σ.set id X ++ τ)[σ.length]? = τ[0]? := fun X τ => by rw [L1 X]; exact zm ..
     refine gq2 (zc hb (zc hlen (zc s1 (zc e1 (zc e3 e4))))) ?_
     have e : zny g ++ [[D.int .i64 k,D.int .i64 d]] = zny (g ++ [⟨k,d⟩]) := by simp [zny,zas,zfI]
     refine ⟨zhf (f := zfI) (fun _ => rfl) g,by simp,by omega,by simp,by omega, ?_⟩
     rw [e]
     exact ztB hG (by simp [zcO,dmT,dm,dm1,zbY,zbf,zdZ]) hl hK
   ·have he : zeJ k d = 1 := by rw [zeJ,if_neg hk,if_pos (by simpa using h3)]
    have := bad (by rw [he]; decide)
    rw [he] at this
    refine gq2 (zc h1 (zc h2 h3)) ?_
    refine zlD ?_
    refine zK hl ?_
    exact this
  ·have he : zeJ k d = 20 := by rw [zeJ,if_pos (by simp at h2; omega)]
   have := bad (by rw [he]; decide)
   rw [he] at this
   refine gq2 (zc h1 h2) ?_
   refine zlD ?_
   refine zK hl ?_
   exact this
 ·have he : zeJ k d = 20 := by rw [zeJ,if_pos (by simp at h1; omega)]
  have := bad (by rw [he]; decide)
  rw [he] at this
  refine gq2 h1 ?_
  refine zlD ?_
  refine zK hl ?_
  exact this
end Go.Proofs.YtfjommppajkpoaaGreat
