/- Contracts: the document's tables and ledgers. -/
import Derived.Test.YtfgbofkdhfjegaaGreatId2
set_option linter.all false
set_option maxRecDepth 100000
namespace Go.Proofs.YtfgbofkdhfjegaaGreat
open Go.AW
def rtO (l : List (List UInt8)) : zh := .box [.d (.slice (zgH l))]
def rlO (g : List zJ) : zh := .box [.d (.slice (zpH g))]
theorem zfw (n : Nat) (l : List (List UInt8)) : zvs n (rtO l) := by
 intro c hc
 simp only [List.mem_cons,List.not_mem_nil,or_false] at hc
 subst hc; exact .d _
theorem rlO_low (n : Nat) (g : List zJ) : zvs n (rlO g) := by
 intro c hc
 simp only [List.mem_cons,List.not_mem_nil,or_false] at hc
 subst hc; exact .d _
theorem wki (k : Nat) (h : k ≤ 1073741824) : IntKind.i64.wrap ((k : Int) + 1) = ((k + 1 : Nat) : Int) := by rw [zU (by omega) (by omega)]; rfl
theorem gq6 {P Q : Prop} (h : Q) (e : Hd Q → P := by intro h; (repeat' first | simp -dsimp only [↓zeY, ↓zaC, ↓zbz, ↓zeZ, ↓zeU, ↓zeS, ↓zeV, ↓zeT, ↓zbE, ↓zbA, ↓zbF, ↓zbB, ↓zeW, ↓zby, ↓zbG, ↓zbC, ↓zbH, ↓zbD, ↓zeR, ↓zeX, ↓zbx, ↓zbJ, ↓zeP, ↓zeO, ↓zeQ,iN,bT,bF,eN, ↓zcF, ↓unC, ↓zW, ↓zK, ↓zL, ↓zN, ↓zad, ↓zax, ↓zcB, ↓zal, ↓zbj, ↓zQ, ↓zo, ↓zj, ↓zbr, ↓zg, ↓zai, ↓zH, ↓zaM, ↓zaV, ↓ze, ↓zD, ↓zw, ↓zB, ↓zao, ↓zdb, ↓zdx, ↓zaq, ↓zay, ↓zaU, ↓zbd, ↓zbl, ↓zu, ↓zan, ↓zM, ↓zE, ↓zaa,zdz,zbq,zbn,unA,zdy,bnd,zec,zaf,zS,zdY,dm,dm1,zC,zah,zen,zem,zP,Q0,Q1,Q2,Q3,Q4,Q5,zT,zx,zy,zO,zI,Q6,Q7,Q8,Q9,Q10,Q11,Q12,Q13,Q14,Nat.reduceAdd,Q15,Int.reduceToNat,Q16,Q17,Q18,Q19,Q20,reduceIte,Q21,Q22,zG,rep,zZ,zeF,toD,zaj,Q23,Q24,Q25,Q26,Q27,Q28,Nat.reduceLeDiff,Q29,Nat.reduceSub,Q30,Q31,Q32,sc,Q33,Q34,Q35,Q36,Q37,Q26,Q38,Q39,zii,zif,zic,zij,zcN,zig,zid,zih,zie,zcM,zcO,zim,zin,Bool.not_true,Bool.not_false,List.length_map,Bool.and_false,Bool.and_self,Bool.false_and,Bool.not_false,Bool.not_true,Bool.true_and,Int.toNat_natCast,Int.toNat_zero,List.drop_zero,List.length_map,List.length_nil,List.nil_append,List.take_length,Nat.sub_zero,Nat.zero_add,Option.isSome_none,Option.isSome_some,Option.map_none,Option.map_some,zaJ,beq_self_eq_true,bne_self_eq_false,ziw,zfe,zfY,zaU,mgetR,zbd] | with_reducible refine zix ?_ | fail); exact h.go) : P := e ⟨h⟩
theorem c_rtSame {σ : List zh} {a b : List UInt8} {K : KT} (hK : K (.d (.bool (a == b))) σ) : zr Tryz.prog zqc [.d (.slice (bcs a)), .d (.slice (bcs b))] σ K := by
 refine zfJ e_r02_Same fun hl => ?_
 simp only [zvn,iN,bT,bF,eN]
 refine gq6 ?_
 refine zV hl ?_
 exact hK
theorem c_rtLook {σ : List zh} {id : Nat} {l : List (List UInt8)} {b : List UInt8} (hT : σ[id]? = some (rtO l)) (hl0 : l.length ≤ 1048576) {K : KT}
  (hK : K (.tup [.d (.int .i64 (zjH (zdc l b))), .d (.bool (zdc l b).isSome)]) σ) : zr Tryz.prog zhd [.box id 0, .d (.slice (bcs b))] σ K := by
 refine zfJ zrs fun hl => ?_
 have hlen : (zgH l).length = l.length := List.length_map ..
 have hb : σ[id]? = some (.box [.d (.slice (zgH l))]) := hT
 simp only [zlo,iN,bT,bF,eN]
 refine zt l.length (fun k vs s => vs = [.d (.int .i64 k)] ∧ s = σ ∧ zdc (l.take k) b = none) ⟨rfl,rfl,rfl⟩ ?_
 rintro k vs s hk ⟨rfl,rfl,hno⟩
 by_cases hlt : k < l.length
 ·have hd : decide ((k : Int) < (l.length : Int)) = true := by simp; omega
  have hx : l[k]? = some l[k] := by simp [hlt]
  have hgx := zR (f := fun b => [D.slice (bcs b)]) hx
  obtain ⟨x,hxe⟩ : ∃ x,l[k] = x := ⟨_,rfl⟩
  rw [hxe] at hx hgx
  refine gq2 (zf hlen (zf hd (zf hb hgx))) ?_
  refine c_rtSame ?_
  cases he : (x == b)
  ·refine gq2 (wki k (by omega)) ?_
   exact zaF.next hlt ⟨rfl,rfl,look_next hx hno he⟩
  ·rw [look_hit hx hno he] at hK
   refine gq2 (wki k (by omega)) ?_
   refine zV hl ?_
   exact hK
 ·have hd : decide ((k : Int) < (l.length : Int)) = false := by simp; omega
  rw [List.take_of_length_le (by omega)] at hno
  rw [hno] at hK
  refine gq2 (zf hlen (zf hd hb)) ?_
  refine zV hl ?_
  exact hK
theorem gq7 {P Q : Prop} (h : Q) (e : Hd Q → P := by intro h; (repeat' first | simp -dsimp only [↓zeY, ↓zaC, ↓zbz, ↓zeZ, ↓zeU, ↓zeS, ↓zeV, ↓zeT, ↓zbE, ↓zbA, ↓zbF, ↓zbB, ↓zeW, ↓zby, ↓zbG, ↓zbC, ↓zbH, ↓zbD, ↓zeR, ↓zeX, ↓zbx, ↓zbJ, ↓zeP, ↓zeO, ↓zeQ,iN,bT,bF,eN, ↓zcF, ↓unC, ↓zW, ↓zK, ↓zL, ↓zN, ↓zad, ↓zax, ↓zcB, ↓zal, ↓zbj, ↓zQ, ↓zo, ↓zj, ↓zbr, ↓zg, ↓zai, ↓zH, ↓zaM, ↓zaV, ↓ze, ↓zD, ↓zw, ↓zB, ↓zao, ↓zdb, ↓zdx, ↓zaq, ↓zay, ↓zaU, ↓zbd, ↓zbl, ↓zu, ↓zan, ↓zM, ↓zE, ↓zaa,zdz,zbq,zbn,unA,zdy,bnd,zec,zaf,zS,zdY,dm,dm1,zC,zah,zen,zem,zP,Q0,Q1,Q2,Q3,Q4,Q5,zT,zx,zy,zO,zI,Q6,Q7,Q8,Q9,Q10,Q11,Q12,Q13,Q14,Nat.reduceAdd,Q15,Int.reduceToNat,Q16,Q17,Q18,Q19,Q20,reduceIte,Q21,Q22,zG,rep,zZ,zeF,toD,zaj,Q23,Q24,Q25,Q26,Q27,Q28,Nat.reduceLeDiff,Q29,Nat.reduceSub,Q30,Q31,Q32,sc,Q33,Q34,Q35,Q36,Q37,Q26,Q38,Q39,zii,zif,zic,zij,zcN,zig,zid,zih,zie,zcM,zcO,zim,zin,Bool.not_true,Bool.not_false,List.length_map,Bool.and_false,Bool.and_self,Bool.false_and,Bool.not_false,Bool.not_true,Bool.true_and,Int.toNat_natCast,Int.toNat_zero,List.drop_zero,List.length_map,List.length_nil,List.nil_append,List.take_length,Nat.sub_zero,Nat.zero_add,Option.isSome_none,Option.isSome_some,Option.map_none,Option.map_some,zaJ,beq_self_eq_true,bne_self_eq_false,zcr,zer,zhk,zdU,zjH,opA,znM,zhU,zch] | with_reducible refine zix ?_ | fail); exact h.go) : P := e ⟨h⟩
theorem gq8 {A P Q : Prop} (a : A) (h : Q) (e : A → Hd Q → P := by intro a h; (repeat' first | simp -dsimp only [↓zeY, ↓zaC, ↓zbz, ↓zeZ, ↓zeU, ↓zeS, ↓zeV, ↓zeT, ↓zbE, ↓zbA, ↓zbF, ↓zbB, ↓zeW, ↓zby, ↓zbG, ↓zbC, ↓zbH, ↓zbD, ↓zeR, ↓zeX, ↓zbx, ↓zbJ, ↓zeP, ↓zeO, ↓zeQ,iN,bT,bF,eN, ↓zcF, ↓unC, ↓zW, ↓zK, ↓zL, ↓zN, ↓zad, ↓zax, ↓zcB, ↓zal, ↓zbj, ↓zQ, ↓zo, ↓zj, ↓zbr, ↓zg, ↓zai, ↓zH, ↓zaM, ↓zaV, ↓ze, ↓zD, ↓zw, ↓zB, ↓zao, ↓zdb, ↓zdx, ↓zaq, ↓zay, ↓zaU, ↓zbd, ↓zbl, ↓zu, ↓zan, ↓zM, ↓zE, ↓zaa,zdz,zbq,zbn,unA,zdy,bnd,zec,zaf,zS,zdY,dm,dm1,zC,zah,zen,zem,zP,Q0,Q1,Q2,Q3,Q4,Q5,zT,zx,zy,zO,zI,Q6,Q7,Q8,Q9,Q10,Q11,Q12,Q13,Q14,Nat.reduceAdd,Q15,Int.reduceToNat,Q16,Q17,Q18,Q19,Q20,reduceIte,Q21,Q22,zG,rep,zZ,zeF,toD,zaj,Q23,Q24,Q25,Q26,Q27,Q28,Nat.reduceLeDiff,Q29,Nat.reduceSub,Q30,Q31,Q32,sc,Q33,Q34,Q35,Q36,Q37,Q26,Q38,Q39,zii,zif,zic,zij,zcN,zig,zid,zih,zie,zcM,zcO,zim,zin,Bool.not_true,Bool.not_false,List.length_map,Bool.and_false,Bool.and_self,Bool.false_and,Bool.not_false,Bool.not_true,Bool.true_and,Int.toNat_natCast,Int.toNat_zero,List.drop_zero,List.length_map,List.length_nil,List.nil_append,List.take_length,Nat.sub_zero,Nat.zero_add,Option.isSome_none,Option.isSome_some,Option.map_none,Option.map_some,zaJ,beq_self_eq_true,bne_self_eq_false,zcr,zer,zhk,zdU,zjH,opA,znM,zhU,zch,a] | with_reducible refine zix ?_ | fail); exact h.go) : P := e a ⟨h⟩
theorem zkZ {σ : List zh} {id : Nat} {l : List (List UInt8)} {b : List UInt8} (hT : σ[id]? = some (rtO l)) (hbl : b.length ≤ 1073741824) (hl0 : l.length ≤ 1048576) {K : KT}
  (hK : K (.d (.int .i64 (zdA l b))) (σ.set id (rtO (zeG l b)))) : zr Tryz.prog zbP [.box id 0, .d (.slice (bcs b))] σ K := by
 refine acall_ofW zme.is rfl fun hl _ => zme.goes ?_
 have hlen : (zgH l).length = l.length := List.length_map ..
 have hb : ∀ τ,(σ ++ τ)[id]? = some (.box [.d (.slice (zgH l))]) := fun τ => zd hT
 have hb0 : σ[id]? = some (.box [.d (.slice (zgH l))]) := hT
 have hlt := zA hT
 simp only [zms,iN,bT,bF,eN]
 refine gq1 ?_
 refine c_rtLook hT hl0 ?_
 cases ho : zdc l b with
 | some k =>
  simp only [zdA,zeG,ho] at hK
  rw [zbo hT] at hK
  refine gq7 ?_
  refine zmO ?_
  refine zV hl ?_
  exact hK
 | none =>
  simp only [zdA,zeG,ho] at hK
  by_cases hfull : l.length ≥ 1048576
  ·rw [if_pos hfull,if_pos hfull,zbo hT] at hK
   have hd : decide ((l.length : Int) ≥ 1048576) = true := by simp; omega
   refine gq8 (zf hb0 (zf hlen hd)) ?_
   refine zmO ?_
   refine zV hl ?_
   exact hK
  ·rw [if_neg hfull,if_neg hfull] at hK
   have hd : decide ((l.length : Int) ≥ 1048576) = false := by simp; omega
   have s1 : ∀ X τ,(σ ++ τ).set id X = σ.set id X ++ τ := fun X τ => zbZ hT
   have g1 : ∀ X τ,(σ.set id X ++ τ)[id]? = some X := fun X τ => zd (zbu hT)
   have bl : (bcs b).length = b.length := zaJ b
   have b1 : ∀ e ∈ bcs b,e.length = 1 := zgd
   have t1 : ∀ e ∈ zgH l,e.length = 1 := zjq (f := fun b => [D.slice (bcs b)]) (fun _ => rfl) l
   refine gq8 (zf hb (zf hb0 (zf hlen (zf hd (zf s1 (zf g1 bl)))))) ?_
   have e : zgH l ++ [[D.slice (bcs b)]] = zgH (l ++ [b]) := by simp [zgH]
   rw [e]
   exact zuK hT (by simp [zeD,dmT,dm,dm1,zcC]) hl hK
theorem c_rgSigned {σ : List zh} {id : Nat} {g : List zJ} {s : zJ} (hG : σ[id]? = some (rlO g)) (hg0 : g.length ≤ 1073741824) {K : KT} (hK : K (.d (.bool (decide (s ∈ g)))) σ) :
  zr Tryz.prog zfz [.box id 0, .agg [.d (.int .i64 s.key), .d (.int .i64 s.dig)]] σ K := by
 refine zfJ zoe fun hl => ?_
 have hlen : (zpH g).length = g.length := List.length_map ..
 have hb : ∀ τ,(σ ++ τ)[id]? = some (.box [.d (.slice (zpH g))]) := fun τ => zd hG
 simp only [ziC,iN,bT,bF,eN]
 refine gq1 ?_
 refine zt g.length (fun k vs q => vs = [.d (.int .i64 k)] ∧ q = σ ++ [.box [.d (.int .i64 s.key), .d (.int .i64 s.dig)]] ∧ s ∉ g.take k) ⟨rfl,rfl,by simp⟩ ?_
 rintro k vs q hk ⟨rfl,rfl,hno⟩
 by_cases hlt : k < g.length
 ·have hd : decide ((k : Int) < (g.length : Int)) = true := by simp; omega
  have hx : g[k]? = some g[k] := by simp [hlt]
  have hgx := zR (f := zhU) hx
  obtain ⟨x,hxe⟩ : ∃ x,g[k] = x := ⟨_,rfl⟩
  rw [hxe] at hx hgx
  by_cases he : x = s
  ·subst he
   rw [decide_eq_true (List.mem_of_getElem? hx)] at hK
   refine gq8 (zf hlen (zf hd (zf hb hgx))) ?_
   refine zV hl ?_
   exact hK
  ·have hn2 : s ∉ g.take (k + 1) := by
    rw [List.take_add_one,hx]; simp
    exact ⟨hno,fun h => he h.symm⟩
   have e : x = s ↔ x.key = s.key ∧ x.dig = s.dig := by cases s; cases x; simp
   cases h1 : (x.key == s.key)
   ·refine gq8 (zf hlen (zf hd (zf hb (zf hgx (zf h1 (wki k (by omega))))))) ?_
    exact zaF.next hlt ⟨rfl,rfl,hn2⟩
   ·have h2 : (x.dig == s.dig) = false := by
     have : ¬ x.dig = s.dig := fun h => he (e.2 ⟨by simpa using h1,h⟩)
     simpa using this
    refine gq8 (zf hlen (zf hd (zf hb (zf hgx (zf h1 (zf h2 (wki k (by omega)))))))) ?_
    exact zaF.next hlt ⟨rfl,rfl,hn2⟩
 ·have hd : decide ((k : Int) < (g.length : Int)) = false := by simp; omega
  rw [List.take_of_length_le (by omega)] at hno
  rw [decide_eq_false hno] at hK
  refine gq2 (zf hlen (zf hd hb)) ?_
  refine zV hl ?_
  exact hK
theorem c_rgSign {σ : List zh} {id : Nat} {g : List zJ} {k d : Int} (hG : σ[id]? = some (rlO g)) (hgl : g.length ≤ 1073741824) {K : KT}
  (hK : K (.tup [zvx (signR k d), .d (.int .i64 (zeh k d))]) (σ.set id (rlO (zfI g k d)))) : zr Tryz.prog zew [.box id 0, .d (.int .i64 k), .d (.int .i64 d)] σ K := by
 refine acall_ofW zjV.is rfl fun hl _ => zjV.goes ?_
 have hb : ∀ τ,(σ ++ τ)[id]? = some (.box [.d (.slice (zpH g))]) := fun τ => zd hG
 have hlen : (zpH g).length = g.length := List.length_map ..
 have bad : zeh k d ≠ 0 → K (.tup [.agg [.d (.int .i64 0), .d (.int .i64 0)], .d (.int .i64 (zeh k d))]) σ := fun h => by
  rw [signR,zfI,if_neg h,if_neg h,zbo hG] at hK
  exact hK
 simp only [zki,iN,bT,bF,eN]
 refine gq1 ?_
 cases h1 : decide (k < 0)
 ·cases h2 : decide (k ≥ 21)
  ·have hk : ¬ (k < 0 ∨ k ≥ 21) := by simp at h1 h2; omega
   cases h3 : decide (d < 1)
   ·have he : zeh k d = 0 := by rw [zeh,if_neg hk,if_neg (by simpa using h3)]
    rw [he,signR,zfI,if_pos he,if_pos he] at hK
    refine gq2 (zf h1 (zf h2 h3)) ?_
    refine c_rgSigned (s := ⟨k,d⟩) (zd hG) hgl ?_
    by_cases hs : (⟨k,d⟩ : zJ) ∈ g
    ·rw [decide_eq_true hs]
     rw [zly,if_pos hs,zbo hG] at hK
     refine gq2 hb ?_
     refine zmO ?_
     refine zV hl ?_
     exact hK
    ·rw [decide_eq_false hs]
     rw [zly,if_neg hs] at hK
     have s1 : ∀ X τ,(σ ++ τ).set id X = σ.set id X ++ τ := fun X τ => zbZ hG
     have L1 : ∀ X : zh, σ.length = (σ.set id X).length := fun X => by simp
     have e1 : ∀ X τ n,(σ.set id X ++ τ)[σ.length + n]? = τ[n]? := fun X τ n => by rw [L1 X]; exact zx ..
     have e3 : ∀ X τ W,(σ.set id X ++ τ).set σ.length W = σ.set id X ++ τ.set 0 W := fun X τ W => by rw [L1 X]; exact zI ..
     have e4 : ∀ X τ,(σ.set id X ++ τ)[σ.length]? = τ[0]? := fun X τ => by rw [L1 X]; exact zy ..
     refine gq2 (zf hb (zf hlen (zf s1 (zf e1 (zf e3 e4))))) ?_
     have e : zpH g ++ [[D.int .i64 k,D.int .i64 d]] = zpH (g ++ [⟨k,d⟩]) := by simp [zpH,zaY,zhU]
     refine ⟨zjq (f := zhU) (fun _ => rfl) g,by simp,by omega,by simp,by omega, ?_⟩
     rw [e]
     exact zuK hG (by simp [zeD,dmT,dm,dm1,zcC,zbT,zeN]) hl hK
   ·have he : zeh k d = 1 := by rw [zeh,if_neg hk,if_pos (by simpa using h3)]
    have := bad (by rw [he]; decide)
    rw [he] at this
    refine gq2 (zf h1 (zf h2 h3)) ?_
    refine zmO ?_
    refine zV hl ?_
    exact this
  ·have he : zeh k d = 20 := by rw [zeh,if_pos (by simp at h2; omega)]
   have := bad (by rw [he]; decide)
   rw [he] at this
   refine gq2 (zf h1 h2) ?_
   refine zmO ?_
   refine zV hl ?_
   exact this
 ·have he : zeh k d = 20 := by rw [zeh,if_pos (by simp at h1; omega)]
  have := bad (by rw [he]; decide)
  rw [he] at this
  refine gq2 h1 ?_
  refine zmO ?_
  refine zV hl ?_
  exact this
end Go.Proofs.YtfgbofkdhfjegaaGreat
