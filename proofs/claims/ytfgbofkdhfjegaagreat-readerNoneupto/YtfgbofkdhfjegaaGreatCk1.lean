/- Contracts: what is asked of a proof, the program's. -/
import Derived.Test.YtfgbofkdhfjegaaGreatOp1
import Derived.Test.YtfgbofkdhfjegaaGreatOpC
import Derived.Test.YtfgbofkdhfjegaaGreatCodec1
import Derived.Test.YtfgbofkdhfjegaaGreatHd1
import Derived.Test.YtfgbofkdhfjegaaGreatSpUtf
import Derived.Test.YtfgbofkdhfjegaaGreatMk4
import Derived.Test.YtfgbofkdhfjegaaGreatAwFrz
set_option linter.all false
set_option maxRecDepth 100000
namespace Go.Proofs.YtfgbofkdhfjegaaGreat
open Go.AW
abbrev zgv (e : Int) : zh := .box [.d (.int .i64 e)]
theorem zgu (n : Nat) (e : Int) : zug n (zgv e) := by
 intro c hc
 simp only [List.mem_cons,List.not_mem_nil,or_false] at hc
 subst hc; exact .d _
theorem c_says {σ : List zh} {id : Nat} {e x : Int} (hσ : σ[id]? = some (zgv e)) {K : KT} (hK : K (.tup []) (σ.set id (zgv (zhT e x)))) : zp Tryz.prog zal [.box id 0, .d (.int .i64 x)] σ K := by
 refine zfY znr fun hl => ?_
 simp only [zhO,iN,bT,bF,eN]
 cases h : (e == 0)
 ·rw [zhT,if_pos (by simpa using h),zbq hσ] at hK
  refine zbA (zbe hσ h) ?_
  refine zT hl ?_
  exact hK
 ·rw [zhT,if_neg (by simpa using h)] at hK
  refine zbA (zbe hσ h) ?_
  exact zer (by simp [zcC,dmT,zbL]) hl (zgu _ _) hK
theorem thn_0 (e : Int) : zhT e 0 = e := by
 unfold zhT; split
 ·rfl
 ·rename_i h; simp at h; exact h.symm
theorem zti {σ : List zh} {id : Nat} {e n lo hi : Int} (hσ : σ[id]? = some (zgv e)) {K : KT} (hK : K (.tup []) (σ.set id (zgv (zhT e (inE n lo hi))))) :
  zp Tryz.prog zau [.box id 0, .d (.int .i64 n), .d (.int .i64 lo), .d (.int .i64 hi)] σ K := by
 refine acE4 zpo fun hl => ?_
 simp only [zjo,iN,bT,bF,eN]
 have bad : (n < lo ∨ n > hi) → zp Tryz.prog zal [.box id 0, .d (.int .i64 100)] σ fun _ s => AW.Ends σ.length K (some []) s := fun h => by
  rw [inE,if_pos h] at hK
  refine c_says hσ ?_
  exact zer (by simp [zcC,dmT,zbL]) hl (zgu _ _) hK
 cases h1 : decide (n < lo)
 ·cases h2 : decide (n > hi)
  ·rw [inE,if_neg (by simp at h1 h2; omega),thn_0,zbq hσ] at hK
   refine zbA (zbe h1 h2) ?_
   refine zT hl ?_
   exact hK
  ·refine zbA (zbe h1 h2) ?_
   exact bad (.inr (by simpa using h2))
 ·refine zbA h1 ?_
  exact bad (.inl (by simpa using h1))
theorem zlo {σ : List zh} {id : Nat} {e n : Int} (hσ : σ[id]? = some (zgv e)) {K : KT} (hK : K (.tup []) (σ.set id (zgv (zhT e (ziN n))))) :
  zp Tryz.prog zad [.box id 0, .d (.int .i64 n)] σ K := by
 refine zfY zos fun hl => ?_
 simp only [ziJ,iN,bT,bF,eN]
 refine ziv ?_
 refine zti hσ ?_
 exact zer (by simp [zcC,dmT,zbL]) hl (zgu _ _) hK
theorem c_askPos {σ : List zh} {id : Nat} {e n : Int} (hσ : σ[id]? = some (zgv e)) {K : KT} (hK : K (.tup []) (σ.set id (zgv (zhT e (zvL n))))) :
  zp Tryz.prog zbJ [.box id 0, .d (.int .i64 n)] σ K := by
 refine zfY zor fun hl => ?_
 simp only [ziI,iN,bT,bF,eN]
 refine ziv ?_
 refine zti hσ ?_
 exact zer (by simp [zcC,dmT,zbL]) hl (zgu _ _) hK
theorem zko {σ : List zh} {id : Nat} {e n hi : Int} (hσ : σ[id]? = some (zgv e)) {K : KT} (hK : K (.tup []) (σ.set id (zgv (zhT e (inE n 0 hi))))) :
  zp Tryz.prog zaL [.box id 0, .d (.int .i64 n), .d (.int .i64 hi)] σ K := by
 refine acE3 znt fun hl => ?_
 simp only [zhQ,iN,bT,bF,eN]
 refine ziv ?_
 refine zti hσ ?_
 exact zer (by simp [zcC,dmT,zbL]) hl (zgu _ _) hK
theorem c_askName {σ : List zh} {id : Nat} {e : Int} {x : List UInt8} (hσ : σ[id]? = some (zgv e)) (hx : x.length ≤ 1073741824) {K : KT} (hK : K (.tup []) (σ.set id (zgv (zhT e (ztP x))))) :
  zp Tryz.prog zch [.box id 0, .d (.str x)] σ K := by
 refine zfY zns fun hl => ?_
 simp only [zhP,iN,bT,bF,eN]
 refine ziv ?_
 refine c_Name hx ?_
 cases h : zdZ x
 ·rw [ztP,if_neg (by simp [h])] at hK
  refine ziv ?_
  refine c_says hσ ?_
  exact zer (by simp [zcC,dmT,zbL]) hl (zgu _ _) hK
 ·rw [ztP,if_pos h,thn_0,zbq hσ] at hK
  refine ziv ?_
  refine zT hl ?_
  exact hK
theorem fst_snoc (e : Int) (l : List Int) (x : Int) : zhT (zcD (e :: l)) x = zcD (e :: (l ++ [x])) := by
 rw [show e :: (l ++ [x]) = (e :: l) ++ [x] from rfl,zia]
 unfold zhT
 split
 ·rfl
 ·simp [zcD]
theorem zdJ {α β : Type} {f : α → β} {l : List α} {k : Nat} {x : α} (h : l[k]? = some x) : (l.take (k + 1)).map f = (l.take k).map f ++ [f x] := by
 rw [List.take_add_one,h]; simp
theorem wkc (k : Nat) (h : k ≤ 1073741824) : IntKind.i64.wrap ((k : Int) + 1) = ((k + 1 : Nat) : Int) := by rw [zac (by omega) (by omega)]; rfl
theorem fst1 (e x : Int) : zcD [e,x] = zhT e x := by
 unfold zhT
 simp only [zcD]
 split
 ·rfl
 ·split
  ·rfl
  ·rename_i h; simp at h; exact h.symm
theorem bft : ((false : Bool) == true) = false := rfl
theorem btf : ((true : Bool) == false) = false := rfl
theorem gq33 {A P Q : Prop} (a : A) (h : Q) (e : A → Hd Q → P := by intro a h; (repeat' first | simp -dsimp only [↓zfT, ↓zaI, ↓zbP, ↓zfV, ↓zfN, ↓zfL, ↓zfO, ↓zfM, ↓zbU, ↓zbQ, ↓zbV, ↓zbR, ↓zfP, ↓zbN, ↓zbW, ↓zbS, ↓zbX, ↓zbT, ↓zfK, ↓zfQ, ↓zbM, ↓zbY, ↓zfF, ↓zfE, ↓zfH,iN,bT,bF,eN, ↓zcJ, ↓unC, ↓zaa, ↓zK, ↓zL, ↓zO, ↓zaf, ↓zaz, ↓zcK, ↓zar, ↓zbk, ↓zR, ↓zo, ↓zj, ↓zbz, ↓zg, ↓zam, ↓zH, ↓zaV, ↓zbc, ↓ze, ↓zB, ↓zu, ↓zC, ↓zap, ↓zdk, ↓zdO, ↓zav, ↓zaF, ↓zaZ, ↓zbj, ↓zbt, ↓zA, ↓zas, ↓zM, ↓zF, ↓zae,zdP,zbI,zbC,unA,zdL,bnd,zeq,zag,zQ,zek,dm,dm1,zD,zak,zeP,zeO,zP,Q0,Q1,Q2,Q3,Q4,Q5,zW,zt,zy,zN,zJ,Q6,Q7,Q8,Q9,Q10,Q11,Q12,Q13,Q14,Nat.reduceAdd,Q15,Int.reduceToNat,Q16,Q17,Q18,Q19,Q20,reduceIte,Q21,Q22,zG,rep,zab,zfq,toD,zaq,Q23,Q24,Q25,Q26,Q27,Q28,Nat.reduceLeDiff,Q29,Nat.reduceSub,Q30,Q31,Q32,sc,Q33,Q34,Q35,Q36,Q37,Q26,Q38,Q39,zjD,zjA,zjx,zjE,zdf,zjB,zjy,zjC,zjz,zde,zdg,zjG,zjH,Bool.not_true,Bool.not_false,List.length_map,Bool.and_false,Bool.and_self,Bool.false_and,Bool.not_false,Bool.not_true,Bool.true_and,Int.toNat_natCast,Int.toNat_zero,List.drop_zero,List.length_map,List.length_nil,List.nil_append,List.take_length,Nat.sub_zero,Nat.zero_add,Option.isSome_none,Option.isSome_some,Option.map_none,Option.map_some,zaH,beq_self_eq_true,bft,bne_self_eq_false,btf,zcv,zox,zeu,zhB,hdrD,zdT,zjU,opA,znX,zil,zkJ,zcl,a] | with_reducible refine zjK ?_ | fail); exact h.go) : P := e a ⟨h⟩
theorem c_askSigns {σ : List zh} {id : Nat} {e : Int} {l : List zI} (hσ : σ[id]? = some (zgv e)) (hl0 : l.length ≤ 1073741824) {K : KT} (hK : K (.tup []) (σ.set id (zgv (zhT e (zcD (zmS l)))))) :
  zp Tryz.prog zbO [.box id 0, .d (.slice (zbd l))] σ K := by
 refine zfY zms fun hl => ?_
 have hlen : (zbd l).length = l.length := List.length_map ..
 have hid := zx hσ
 rw [thn_fst,zmS] at hK
 simp only [zhq,iN,bT,bF,eN]
 refine zbA hlen ?_
 refine zko hσ ?_
 refine zbA hlen ?_
 refine zr l.length (fun k vs s => vs = [.d (.int .i64 k)] ∧ ∃ T,s = σ.set id (zgv (zcD (e :: (inE l.length 0 13 :: (l.take k).map fun s => zah s.key s.dig)))) ++ T) ⟨rfl, [],by rw [List.take_zero,List.map_nil,fst1,List.append_nil]⟩ ?_
 rintro k vs s hk ⟨rfl,T,rfl⟩
 by_cases hlt : k < l.length
 ·have hd : decide ((k : Int) < (l.length : Int)) = true := by simp; omega
  have hx : l[k]? = some l[k] := by simp [hlt]
  have hgx := zS (f := zil) hx
  obtain ⟨x,hxe⟩ : ∃ x,l[k] = x := ⟨_,rfl⟩
  rw [hxe] at hx hgx
  have hmn := zdJ (f := fun s : zI => zah s.key s.dig) hx
  have fs := fst_snoc e (inE l.length 0 13 :: (l.take k).map fun s => zah s.key s.dig) (zah x.key x.dig)
  simp only [List.cons_append] at fs
  rw [← hmn] at fs
  obtain ⟨E,hE⟩ : ∃ E,zcD (e :: (inE l.length 0 13 :: (l.take k).map fun s => zah s.key s.dig)) = E := ⟨_,rfl⟩
  rw [hE] at fs ⊢
  have hS : ∀ τ,(σ.set id (zgv E) ++ τ)[id]? = some (zgv E) := fun τ => zd (zbv hσ)
  refine gq33 (zbe hd (zbe hgx hlen)) ?_
  refine zwp ?_
  refine ziv ?_
  refine c_says (e := E) (hS _) ?_
  rw [zcd (zbv hσ),List.set_set]
  refine zbA (wkc k (by omega)) ?_
  exact zaG.next hlt ⟨rfl,_,by rw [fs]⟩
 ·have hd : decide ((k : Int) < (l.length : Int)) = false := by simp; omega
  rw [List.take_of_length_le (by omega)]
  refine zbA hd ?_
  exact zig (by simp [zcC,dmT,zbL]) hl (zgu _ _) hK
theorem gq34 {A P Q : Prop} (a : A) (h : Q) (e : A → Hd Q → P := by intro a h; (repeat' first | simp -dsimp only [↓zfT, ↓zaI, ↓zbP, ↓zfV, ↓zfN, ↓zfL, ↓zfO, ↓zfM, ↓zbU, ↓zbQ, ↓zbV, ↓zbR, ↓zfP, ↓zbN, ↓zbW, ↓zbS, ↓zbX, ↓zbT, ↓zfK, ↓zfQ, ↓zbM, ↓zbY, ↓zfF, ↓zfE, ↓zfH,iN,bT,bF,eN, ↓zcJ, ↓unC, ↓zaa, ↓zK, ↓zL, ↓zO, ↓zaf, ↓zaz, ↓zcK, ↓zar, ↓zbk, ↓zR, ↓zo, ↓zj, ↓zbz, ↓zg, ↓zam, ↓zH, ↓zaV, ↓zbc, ↓ze, ↓zB, ↓zu, ↓zC, ↓zap, ↓zdk, ↓zdO, ↓zav, ↓zaF, ↓zaZ, ↓zbj, ↓zbt, ↓zA, ↓zas, ↓zM, ↓zF, ↓zae,zdP,zbI,zbC,unA,zdL,bnd,zeq,zag,zQ,zek,dm,dm1,zD,zak,zeP,zeO,zP,Q0,Q1,Q2,Q3,Q4,Q5,zW,zt,zy,zN,zJ,Q6,Q7,Q8,Q9,Q10,Q11,Q12,Q13,Q14,Nat.reduceAdd,Q15,Int.reduceToNat,Q16,Q17,Q18,Q19,Q20,reduceIte,Q21,Q22,zG,rep,zab,zfq,toD,zaq,Q23,Q24,Q25,Q26,Q27,Q28,Nat.reduceLeDiff,Q29,Nat.reduceSub,Q30,Q31,Q32,sc,Q33,Q34,Q35,Q36,Q37,Q26,Q38,Q39,zjD,zjA,zjx,zjE,zdf,zjB,zjy,zjC,zjz,zde,zdg,zjG,zjH,Bool.not_true,Bool.not_false,List.length_map,Bool.and_false,Bool.and_self,Bool.false_and,Bool.not_false,Bool.not_true,Bool.true_and,Int.toNat_natCast,Int.toNat_zero,List.drop_zero,List.length_map,List.length_nil,List.nil_append,List.take_length,Nat.sub_zero,Nat.zero_add,Option.isSome_none,Option.isSome_some,Option.map_none,Option.map_some,zaH,beq_self_eq_true,bft,bne_self_eq_false,btf,a] | with_reducible refine zjK ?_ | fail); exact h.go) : P := e a ⟨h⟩
theorem c_askCert {σ : List zh} {id : Nat} {e : Int} {c : zff} (hσ : σ[id]? = some (zgv e)) (hl0 : c.signs.length ≤ 1073741824) {K : KT} (hK : K (.tup []) (σ.set id (zgv (zhT e (zcD (zhx c)))))) :
  zp Tryz.prog zci [.box id 0,zox c] σ K := by
 refine zfY znu fun hl => ?_
 have hlen : (zbd c.signs).length = c.signs.length := List.length_map ..
 simp only [zhR,iN,bT,bF,eN,zox]
 have hB : ∀ X,(σ.set id X ++ [zh.box [AV.d (D.int .i64 c.seq),AV.d (D.int .i64 c.dig),AV.d (D.slice (zbd c.signs))]])[σ.length]? = some (zh.box [AV.d (D.int .i64 c.seq),AV.d (D.int .i64 c.dig),AV.d (D.slice (zbd c.signs))]) := fun X => by
  rw [List.getElem?_append_right (by simp)]; simp
 have hS : ∀ E τ,(σ.set id (zgv E) ++ τ)[id]? = some (zgv E) := fun E τ => zd (zbv hσ)
 have hP : ∀ E Y τ,(σ.set id (zgv E) ++ τ).set id Y = σ.set id Y ++ τ := fun E Y τ => by rw [zcd (zbv hσ),List.set_set]
 have e4 : zhT e (zcD (zhx c)) = zhT (zhT (zhT (zhT e (ziN c.seq)) (ziN c.dig)) (ziB c)) (zcD (zmS c.signs)) := by
  simp only [zhx,zcD,zhT]
  by_cases h0 : e = 0
  ·by_cases h1 : ziN c.seq = 0
   ·by_cases h2 : ziN c.dig = 0
    ·by_cases h3 : ziB c = 0
     ·simp [h0,h1,h2,h3]
     ·simp [h0,h1,h2,h3]
    ·simp [h0,h1,h2]
   ·simp [h0,h1]
  ·simp [h0]
 rw [e4] at hK
 refine ziv ?_
 refine zlo (zd hσ) ?_
 rw [zcd hσ]
 refine zbA hB ?_
 refine zlo (hS _ _) ?_
 rw [hP]
 obtain ⟨E,hE⟩ : ∃ E,zhT (zhT e (ziN c.seq)) (ziN c.dig) = E := ⟨_,rfl⟩
 rw [hE] at hK ⊢
 have tail : ∀ M,M = ziB c → zp Tryz.prog zbO [.box id 0, .d (.slice (zbd c.signs))] (σ.set id (zgv (zhT E M)) ++ [zh.box [AV.d (D.int .i64 c.seq),AV.d (D.int .i64 c.dig),AV.d (D.slice (zbd c.signs))]]) fun _ s => AW.Ends σ.length K (some []) s := fun M hM => by
  subst hM
  refine c_askSigns (hS _ _) hl0 ?_
  rw [hP]
  exact zig (by simp [zcC,dmT,zbL]) hl (zgu _ _) hK
 have no : ziB c = 100 → zp Tryz.prog zal [.box id 0, .d (.int .i64 100)] (σ.set id (zgv E) ++ [zh.box [AV.d (D.int .i64 c.seq),AV.d (D.int .i64 c.dig),AV.d (D.slice (zbd c.signs))]]) fun _ s => fl 2 (.box σ.length 0) s fun g s => cA Tryz.prog zbO [.box id 0,g] s fun _ s => AW.Ends σ.length K (some []) s := fun h => by
  refine c_says (hS _ _) ?_
  rw [hP]
  refine zbA hB ?_
  exact tail 100 h.symm
 have yes : ziB c = 0 → zp Tryz.prog zbO [.box id 0, .d (.slice (zbd c.signs))] (σ.set id (zgv E) ++ [zh.box [AV.d (D.int .i64 c.seq),AV.d (D.int .i64 c.dig),AV.d (D.slice (zbd c.signs))]]) fun _ s => AW.Ends σ.length K (some []) s := fun h => by
  have := tail 0 h.symm
  rw [thn_0] at this
  exact this
 cases h1 : (c.seq == 0)
 ·cases h2 : (c.dig == 0)
  ·refine gq34 (zbe hB (zbe h1 h2)) ?_
   exact yes (by simp at h1 h2; simp [ziB,h1,h2])
  ·refine gq34 (zbe hB (zbe h1 h2)) ?_
   exact no (by simp at h1 h2; simp [ziB,h1,h2])
 ·cases h2 : (c.dig == 0)
  ·refine gq34 (zbe hB (zbe h1 h2)) ?_
   exact no (by simp at h1 h2; simp [ziB,h1,h2])
  ·cases h3 : decide ((c.signs.length : Int) > 0)
   ·refine gq34 (zbe hB (zbe h1 (zbe h2 (zbe hlen h3)))) ?_
    exact yes (by simp at h1 h2 h3; simp [ziB,h1,h2,h3])
   ·refine gq34 (zbe hB (zbe h1 (zbe h2 (zbe hlen h3)))) ?_
    exact no (by simp only [beq_iff_eq,decide_eq_true_eq] at h1 h2 h3; rw [ziB,if_pos (.inr ⟨h1,by omega⟩)])
end Go.Proofs.YtfgbofkdhfjegaaGreat

/- The proof of a record in blocks. No program in sight. -/
namespace Go.AW
structure zbx where
 header : zcS
 batch : List zq
 placed : List zbb
abbrev zhG (b : zbx) : List D := [.int .i64 b.header.seq, .int .i64 b.header.prev, .int .i64 b.header.batch, .int .i64 b.header.root, .int .i64 b.header.state, .slice (zdi b.batch), .slice (zbm b.placed)]
abbrev zca (l : List zbx) : List (List D) := l.map zhG
def isP (t : List UInt8) (o : Int) (p : zbb) : Bool := (p.topic == t) && (p.offset == o)
def plAt (t : List UInt8) (o : Int) : List zbb → Nat → Option Nat
 | [],_ => none
 | p :: r,i => if isP t o p = true then some i else plAt t o r (i + 1)
def zok (t : List UInt8) (o : Int) : List zbx → Nat → Option (Nat × Nat)
 | [],_ => none
 | b :: r,i => match plAt t o b.placed 0 with
  | some k => some (i,k)
  | none => zok t o r (i + 1)
def stepS (q : Option Int) (y : Int) : Bool := match q with
 | none => true
 | some x => IntKind.i64.wrap (x + 1) == y
def runF (seq : Int) : Option Int → List zbx → Option (List zcS)
 | _, [] => none
 | q,b :: r => if stepS q b.header.seq = false then none else if b.header.seq = seq then some [b.header] else (runF seq (some b.header.seq) r).map (b.header :: ·)
def ztJ : zcf := ⟨[], 0, [], [], 0, 0, [],⟨0, 0, []⟩⟩
def zhZ (L : List (List UInt8)) (l : List zbx) (c : zff) (t : List UInt8) (o : Int) : Int × zcf × List (List UInt8) :=
 match zok t o l 0 with
 | none => (4,ztJ,L)
 | some (i,k) => match runF c.seq none (l.drop i) with
  | none => (7,ztJ,L)
  | some hs =>
   let b := l.getD i ⟨⟨0, 0, 0, 0, 0⟩, [], []⟩
   let p := zbh b.placed.length L k (b.placed.map zaJ)
   (0,⟨t,o,(b.placed.getD k ⟨[], 0, []⟩).rec_,hs,k,b.placed.length,p.1,c⟩,p.2)
theorem plAt_lt {t : List UInt8} {o : Int} : ∀ {l : List zbb} {i k : Nat},plAt t o l i = some k → i ≤ k ∧ k < i + l.length
 | [],_,_,h => by simp [plAt] at h
 | p :: r,i,k,h => by
  simp only [plAt] at h
  split at h
  ·cases h; simp
  ·have := plAt_lt h; simp; omega
theorem zvV {t : List UInt8} {o : Int} : ∀ {l : List zbx} {j i k : Nat},zok t o l j = some (i,k) → ∃ n b,i = j + n ∧ l[n]? = some b ∧ k < b.placed.length
 | [],_,_,_,h => by simp [zok] at h
 | b :: r,j,i,k,h => by
  simp only [zok] at h
  split at h
  ·rename_i k' hk
   simp only [Option.some.injEq,Prod.mk.injEq] at h
   obtain ⟨rfl,rfl⟩ := h
   exact ⟨0,b,rfl,rfl,by have := plAt_lt hk; omega⟩
  ·obtain ⟨n,b',h1,h2,h3⟩ := zvV h
   exact ⟨n + 1,b',by omega,by simpa using h2,h3⟩
theorem plAt_step {t : List UInt8} {o : Int} {l : List zbb} {k : Nat} {p : zbb} (h : l[k]? = some p) : plAt t o (l.drop k) k = if isP t o p = true then some k else plAt t o (l.drop (k + 1)) (k + 1) := by
 have hk : k < l.length := (List.getElem?_eq_some_iff.1 h).1
 rw [List.drop_eq_getElem_cons hk,(List.getElem?_eq_some_iff.1 h).2]
 rfl
theorem findB_step {t : List UInt8} {o : Int} {l : List zbx} {k : Nat} {b : zbx} (h : l[k]? = some b) : zok t o (l.drop k) k = match plAt t o b.placed 0 with
  | some j => some (k,j)
  | none => zok t o (l.drop (k + 1)) (k + 1) := by
 have hk : k < l.length := (List.getElem?_eq_some_iff.1 h).1
 rw [List.drop_eq_getElem_cons hk,(List.getElem?_eq_some_iff.1 h).2]
 rfl
theorem runF_step {seq : Int} {q : Option Int} {l : List zbx} {k : Nat} {b : zbx} (h : l[k]? = some b) : runF seq q (l.drop k) = if stepS q b.header.seq = false then none else if b.header.seq = seq then some [b.header] else (runF seq (some b.header.seq) (l.drop (k + 1))).map (b.header :: ·) := by
 have hk : k < l.length := (List.getElem?_eq_some_iff.1 h).1
 rw [List.drop_eq_getElem_cons hk,(List.getElem?_eq_some_iff.1 h).2]
 rfl
theorem runF_len {seq : Int} : ∀ {l : List zbx} {q : Option Int} {hs : List zcS},runF seq q l = some hs → hs.length ≤ l.length
 | [],_,_,h => by simp [runF] at h
 | b :: r,q,hs,h => by
  simp only [runF] at h
  split at h
  ·cases h
  ·split at h
   ·cases h; simp
   ·simp only [Option.map_eq_some_iff] at h
    obtain ⟨a,ha,rfl⟩ := h
    have := runF_len ha
    simp; omega
end Go.AW

/- Contracts: the proof of a record: where it stands, which headers lead to the certificate; on both sides. -/
set_option maxRecDepth 100000
namespace Go.Proofs.YtfgbofkdhfjegaaGreat
open Go.AW
structure zse (b : zbx) : Prop where
 seq : ziM b.header.seq
 len : b.placed.length ≤ 1048576
 each : ∀ p ∈ b.placed,zlV p
def zmx (l : List zbx) : Nat → Option Int
 | 0 => none
 | k + 1 => (l[k]?).map fun b => b.header.seq
end Go.Proofs.YtfgbofkdhfjegaaGreat

/- Requests that wait: of each client at most one. No program in sight. -/
namespace Go.AW
abbrev PQ := List (Option zq)
structure zic (q : PQ) : Prop where
 len : q.length = 8
 at_ : ∀ (i : Nat) x,q[i]? = some (some x) → x.client = i ∧ zV [x] = 0 ∧ okO x.op
def zei (q : PQ) : List zq := q.filterMap id
def ofF (q : PQ) (c : Int) : Option zq := if 0 ≤ c ∧ c < 8 then (q[c.toNat]?).join else none
def mayPut : Option zq → Int → Bool
 | some y,t => decide (y.time < t)
 | none,_ => true
def mayDone : Option zq → Int → Bool
 | some y,t => decide (y.time ≤ t)
 | none,_ => false
def canPut (q : PQ) (x : zq) : Bool := decide (zV [x] = 0) && mayPut (ofF q x.client) x.time
def putQ (q : PQ) (x : zq) : PQ := if canPut q x = true then q.set x.client.toNat (some x) else q
def canDone (q : PQ) (c t : Int) : Bool := mayDone (ofF q c) t
def doneQ (q : PQ) (c t : Int) : PQ := if canDone q c t = true then q.set c.toNat none else q
theorem one_ok {x : zq} (h : zV [x] = 0) : 0 ≤ x.client ∧ x.client < 8 ∧ 1 ≤ x.time ∧ x.time ≤ 9007199254740992 ∧ zbr zdZ x.op = 0 ∧ zaA x = 0 ∧ zah x.key x.dig = 0 := by
 simp only [zV,List.length_singleton,zmo,errF] at h
 have h1 : ¬ (1 > 4) := by omega
 rw [if_neg h1] at h
 by_cases hr : zaA x = 0
 ·by_cases hs : zah x.key x.dig = 0
  ·unfold zaA at hr
   split at hr
   ·cases hr
   ·rename_i hc
    have hr' : zaA x = 0 := by unfold zaA; rw [if_neg hc]; exact hr
    exact ⟨by omega,by omega,by omega,by omega,hr,hr',hs⟩
  ·exfalso
   simp [hr,hs] at h
 ·exfalso
  simp [hr] at h
theorem ofF_some {q : PQ} {c : Int} {x : zq} (h : ofF q c = some x) : 0 ≤ c ∧ c < 8 ∧ q[c.toNat]? = some (some x) := by
 unfold ofF at h
 split at h
 ·rename_i hc
  refine ⟨hc.1,hc.2, ?_⟩
  cases hq : q[c.toNat]? with
  | none => rw [hq] at h; cases h
  | some o => rw [hq] at h; simp at h; rw [h]
 ·cases h
theorem zic.get {q : PQ} (hq : zic q) {c : Int} (h0 : 0 ≤ c) (h8 : c < 8) : q[c.toNat]? = some (ofF q c) := by
 have hl := hq.len
 have : q[c.toNat]? = some (q[c.toNat]'(by omega)) := List.getElem?_eq_getElem _
 unfold ofF
 rw [if_pos ⟨h0,h8⟩,this]
 rfl
theorem zic.put {q : PQ} (hq : zic q) {x : zq} (hx : okO x.op) : zic (putQ q x) := by
 unfold putQ
 split
 ·rename_i hc
  simp only [canPut,Bool.and_eq_true,decide_eq_true_eq] at hc
  obtain ⟨h0,h8,_⟩ := one_ok hc.1
  refine ⟨by simp [hq.len],fun i y h => ?_⟩
  rw [List.getElem?_set] at h
  split at h
  ·rename_i e
   split at h
   ·simp at h; subst h
    exact ⟨by omega,hc.1,hx⟩
   ·cases h
  ·exact hq.at_ i y h
 ·exact hq
theorem zic.done {q : PQ} (hq : zic q) {c t : Int} : zic (doneQ q c t) := by
 unfold doneQ
 split
 ·refine ⟨by simp [hq.len],fun i y h => ?_⟩
  rw [List.getElem?_set] at h
  split at h
  ·split at h
   ·simp at h
   ·cases h
  ·exact hq.at_ i y h
 ·exact hq
theorem zoK {q : PQ} {x : zq} (h : x ∈ zei q) : ∃ i : Nat,q[i]? = some (some x) := by
 simp only [zei,List.mem_filterMap,id_eq,exists_eq_right] at h
 exact List.mem_iff_getElem?.1 h
end Go.AW

/- Contracts: a pool: made, asked, put into, done. -/
set_option maxRecDepth 100000
namespace Go.Proofs.YtfgbofkdhfjegaaGreat
open Go.AW
def digE (L : List (List UInt8)) (l : List zq) : Int := if zV l ≠ 0 then zV l else if zdw L (zkp l) = 0 then 6 else 0
def digD (L : List (List UInt8)) (l : List zq) : Int := if zV l ≠ 0 then 0 else zdw L (zkp l)
def zlk (L : List (List UInt8)) (l : List zq) : List (List UInt8) := if zV l ≠ 0 then L else zeI L (zkp l)
end Go.Proofs.YtfgbofkdhfjegaaGreat
