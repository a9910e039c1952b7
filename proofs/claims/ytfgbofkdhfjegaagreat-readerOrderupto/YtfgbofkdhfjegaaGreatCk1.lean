/- Contracts: what is asked of a proof, the program's. -/
import Derived.Test.YtfgbofkdhfjegaaGreatOp1
import Derived.Test.YtfgbofkdhfjegaaGreatOpC
import Derived.Test.YtfgbofkdhfjegaaGreatCodec1
import Derived.Test.YtfgbofkdhfjegaaGreatHd1
import Derived.Test.YtfgbofkdhfjegaaGreatSpUtf
import Derived.Test.YtfgbofkdhfjegaaGreatMk4
import Derived.Test.YtfgbofkdhfjegaaGreatAwFrz
set_option linter.all false
set_option maxRecDepth 100000
namespace Go.Proofs.YtfgbofkdhfjegaaGreat
open Go.AW
abbrev zgf (e : Int) : zh := .box [.d (.int .i64 e)]
theorem zge (n : Nat) (e : Int) : zvs n (zgf e) := by
 intro c hc
 simp only [List.mem_cons,List.not_mem_nil,or_false] at hc
 subst hc; exact .d _
theorem c_says {σ : List zh} {id : Nat} {e x : Int} (hσ : σ[id]? = some (zgf e)) {K : KT} (hK : K (.tup []) (σ.set id (zgf (zhD e x)))) : zr Tryz.prog zap [.box id 0, .d (.int .i64 x)] σ K := by
 refine zfJ znd fun hl => ?_
 simp only [zhx,iN,bT,bF,eN]
 cases h : (e == 0)
 ·rw [zhD,if_pos (by simpa using h),zbo hσ] at hK
  refine zbK (zbc hσ h) ?_
  refine zV hl ?_
  exact hK
 ·rw [zhD,if_neg (by simpa using h)] at hK
  refine zbK (zbc hσ h) ?_
  exact zeo (by simp [zcC,dmT,zbT]) hl (zge _ _) hK
theorem thn_0 (e : Int) : zhD e 0 = e := by
 unfold zhD; split
 ·rfl
 ·rename_i h; simp at h; exact h.symm
theorem ztc {σ : List zh} {id : Nat} {e n lo hi : Int} (hσ : σ[id]? = some (zgf e)) {K : KT} (hK : K (.tup []) (σ.set id (zgf (zhD e (inE n lo hi))))) :
  zr Tryz.prog zau [.box id 0, .d (.int .i64 n), .d (.int .i64 lo), .d (.int .i64 hi)] σ K := by
 refine acE4 zpe fun hl => ?_
 simp only [zjk,iN,bT,bF,eN]
 have bad : (n < lo ∨ n > hi) → zr Tryz.prog zap [.box id 0, .d (.int .i64 100)] σ fun _ s => AW.Ends σ.length K (some []) s := fun h => by
  rw [inE,if_pos h] at hK
  refine c_says hσ ?_
  exact zeo (by simp [zcC,dmT,zbT]) hl (zge _ _) hK
 cases h1 : decide (n < lo)
 ·cases h2 : decide (n > hi)
  ·rw [inE,if_neg (by simp at h1 h2; omega),thn_0,zbo hσ] at hK
   refine zbK (zbc h1 h2) ?_
   refine zV hl ?_
   exact hK
  ·refine zbK (zbc h1 h2) ?_
   exact bad (.inr (by simpa using h2))
 ·refine zbK h1 ?_
  exact bad (.inl (by simpa using h1))
theorem zlc {σ : List zh} {id : Nat} {e n : Int} (hσ : σ[id]? = some (zgf e)) {K : KT} (hK : K (.tup []) (σ.set id (zgf (zhD e (ziM n))))) :
  zr Tryz.prog zag [.box id 0, .d (.int .i64 n)] σ K := by
 refine zfJ zoi fun hl => ?_
 simp only [ziG,iN,bT,bF,eN]
 refine ziq ?_
 refine ztc hσ ?_
 exact zeo (by simp [zcC,dmT,zbT]) hl (zge _ _) hK
theorem c_askPos {σ : List zh} {id : Nat} {e n : Int} (hσ : σ[id]? = some (zgf e)) {K : KT} (hK : K (.tup []) (σ.set id (zgf (zhD e (zvE n))))) :
  zr Tryz.prog zbR [.box id 0, .d (.int .i64 n)] σ K := by
 refine zfJ zoh fun hl => ?_
 simp only [ziF,iN,bT,bF,eN]
 refine ziq ?_
 refine ztc hσ ?_
 exact zeo (by simp [zcC,dmT,zbT]) hl (zge _ _) hK
theorem zka {σ : List zh} {id : Nat} {e n hi : Int} (hσ : σ[id]? = some (zgf e)) {K : KT} (hK : K (.tup []) (σ.set id (zgf (zhD e (inE n 0 hi))))) :
  zr Tryz.prog zaH [.box id 0, .d (.int .i64 n), .d (.int .i64 hi)] σ K := by
 refine acE3 znf fun hl => ?_
 simp only [zhz,iN,bT,bF,eN]
 refine ziq ?_
 refine ztc hσ ?_
 exact zeo (by simp [zcC,dmT,zbT]) hl (zge _ _) hK
theorem c_askName {σ : List zh} {id : Nat} {e : Int} {x : List UInt8} (hσ : σ[id]? = some (zgf e)) (hx : x.length ≤ 1073741824) {K : KT} (hK : K (.tup []) (σ.set id (zgf (zhD e (ztL x))))) :
  zr Tryz.prog zcb [.box id 0, .d (.str x)] σ K := by
 refine zfJ zne fun hl => ?_
 simp only [zhy,iN,bT,bF,eN]
 refine ziq ?_
 refine c_Name hx ?_
 cases h : zdZ x
 ·rw [ztL,if_neg (by simp [h])] at hK
  refine ziq ?_
  refine c_says hσ ?_
  exact zeo (by simp [zcC,dmT,zbT]) hl (zge _ _) hK
 ·rw [ztL,if_pos h,thn_0,zbo hσ] at hK
  refine ziq ?_
  refine zV hl ?_
  exact hK
theorem fst_snoc (e : Int) (l : List Int) (x : Int) : zhD (zcD (e :: l)) x = zcD (e :: (l ++ [x])) := by
 rw [show e :: (l ++ [x]) = (e :: l) ++ [x] from rfl,zhK]
 unfold zhD
 split
 ·rfl
 ·simp [zcD]
theorem zdM {α β : Type} {f : α → β} {l : List α} {k : Nat} {x : α} (h : l[k]? = some x) : (l.take (k + 1)).map f = (l.take k).map f ++ [f x] := by
 rw [List.take_add_one,h]; simp
theorem wkc (k : Nat) (h : k ≤ 1073741824) : IntKind.i64.wrap ((k : Int) + 1) = ((k + 1 : Nat) : Int) := by rw [zU (by omega) (by omega)]; rfl
theorem fst1 (e x : Int) : zcD [e,x] = zhD e x := by
 unfold zhD
 simp only [zcD]
 split
 ·rfl
 ·split
  ·rfl
  ·rename_i h; simp at h; exact h.symm
theorem bft : ((false : Bool) == true) = false := rfl
theorem btf : ((true : Bool) == false) = false := rfl
theorem gq33 {A P Q : Prop} (a : A) (h : Q) (e : A → Hd Q → P := by intro a h; (repeat' first | simp -dsimp only [↓zeY, ↓zaC, ↓zbz, ↓zeZ, ↓zeU, ↓zeS, ↓zeV, ↓zeT, ↓zbE, ↓zbA, ↓zbF, ↓zbB, ↓zeW, ↓zby, ↓zbG, ↓zbC, ↓zbH, ↓zbD, ↓zeR, ↓zeX, ↓zbx, ↓zbJ, ↓zeP, ↓zeO, ↓zeQ,iN,bT,bF,eN, ↓zcF, ↓unC, ↓zW, ↓zK, ↓zL, ↓zN, ↓zad, ↓zax, ↓zcB, ↓zal, ↓zbj, ↓zQ, ↓zo, ↓zj, ↓zbr, ↓zg, ↓zai, ↓zH, ↓zaM, ↓zaV, ↓ze, ↓zD, ↓zw, ↓zB, ↓zao, ↓zdb, ↓zdx, ↓zaq, ↓zay, ↓zaU, ↓zbd, ↓zbl, ↓zu, ↓zan, ↓zM, ↓zE, ↓zaa,zdz,zbq,zbn,unA,zdy,bnd,zec,zaf,zS,zdY,dm,dm1,zC,zah,zen,zem,zP,Q0,Q1,Q2,Q3,Q4,Q5,zT,zx,zy,zO,zI,Q6,Q7,Q8,Q9,Q10,Q11,Q12,Q13,Q14,Nat.reduceAdd,Q15,Int.reduceToNat,Q16,Q17,Q18,Q19,Q20,reduceIte,Q21,Q22,zG,rep,zZ,zeF,toD,zaj,Q23,Q24,Q25,Q26,Q27,Q28,Nat.reduceLeDiff,Q29,Nat.reduceSub,Q30,Q31,Q32,sc,Q33,Q34,Q35,Q36,Q37,Q26,Q38,Q39,zii,zif,zic,zij,zcN,zig,zid,zih,zie,zcM,zcO,zim,zin,Bool.not_true,Bool.not_false,List.length_map,Bool.and_false,Bool.and_self,Bool.false_and,Bool.not_false,Bool.not_true,Bool.true_and,Int.toNat_natCast,Int.toNat_zero,List.drop_zero,List.length_map,List.length_nil,List.nil_append,List.take_length,Nat.sub_zero,Nat.zero_add,Option.isSome_none,Option.isSome_some,Option.map_none,Option.map_some,zaJ,beq_self_eq_true,bft,bne_self_eq_false,btf,zcr,zoo,zer,zhk,hdrD,zdU,zjH,opA,znM,zhU,zkw,zch,a] | with_reducible refine zix ?_ | fail); exact h.go) : P := e a ⟨h⟩
theorem c_askSigns {σ : List zh} {id : Nat} {e : Int} {l : List zJ} (hσ : σ[id]? = some (zgf e)) (hl0 : l.length ≤ 1073741824) {K : KT} (hK : K (.tup []) (σ.set id (zgf (zhD e (zcD (zmE l)))))) :
  zr Tryz.prog zbU [.box id 0, .d (.slice (zaY l))] σ K := by
 refine zfJ zmf fun hl => ?_
 have hlen : (zaY l).length = l.length := List.length_map ..
 have hid := zA hσ
 rw [thn_fst,zmE] at hK
 simp only [zgZ,iN,bT,bF,eN]
 refine zbK hlen ?_
 refine zka hσ ?_
 refine zbK hlen ?_
 refine zt l.length (fun k vs s => vs = [.d (.int .i64 k)] ∧ ∃ T,s = σ.set id (zgf (zcD (e :: (inE l.length 0 13 :: (l.take k).map fun s => zak s.key s.dig)))) ++ T) ⟨rfl, [],by rw [List.take_zero,List.map_nil,fst1,List.append_nil]⟩ ?_
 rintro k vs s hk ⟨rfl,T,rfl⟩
 by_cases hlt : k < l.length
 ·have hd : decide ((k : Int) < (l.length : Int)) = true := by simp; omega
  have hx : l[k]? = some l[k] := by simp [hlt]
  have hgx := zR (f := zhU) hx
  obtain ⟨x,hxe⟩ : ∃ x,l[k] = x := ⟨_,rfl⟩
  rw [hxe] at hx hgx
  have hmn := zdM (f := fun s : zJ => zak s.key s.dig) hx
  have fs := fst_snoc e (inE l.length 0 13 :: (l.take k).map fun s => zak s.key s.dig) (zak x.key x.dig)
  simp only [List.cons_append] at fs
  rw [← hmn] at fs
  obtain ⟨E,hE⟩ : ∃ E,zcD (e :: (inE l.length 0 13 :: (l.take k).map fun s => zak s.key s.dig)) = E := ⟨_,rfl⟩
  rw [hE] at fs ⊢
  have hS : ∀ τ,(σ.set id (zgf E) ++ τ)[id]? = some (zgf E) := fun τ => zd (zbu hσ)
  refine gq33 (zbc hd (zbc hgx hlen)) ?_
  refine zwg ?_
  refine ziq ?_
  refine c_says (e := E) (hS _) ?_
  rw [zbZ (zbu hσ),List.set_set]
  refine zbK (wkc k (by omega)) ?_
  exact zaF.next hlt ⟨rfl,_,by rw [fs]⟩
 ·have hd : decide ((k : Int) < (l.length : Int)) = false := by simp; omega
  rw [List.take_of_length_le (by omega)]
  refine zbK hd ?_
  exact zhQ (by simp [zcC,dmT,zbT]) hl (zge _ _) hK
theorem gq34 {A P Q : Prop} (a : A) (h : Q) (e : A → Hd Q → P := by intro a h; (repeat' first | simp -dsimp only [↓zeY, ↓zaC, ↓zbz, ↓zeZ, ↓zeU, ↓zeS, ↓zeV, ↓zeT, ↓zbE, ↓zbA, ↓zbF, ↓zbB, ↓zeW, ↓zby, ↓zbG, ↓zbC, ↓zbH, ↓zbD, ↓zeR, ↓zeX, ↓zbx, ↓zbJ, ↓zeP, ↓zeO, ↓zeQ,iN,bT,bF,eN, ↓zcF, ↓unC, ↓zW, ↓zK, ↓zL, ↓zN, ↓zad, ↓zax, ↓zcB, ↓zal, ↓zbj, ↓zQ, ↓zo, ↓zj, ↓zbr, ↓zg, ↓zai, ↓zH, ↓zaM, ↓zaV, ↓ze, ↓zD, ↓zw, ↓zB, ↓zao, ↓zdb, ↓zdx, ↓zaq, ↓zay, ↓zaU, ↓zbd, ↓zbl, ↓zu, ↓zan, ↓zM, ↓zE, ↓zaa,zdz,zbq,zbn,unA,zdy,bnd,zec,zaf,zS,zdY,dm,dm1,zC,zah,zen,zem,zP,Q0,Q1,Q2,Q3,Q4,Q5,zT,zx,zy,zO,zI,Q6,Q7,Q8,Q9,Q10,Q11,Q12,Q13,Q14,Nat.reduceAdd,Q15,Int.reduceToNat,Q16,Q17,Q18,Q19,Q20,reduceIte,Q21,Q22,zG,rep,zZ,zeF,toD,zaj,Q23,Q24,Q25,Q26,Q27,Q28,Nat.reduceLeDiff,Q29,Nat.reduceSub,Q30,Q31,Q32,sc,Q33,Q34,Q35,Q36,Q37,Q26,Q38,Q39,zii,zif,zic,zij,zcN,zig,zid,zih,zie,zcM,zcO,zim,zin,Bool.not_true,Bool.not_false,List.length_map,Bool.and_false,Bool.and_self,Bool.false_and,Bool.not_false,Bool.not_true,Bool.true_and,Int.toNat_natCast,Int.toNat_zero,List.drop_zero,List.length_map,List.length_nil,List.nil_append,List.take_length,Nat.sub_zero,Nat.zero_add,Option.isSome_none,Option.isSome_some,Option.map_none,Option.map_some,zaJ,beq_self_eq_true,bft,bne_self_eq_false,btf,a] | with_reducible refine zix ?_ | fail); exact h.go) : P := e a ⟨h⟩
theorem c_askCert {σ : List zh} {id : Nat} {e : Int} {c : zfj} (hσ : σ[id]? = some (zgf e)) (hl0 : c.signs.length ≤ 1073741824) {K : KT} (hK : K (.tup []) (σ.set id (zgf (zhD e (zcD (zhg c)))))) :
  zr Tryz.prog zcc [.box id 0,zoo c] σ K := by
 refine zfJ zng fun hl => ?_
 have hlen : (zaY c.signs).length = c.signs.length := List.length_map ..
 simp only [zhA,iN,bT,bF,eN,zoo]
 have hB : ∀ X,(σ.set id X ++ [zh.box [AV.d (D.int .i64 c.seq),AV.d (D.int .i64 c.dig),AV.d (D.slice (zaY c.signs))]])[σ.length]? = some (zh.box [AV.d (D.int .i64 c.seq),AV.d (D.int .i64 c.dig),AV.d (D.slice (zaY c.signs))]) := fun X => by
  rw [List.getElem?_append_right (by simp)]; simp
 have hS : ∀ E τ,(σ.set id (zgf E) ++ τ)[id]? = some (zgf E) := fun E τ => zd (zbu hσ)
 have hP : ∀ E Y τ,(σ.set id (zgf E) ++ τ).set id Y = σ.set id Y ++ τ := fun E Y τ => by rw [zbZ (zbu hσ),List.set_set]
 have e4 : zhD e (zcD (zhg c)) = zhD (zhD (zhD (zhD e (ziM c.seq)) (ziM c.dig)) (ziv c)) (zcD (zmE c.signs)) := by
  simp only [zhg,zcD,zhD]
  by_cases h0 : e = 0
  ·by_cases h1 : ziM c.seq = 0
   ·by_cases h2 : ziM c.dig = 0
    ·by_cases h3 : ziv c = 0
     ·simp [h0,h1,h2,h3]
     ·simp [h0,h1,h2,h3]
    ·simp [h0,h1,h2]
   ·simp [h0,h1]
  ·simp [h0]
 rw [e4] at hK
 refine ziq ?_
 refine zlc (zd hσ) ?_
 rw [zbZ hσ]
 refine zbK hB ?_
 refine zlc (hS _ _) ?_
 rw [hP]
 obtain ⟨E,hE⟩ : ∃ E,zhD (zhD e (ziM c.seq)) (ziM c.dig) = E := ⟨_,rfl⟩
 rw [hE] at hK ⊢
 have tail : ∀ M,M = ziv c → zr Tryz.prog zbU [.box id 0, .d (.slice (zaY c.signs))] (σ.set id (zgf (zhD E M)) ++ [zh.box [AV.d (D.int .i64 c.seq),AV.d (D.int .i64 c.dig),AV.d (D.slice (zaY c.signs))]]) fun _ s => AW.Ends σ.length K (some []) s := fun M hM => by
  subst hM
  refine c_askSigns (hS _ _) hl0 ?_
  rw [hP]
  exact zhQ (by simp [zcC,dmT,zbT]) hl (zge _ _) hK
 have no : ziv c = 100 → zr Tryz.prog zap [.box id 0, .d (.int .i64 100)] (σ.set id (zgf E) ++ [zh.box [AV.d (D.int .i64 c.seq),AV.d (D.int .i64 c.dig),AV.d (D.slice (zaY c.signs))]]) fun _ s => fl 2 (.box σ.length 0) s fun g s => cA Tryz.prog zbU [.box id 0,g] s fun _ s => AW.Ends σ.length K (some []) s := fun h => by
  refine c_says (hS _ _) ?_
  rw [hP]
  refine zbK hB ?_
  exact tail 100 h.symm
 have yes : ziv c = 0 → zr Tryz.prog zbU [.box id 0, .d (.slice (zaY c.signs))] (σ.set id (zgf E) ++ [zh.box [AV.d (D.int .i64 c.seq),AV.d (D.int .i64 c.dig),AV.d (D.slice (zaY c.signs))]]) fun _ s => AW.Ends σ.length K (some []) s := fun h => by
  have := tail 0 h.symm
  rw [thn_0] at this
  exact this
 cases h1 : (c.seq == 0)
 ·cases h2 : (c.dig == 0)
  ·refine gq34 (zbc hB (zbc h1 h2)) ?_
   exact yes (by simp at h1 h2; simp [ziv,h1,h2])
  ·refine gq34 (zbc hB (zbc h1 h2)) ?_
   exact no (by simp at h1 h2; simp [ziv,h1,h2])
 ·cases h2 : (c.dig == 0)
  ·refine gq34 (zbc hB (zbc h1 h2)) ?_
   exact no (by simp at h1 h2; simp [ziv,h1,h2])
  ·cases h3 : decide ((c.signs.length : Int) > 0)
   ·refine gq34 (zbc hB (zbc h1 (zbc h2 (zbc hlen h3)))) ?_
    exact yes (by simp at h1 h2 h3; simp [ziv,h1,h2,h3])
   ·refine gq34 (zbc hB (zbc h1 (zbc h2 (zbc hlen h3)))) ?_
    exact no (by simp only [beq_iff_eq,decide_eq_true_eq] at h1 h2 h3; rw [ziv,if_pos (.inr ⟨h1,by omega⟩)])
end Go.Proofs.YtfgbofkdhfjegaaGreat

/- The proof of a record in blocks. No program in sight. -/
namespace Go.AW
structure zbw where
 header : zcW
 batch : List zp
 placed : List zaX
abbrev zhp (b : zbw) : List D := [.int .i64 b.header.seq, .int .i64 b.header.prev, .int .i64 b.header.batch, .int .i64 b.header.root, .int .i64 b.header.state, .slice (zdf b.batch), .slice (zaT b.placed)]
abbrev zbW (l : List zbw) : List (List D) := l.map zhp
def isP (t : List UInt8) (o : Int) (p : zaX) : Bool := (p.topic == t) && (p.offset == o)
def plAt (t : List UInt8) (o : Int) : List zaX → Nat → Option Nat
 | [],_ => none
 | p :: r,i => if isP t o p = true then some i else plAt t o r (i + 1)
def znZ (t : List UInt8) (o : Int) : List zbw → Nat → Option (Nat × Nat)
 | [],_ => none
 | b :: r,i => match plAt t o b.placed 0 with
  | some k => some (i,k)
  | none => znZ t o r (i + 1)
def stepS (q : Option Int) (y : Int) : Bool := match q with
 | none => true
 | some x => IntKind.i64.wrap (x + 1) == y
def runF (seq : Int) : Option Int → List zbw → Option (List zcW)
 | _, [] => none
 | q,b :: r => if stepS q b.header.seq = false then none else if b.header.seq = seq then some [b.header] else (runF seq (some b.header.seq) r).map (b.header :: ·)
def ztD : zca := ⟨[], 0, [], [], 0, 0, [],⟨0, 0, []⟩⟩
def zhJ (L : List (List UInt8)) (l : List zbw) (c : zfj) (t : List UInt8) (o : Int) : Int × zca × List (List UInt8) :=
 match znZ t o l 0 with
 | none => (4,ztD,L)
 | some (i,k) => match runF c.seq none (l.drop i) with
  | none => (7,ztD,L)
  | some hs =>
   let b := l.getD i ⟨⟨0, 0, 0, 0, 0⟩, [], []⟩
   let p := zbh b.placed.length L k (b.placed.map zaG)
   (0,⟨t,o,(b.placed.getD k ⟨[], 0, []⟩).rec_,hs,k,b.placed.length,p.1,c⟩,p.2)
theorem plAt_lt {t : List UInt8} {o : Int} : ∀ {l : List zaX} {i k : Nat},plAt t o l i = some k → i ≤ k ∧ k < i + l.length
 | [],_,_,h => by simp [plAt] at h
 | p :: r,i,k,h => by
  simp only [plAt] at h
  split at h
  ·cases h; simp
  ·have := plAt_lt h; simp; omega
theorem zvN {t : List UInt8} {o : Int} : ∀ {l : List zbw} {j i k : Nat},znZ t o l j = some (i,k) → ∃ n b,i = j + n ∧ l[n]? = some b ∧ k < b.placed.length
 | [],_,_,_,h => by simp [znZ] at h
 | b :: r,j,i,k,h => by
  simp only [znZ] at h
  split at h
  ·rename_i k' hk
   simp only [Option.some.injEq,Prod.mk.injEq] at h
   obtain ⟨rfl,rfl⟩ := h
   exact ⟨0,b,rfl,rfl,by have := plAt_lt hk; omega⟩
  ·obtain ⟨n,b',h1,h2,h3⟩ := zvN h
   exact ⟨n + 1,b',by omega,by simpa using h2,h3⟩
theorem plAt_step {t : List UInt8} {o : Int} {l : List zaX} {k : Nat} {p : zaX} (h : l[k]? = some p) : plAt t o (l.drop k) k = if isP t o p = true then some k else plAt t o (l.drop (k + 1)) (k + 1) := by
 have hk : k < l.length := (List.getElem?_eq_some_iff.1 h).1
 rw [List.drop_eq_getElem_cons hk,(List.getElem?_eq_some_iff.1 h).2]
 rfl
theorem findB_step {t : List UInt8} {o : Int} {l : List zbw} {k : Nat} {b : zbw} (h : l[k]? = some b) : znZ t o (l.drop k) k = match plAt t o b.placed 0 with
  | some j => some (k,j)
  | none => znZ t o (l.drop (k + 1)) (k + 1) := by
 have hk : k < l.length := (List.getElem?_eq_some_iff.1 h).1
 rw [List.drop_eq_getElem_cons hk,(List.getElem?_eq_some_iff.1 h).2]
 rfl
theorem runF_step {seq : Int} {q : Option Int} {l : List zbw} {k : Nat} {b : zbw} (h : l[k]? = some b) : runF seq q (l.drop k) = if stepS q b.header.seq = false then none else if b.header.seq = seq then some [b.header] else (runF seq (some b.header.seq) (l.drop (k + 1))).map (b.header :: ·) := by
 have hk : k < l.length := (List.getElem?_eq_some_iff.1 h).1
 rw [List.drop_eq_getElem_cons hk,(List.getElem?_eq_some_iff.1 h).2]
 rfl
theorem runF_len {seq : Int} : ∀ {l : List zbw} {q : Option Int} {hs : List zcW},runF seq q l = some hs → hs.length ≤ l.length
 | [],_,_,h => by simp [runF] at h
 | b :: r,q,hs,h => by
  simp only [runF] at h
  split at h
  ·cases h
  ·split at h
   ·cases h; simp
   ·simp only [Option.map_eq_some_iff] at h
    obtain ⟨a,ha,rfl⟩ := h
    have := runF_len ha
    simp; omega
end Go.AW

/- Contracts: the proof of a record: where it stands, which headers lead to the certificate; on both sides. -/
set_option maxRecDepth 100000
namespace Go.Proofs.YtfgbofkdhfjegaaGreat
open Go.AW
structure zrV (b : zbw) : Prop where
 seq : ziL b.header.seq
 len : b.placed.length ≤ 1048576
 each : ∀ p ∈ b.placed,zlJ p
def zmk (l : List zbw) : Nat → Option Int
 | 0 => none
 | k + 1 => (l[k]?).map fun b => b.header.seq
end Go.Proofs.YtfgbofkdhfjegaaGreat

/- Requests that wait: of each client at most one. No program in sight. -/
namespace Go.AW
abbrev PQ := List (Option zp)
structure zhM (q : PQ) : Prop where
 len : q.length = 8
 at_ : ∀ (i : Nat) x,q[i]? = some (some x) → x.client = i ∧ zY [x] = 0 ∧ okO x.op
def zei (q : PQ) : List zp := q.filterMap id
def ofF (q : PQ) (c : Int) : Option zp := if 0 ≤ c ∧ c < 8 then (q[c.toNat]?).join else none
def mayPut : Option zp → Int → Bool
 | some y,t => decide (y.time < t)
 | none,_ => true
def mayDone : Option zp → Int → Bool
 | some y,t => decide (y.time ≤ t)
 | none,_ => false
def canPut (q : PQ) (x : zp) : Bool := decide (zY [x] = 0) && mayPut (ofF q x.client) x.time
def putQ (q : PQ) (x : zp) : PQ := if canPut q x = true then q.set x.client.toNat (some x) else q
def canDone (q : PQ) (c t : Int) : Bool := mayDone (ofF q c) t
def doneQ (q : PQ) (c t : Int) : PQ := if canDone q c t = true then q.set c.toNat none else q
theorem one_ok {x : zp} (h : zY [x] = 0) : 0 ≤ x.client ∧ x.client < 8 ∧ 1 ≤ x.time ∧ x.time ≤ 9007199254740992 ∧ zbp zdZ x.op = 0 ∧ zaz x = 0 ∧ zak x.key x.dig = 0 := by
 simp only [zY,List.length_singleton,zmc,errF] at h
 have h1 : ¬ (1 > 4) := by omega
 rw [if_neg h1] at h
 by_cases hr : zaz x = 0
 ·by_cases hs : zak x.key x.dig = 0
  ·unfold zaz at hr
   split at hr
   ·cases hr
   ·rename_i hc
    have hr' : zaz x = 0 := by unfold zaz; rw [if_neg hc]; exact hr
    exact ⟨by omega,by omega,by omega,by omega,hr,hr',hs⟩
  ·exfalso
   simp [hr,hs] at h
 ·exfalso
  simp [hr] at h
theorem ofF_some {q : PQ} {c : Int} {x : zp} (h : ofF q c = some x) : 0 ≤ c ∧ c < 8 ∧ q[c.toNat]? = some (some x) := by
 unfold ofF at h
 split at h
 ·rename_i hc
  refine ⟨hc.1,hc.2, ?_⟩
  cases hq : q[c.toNat]? with
  | none => rw [hq] at h; cases h
  | some o => rw [hq] at h; simp at h; rw [h]
 ·cases h
theorem zhM.get {q : PQ} (hq : zhM q) {c : Int} (h0 : 0 ≤ c) (h8 : c < 8) : q[c.toNat]? = some (ofF q c) := by
 have hl := hq.len
 have : q[c.toNat]? = some (q[c.toNat]'(by omega)) := List.getElem?_eq_getElem _
 unfold ofF
 rw [if_pos ⟨h0,h8⟩,this]
 rfl
theorem zhM.put {q : PQ} (hq : zhM q) {x : zp} (hx : okO x.op) : zhM (putQ q x) := by
 unfold putQ
 split
 ·rename_i hc
  simp only [canPut,Bool.and_eq_true,decide_eq_true_eq] at hc
  obtain ⟨h0,h8,_⟩ := one_ok hc.1
  refine ⟨by simp [hq.len],fun i y h => ?_⟩
  rw [List.getElem?_set] at h
  split at h
  ·rename_i e
   split at h
   ·simp at h; subst h
    exact ⟨by omega,hc.1,hx⟩
   ·cases h
  ·exact hq.at_ i y h
 ·exact hq
theorem zhM.done {q : PQ} (hq : zhM q) {c t : Int} : zhM (doneQ q c t) := by
 unfold doneQ
 split
 ·refine ⟨by simp [hq.len],fun i y h => ?_⟩
  rw [List.getElem?_set] at h
  split at h
  ·split at h
   ·simp at h
   ·cases h
  ·exact hq.at_ i y h
 ·exact hq
theorem zoz {q : PQ} {x : zp} (h : x ∈ zei q) : ∃ i : Nat,q[i]? = some (some x) := by
 simp only [zei,List.mem_filterMap,id_eq,exists_eq_right] at h
 exact List.mem_iff_getElem?.1 h
end Go.AW

/- Contracts: a pool: made, asked, put into, done. -/
set_option maxRecDepth 100000
namespace Go.Proofs.YtfgbofkdhfjegaaGreat
open Go.AW
def digE (L : List (List UInt8)) (l : List zp) : Int := if zY l ≠ 0 then zY l else if zdA L (zkb l) = 0 then 6 else 0
def digD (L : List (List UInt8)) (l : List zp) : Int := if zY l ≠ 0 then 0 else zdA L (zkb l)
def zkW (L : List (List UInt8)) (l : List zp) : List (List UInt8) := if zY l ≠ 0 then L else zeG L (zkb l)
end Go.Proofs.YtfgbofkdhfjegaaGreat
